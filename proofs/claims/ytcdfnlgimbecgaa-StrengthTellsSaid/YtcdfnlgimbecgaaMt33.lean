/-
  What more single operations give: elements of arrays, quotients, conversions, slices of two numbers.
-/
import Derived.Test.YtcdfnlgimbecgaaMt31
namespace Go.Proofs.Ytcdfnlgimbecgaa
open Go.RowKit
section
variable {P : Program} {ρ : Operand → Value} {d : Option Nat} {ty : TypeId} {pos : String} {aft : Array Edge} {gd : Option (Nat × Bool)} {v : Value} {w : World}
theorem ok_indexP {T e n sz k b o : Nat} {kk : IntKind} {x y : Operand} (hx : ρ x = .pointer (some ⟨b, o, none⟩)) (hy : ρ y = .int kk (k : Int)) (ht : P.underlying T = some (.array n e)) (hi : (P.info? e).map (·.size) = some sz) (hk : (k : Int) < (n : Int)) (hv : v = .pointer (some ⟨b, o + k * sz, none⟩)) : (execOp ρ ⟨d, .indexAddr T x y, ty, pos, aft, gd⟩).run P w = .ok (.value v) w := by
 subst hv
 cases he : P.info? e with
 | none => rw [he] at hi; cases hi
 | some i =>
  rw [he] at hi
  simp only [Option.map_some, Option.some.injEq] at hi
  have h3 : 0 ≤ (k : Int) ∧ (k : Int) < (n : Int) := ⟨by omega, hk⟩
  unfold execOp
  simp only [hx, hy, Instr.indexAt, asIntOf, Instr.sureAddr, underlying, Sem.run_bind, Sem.run_pure, Result.andThen_ok, ht, run_program]
  simp only [h3, and_self, if_true, sizeOf, typeInfo, Sem.run_bind, Sem.run_pure, Result.andThen_ok, run_program, he, hi, Int.toNat_natCast, add_none]
theorem ok_rem {k : IntKind} {m n z : Int} {t t' : TypeId} {x y : Operand} (hx : ρ x = .int k m) (hy : ρ y = .int k n) (hn : n ≠ 0) (hz : m.tmod n = z) (hv : v = .int k z) : (execOp ρ ⟨d, .binOp .rem t x y t', ty, pos, aft, gd⟩).run P w = .ok (.value v) w := by
 subst hv hz
 unfold execOp
 simp only [hx, hy, eqGuard, binOp, Op.intDiv, hn, ne_eq, not_true_eq_false, if_false, Sem.run_bind, Sem.run_pure]
 rfl
theorem ok_quo {k : IntKind} {m n z : Int} {t t' : TypeId} {x y : Operand} (hx : ρ x = .int k m) (hy : ρ y = .int k n) (hn : n ≠ 0) (hz : k.wrap (m.tdiv n) = z) (hv : v = .int k z) : (execOp ρ ⟨d, .binOp .quo t x y t', ty, pos, aft, gd⟩).run P w = .ok (.value v) w := by
 subst hv hz
 unfold execOp
 simp only [hx, hy, eqGuard, binOp, Op.intDiv, hn, ne_eq, not_true_eq_false, if_false, Sem.run_bind, Sem.run_pure]
 rfl
theorem ok_conv {k k' : IntKind} {s t : Nat} {ds : TypeDesc} {m z : Int} {x : Operand} (hx : ρ x = .int k m) (hs : P.underlying s = some ds) (ht : P.underlying t = some (.int k')) (hz : k'.wrap m = z) (hv : v = .int k' z) : (execOp ρ ⟨d, .convert s t x, ty, pos, aft, gd⟩).run P w = .ok (.value v) w := by
 subst hv hz
 unfold execOp
 simp only [hx, convert, underlying, Sem.run_bind, Sem.run_pure, Result.andThen_ok, run_program, hs, ht, Conv.intToInt]
end
def New2 (base T : Nat) (cs : List Value) (v : Value) (w : World) : Prop := ∃ g, v = .slice (some ⟨g, 0, .none⟩) 2 2 ∧ base ≤ g ∧ w.heap[g]? = some (.cells cs.toArray T (0, 0))
theorem New2.stays {base T : Nat} {cs : List Value} : ∀ v w w', New2 base T cs v w → From w w' → New2 base T cs v w' := by
 rintro v w w' ⟨g, h1, h2, h3⟩ hb
 exact ⟨g, h1, h2, (hb.block _ (Array.getElem?_eq_some_iff.1 h3).1).trans h3⟩
theorem new_slice2 {P : Program} {ρ : Operand → Value} {d : Option Nat} {ty : TypeId} {pos : String} {aft : Array Edge} {gd : Option (Nat × Bool)} {w : World} {t e base : Nat} {x y : Operand} {p q : Int} (hx : ρ x = .int .i64 p) (hy : ρ y = .int .i64 q) (he : elemOf P t = some (e, 1)) (hz : (P.info? e).bind (·.zero) = some (.int .i64 0)) (hb : base ≤ w.heap.size) :
 runsIn P ρ ⟨d, .buildSlice t 2 #[(0, x), (1, y)], ty, pos, aft, gd⟩ w (New2 base e [.int .i64 p, .int .i64 q]) := by
 obtain ⟨h1, i, h2, h4⟩ := elemOf_spec he
 have h3 : (zeroValue e).run P w = .ok (.int .i64 0) w := by
  rw [h2] at hz
  simp only [Option.bind_some] at hz
  unfold zeroValue
  simp only [typeInfo, Sem.run_bind, Sem.run_pure, Result.andThen_ok, run_program, h2, hz]
 have h5 : ((Array.range (2 * 1)).map fun (k : Nat) => (Value.int .i64 0).cells[k % (Value.int .i64 0).cells.size]!) = #[.int .i64 0, .int .i64 0] := by
  apply Array.ext
  · simp
  · intro k hk1 hk2
    have e : (Value.int .i64 0).cells = #[.int .i64 0] := rfl
    simp only [Array.getElem_map, Array.getElem_range, e]
    simp only [List.size_toArray, List.length_cons, List.length_nil] at hk2
    match k, hk2 with
    | 0, _ => rfl
    | 1, _ => rfl
 have h6 : Instr.fill (fun k => some (k * 1, 1)) #[.int .i64 0, .int .i64 0] [(0, Value.int .i64 p), (1, Value.int .i64 q)] = some #[.int .i64 p, .int .i64 q] := rfl
 refine .inl ⟨.slice (some ⟨w.heap.size, 0, none⟩) 2 2, w.alloc (.cells [Value.int .i64 p, .int .i64 q].toArray e), ?_, (Below.refl _ _).alloc (Nat.le_refl _) _, _, rfl, hb, heap_alloc_new w _⟩
 unfold execOp
 simp only [Instr.buildSlice, List.map_toArray, List.map_cons, List.map_nil, underlying, sizeOf, typeInfo, Sem.run_bind, Sem.run_pure, Result.andThen_ok, run_program, h1, h2, h4, hx, hy]
 simp only [show ¬ (2 * 1 > 2 ^ 24) by omega, show ¬ (2 * 1 = 0) by omega, if_false, Sem.run_bind, Sem.run_pure, Result.andThen_ok, h3, h5, h6]
 rfl
theorem New2.rd {w : World} {g T : Nat} {p q : Value} (h : w.heap[g]? = some (.cells #[p, q] T (0, 0))) : Rd w w.heap.size 1 (some ⟨g, 0, none⟩) [[p], [q]] := by
 have hlt : g < w.heap.size := (Array.getElem?_eq_some_iff.1 h).1
 intro k cs hk
 match k, hk with
 | 0, hk =>
  injection hk with hk
  subst hk
  refine ⟨g, 0, rfl, hlt, rfl, fun j u hu => ?_⟩
  match j, hu with
  | 0, hu => rw [cell_of_row w g _ _ _ _ h]; exact hu
  | j + 1, hu => cases hu
 | 1, hk =>
  injection hk with hk
  subst hk
  refine ⟨g, 0, rfl, hlt, rfl, fun j u hu => ?_⟩
  match j, hu with
  | 0, hu => rw [cell_of_row w g _ _ _ _ h]; exact hu
  | j + 1, hu => cases hu
 | k + 2, hk => cases hk
theorem Mem.ldp {w0 w : World} {M : List Ent} (h : Mem w0 w M) {i g T T1 n j : Nat} {cs cs' : List Value} (hT : IsRow Try.prog T1 n) (hn : cs'.length = n) (hi : M[i]? = some (.box g T cs)) (hj : (cs.drop j).take n = cs') (w1 : World) (hb : From w w1) : (loadVar T1 ⟨g, j, .none⟩).run Try.prog w1 = .ok (.agg cs'.toArray) w1 := by
 have h2 : w1.heap[g]? = some (.cells cs.toArray T (0, 0)) := (hb.block g (h.boxlt hi).2).trans (h.cells hi)
 refine run_load_cells (cs := cs') hT hn fun p x hx => ?_
 rw [Addr.add_lit, cell_of_row w1 g (j + p) _ _ _ h2]
 rw [← hj] at hx
 have hp : p < n := by
  rcases Nat.lt_or_ge p n with h3 | h3
  · exact h3
  · rw [hj, List.getElem?_eq_none (by omega)] at hx; cases hx
 rw [List.getElem?_take, if_pos hp, List.getElem?_drop] at hx
 simpa using hx
end Go.Proofs.Ytcdfnlgimbecgaa
namespace Go.Proofs.Ytcdfnlgimbecgaa
theorem pad_get {B : Nat} (hB : 0 < B) : ∀ (k x j : Nat), j < k → (pad B k x)[j]? = some (x / B ^ j % B)
 | 0, _, _, h => by omega
 | k + 1, x, 0, _ => by simp [pad]
 | k + 1, x, j + 1, h => by
  have ih := pad_get hB k (x / B) j (by omega)
  unfold pad
  rw [List.getElem?_cons_succ, ih, Nat.div_div_eq_div_mul, Nat.pow_succ, Nat.mul_comm B]
theorem dig_getD {B : Nat} (hB : 2 ≤ B) (x : Nat) : ∀ j, (dig B x).getD j 0 = x / B ^ j % B := by
 induction x using Nat.strongRecOn with
 | ind x ih =>
  intro j
  by_cases h0 : x = 0
  · subst h0
    rw [dig_zero hB]
    simp
  · rw [dig_pos hB h0]
    cases j with
    | zero => simp
    | succ j =>
     have h1 := ih (x / B) (Nat.div_lt_self (by omega) (by omega)) j
     rw [List.getD_cons_succ, h1, Nat.div_div_eq_div_mul, Nat.pow_succ, Nat.mul_comm B]
def two (l : List Nat) : List Nat := l.flatMap fun d => [d % 65536, d / 65536]
theorem two_val : ∀ l, valB B16 (two l) = valB B32 l
 | [] => rfl
 | d :: l => by
  have ih := two_val l
  unfold two at *
  simp only [List.flatMap_cons, List.cons_append, List.nil_append, valB_cons, ih]
  have e1 : B16 = 65536 := rfl
  have e2 : B32 = 4294967296 := rfl
  rw [e1, e2]
  omega
theorem two_digs : ∀ l, Digs B32 l → Digs B16 (two l)
 | [], _ => by intro d hd; cases hd
 | d :: l, h => by
  intro q hq
  unfold two at hq
  rw [List.flatMap_cons] at hq
  have e1 : B16 = 65536 := rfl
  have e2 : B32 = 4294967296 := rfl
  rcases List.mem_append.1 hq with h1 | h1
  · have := h d (by simp)
    simp only [List.mem_cons, List.not_mem_nil, or_false] at h1
    rcases h1 with rfl | rfl <;> omega
  · exact two_digs l (fun x hx => h x (by simp [hx])) q h1
theorem two_len (l : List Nat) : (two l).length = 2 * l.length := by
 induction l with
 | nil => rfl
 | cons d l ih => unfold two at *; simp only [List.flatMap_cons, List.length_append, ih, List.length_cons, List.length_nil]; omega
theorem two_take {l : List Nat} {i : Nat} (h : i < l.length) : two (l.take (i + 1)) = two (l.take i) ++ [l[i] % 65536, l[i] / 65536] := by
 rw [List.take_succ_eq_append_getElem h]
 unfold two
 rw [List.flatMap_append]
 rfl
def limbAt (D : List Nat) (i k : Nat) : Nat := (if 2 * k < i then D.getD (2 * k) 0 else 0) + 65536 * (if 2 * k + 1 < i then D.getD (2 * k + 1) 0 else 0)
def limbsAt (D : List Nat) (i : Nat) : List Nat := (List.range 8).map (limbAt D i)
theorem limbs_len (D : List Nat) (i : Nat) : (limbsAt D i).length = 8 := by simp [limbsAt]
theorem limbs_get (D : List Nat) (i : Nat) {k : Nat} (h : k < 8) : (limbsAt D i)[k]? = some (limbAt D i k) := by
 unfold limbsAt
 simp [List.getElem?_map, List.getElem?_range h]
theorem limbs_zero (D : List Nat) : limbsAt D 0 = pad B32 8 0 := by
 rw [pad_zero]
 rfl
theorem limbs_even {D : List Nat} {k : Nat} (hk : k < 8) : limbsAt D (2 * k + 1) = (limbsAt D (2 * k)).set k (D.getD (2 * k) 0) := by
 apply List.ext_getElem?
 intro j
 rw [List.getElem?_set, limbs_len]
 rcases Nat.lt_or_ge j 8 with h | h
 · rw [limbs_get D _ h, limbs_get D _ h]
   by_cases hj : k = j
   · subst hj
     rw [if_pos rfl, if_pos hk]
     unfold limbAt
     rw [if_pos (by omega), if_neg (by omega)]
     rfl
   · rw [if_neg hj]
     unfold limbAt
     congr 2
     · by_cases h1 : 2 * j < 2 * k
       · rw [if_pos h1, if_pos (by omega)]
       · rw [if_neg h1, if_neg (by omega)]
     · by_cases h1 : 2 * j + 1 < 2 * k
       · rw [if_pos h1, if_pos (by omega)]
       · rw [if_neg h1, if_neg (by omega)]
 · have h1 := limbs_len D (2 * k + 1)
   have h2 := limbs_len D (2 * k)
   rw [List.getElem?_eq_none (by omega), List.getElem?_eq_none (by omega), if_neg (by omega)]
theorem limbs_odd {D : List Nat} {k : Nat} (hk : k < 8) : limbAt D (2 * k + 1) k = D.getD (2 * k) 0 ∧ limbsAt D (2 * k + 1 + 1) = (limbsAt D (2 * k + 1)).set k (D.getD (2 * k) 0 + D.getD (2 * k + 1) 0 * 65536) := by
 constructor
 · unfold limbAt
   rw [if_pos (by omega), if_neg (by omega)]
   rfl
 · apply List.ext_getElem?
   intro j
   rw [List.getElem?_set, limbs_len]
   rcases Nat.lt_or_ge j 8 with h | h
   · rw [limbs_get D _ h, limbs_get D _ h]
     by_cases hj : k = j
     · subst hj
       rw [if_pos rfl, if_pos hk]
       unfold limbAt
       rw [if_pos (by omega), if_pos (by omega), Nat.mul_comm 65536]
     · rw [if_neg hj]
       unfold limbAt
       congr 2
       · by_cases h1 : 2 * j < 2 * k + 1
         · rw [if_pos h1, if_pos (by omega)]
         · rw [if_neg h1, if_neg (by omega)]
       · by_cases h1 : 2 * j + 1 < 2 * k + 1
         · rw [if_pos h1, if_pos (by omega)]
         · rw [if_neg h1, if_neg (by omega)]
   · have h1 := limbs_len D (2 * k + 1 + 1)
     have h2 := limbs_len D (2 * k + 1)
     rw [List.getElem?_eq_none (by omega), List.getElem?_eq_none (by omega), if_neg (by omega)]
theorem limbs_end {x n : Nat} (hn : (dig B16 x).length ≤ n) : limbsAt (dig B16 x) n = pad B32 8 x := by
 apply List.ext_getElem?
 intro j
 rcases Nat.lt_or_ge j 8 with h | h
 · rw [limbs_get _ _ h, pad_get (by decide) 8 x j h]
   congr 1
   have e : ∀ m, (if m < n then (dig B16 x).getD m 0 else 0) = (dig B16 x).getD m 0 := by
    intro m
    by_cases hm : m < n
    · rw [if_pos hm]
    · rw [if_neg hm, List.getD_eq_getElem?_getD, List.getElem?_eq_none (by omega)]
      rfl
   unfold limbAt
   rw [e, e, dig_getD hB16, dig_getD hB16]
   have e1 : B16 = 65536 := rfl
   have e2 : B32 = 4294967296 := rfl
   have e3 : B32 ^ j = B16 ^ (2 * j) := by
    rw [Nat.pow_mul, e1, e2]
   rw [e3, Nat.pow_succ, ← Nat.div_div_eq_div_mul]
   generalize x / B16 ^ (2 * j) = X
   rw [e1, e2]
   omega
 · have h1 := limbs_len (dig B16 x) n
   have h2 := pad_len B32 8 x
   rw [List.getElem?_eq_none (by omega), List.getElem?_eq_none (by omega)]
open Go.RowKit
def u8s (l : List Nat) : List Value := l.map fun (n : Nat) => Value.int .u32 (n : Int)
theorem u8s_len (l : List Nat) : (u8s l).length = l.length := by simp [u8s]
theorem u8s_get {l : List Nat} {i : Nat} (h : i < l.length) : (u8s l)[i]? = some (.int .u32 (l[i] : Int)) := by simp [u8s, h]
theorem u8s_set (l : List Nat) (i v : Nat) : (u8s l).set i (.int .u32 (v : Int)) = u8s (l.set i v) := by unfold u8s; rw [List.map_set]
set_option maxRecDepth 100000 in
set_option maxHeartbeats 4000000 in
theorem ref_digits (x : Nat) (hx : x < top256) (w : World) :
 Calls Try.prog 106 #[.agg (u8s (pad B32 8 x)).toArray] w fun e w' => ∃ z, e = .returned z ∧ From w w' ∧ Reads (dig B16 x) z w' := by
 have hv : valB B32 (pad B32 8 x) = x := valB_pad (by decide) _ _ (by rw [pow256]; exact hx)
 have hd := pad_digs (B := B32) (by decide) 8 x
 have hl := pad_len B32 8 x
 obtain ⟨L, hL⟩ : ∃ L, L = pad B32 8 x := ⟨_, rfl⟩
 rw [← hL] at hv hd hl ⊢
 have HL := Lib.hid (And.intro hv (And.intro hd hl))
 have HM0 := Lib.hid (((Mem.nil w).alloc 35 (u8s L)).none 3 1)
 clear hv hd hl hL hx
 go_enter Try.func106, Try.ntmps106
 go_wp2
 go_loopw [3, 4] (fun v3 v4 wq => ∃ (i : Nat) (A1 : Option Addr) (c1 : Nat), i ≤ 8 ∧ v4 = .int .i64 (i : Int) ∧ v3 = .slice A1 (two (L.take i)).length c1 ∧ Mem w wq [.row 3 1 A1 c1 (nums .i64 (two (L.take i))), .box w.heap.size 35 (u8s L)]) (fun _ v _ => 8 - (intOf v).toNat)
 case atStart => exact ⟨0, none, 0, by omega, rfl, rfl, HM0.out⟩
 case round =>
  clear HM0
  obtain ⟨i, A1, c1, hi, rfl, rfl, hm⟩ := hrel
  obtain ⟨n1, hn1⟩ : ∃ n1, n1 = (two (L.take i)).length := ⟨_, rfl⟩
  rw [← hn1]
  have hn2 : n1 ≤ 16 := by rw [hn1, two_len, List.length_take, HL.out.2.2]; omega
  have HN1 := Lib.hid hn1
  have HM := Lib.hid hm
  clear hm hn1
  by_cases h8 : i = 8
  · subst h8
    have HT : Hid (Calls Try.prog 127 #[.slice A1 n1 c1] wr fun e w' => ∃ u, e = .returned u ∧ From wr w' ∧ Reads (dig B16 x) u w') := by
     have hcap := (HM.out.own (i := 0) rfl).cap
     rw [nums_len, ← HN1.out] at hcap
     have h1 := calls_trim (v := .slice A1 n1 c1) (l := two (L.take 8)) (w := wr) ⟨A1, c1, by rw [HN1.out], HM.out.rd (i := 0) rfl, by rw [← HN1.out]; exact hcap.1⟩ (two_digs _ (HL.out.2.1.take 8)) (by rw [← HN1.out]; omega)
     rw [two_val, List.take_of_length_le (by rw [HL.out.2.2]; exact Nat.le_refl _), HL.out.1] at h1
     exact h1
    clear hi
    go_wp2_with (go_at_call 127; go_loud (refine (HT.out).mono ?_); rintro e w5 ⟨u, rfl, hb, hr⟩)
    go_ret
    exact ⟨u, rfl, HM.out.from_.trans (hb.mono HM.out.from_.size), hr⟩
  · have hi8 : (i : Int) < 8 := by omega
    have hi8' : (i : Int) < ((8 : Nat) : Int) := by omega
    have hil : i < L.length := by rw [HL.out.2.2]; omega
    obtain ⟨d, hd⟩ : ∃ d, d = L[i] := ⟨_, rfl⟩
    have HLD := Lib.hid (HM.out.ldc (i := 1) (j := i) (v := .int .u32 (d : Int)) ct34 rfl (by rw [hd]; exact u8s_get hil))
    have hdB : d < 4294967296 := by rw [hd]; exact HL.out.2.1.get hil
    obtain ⟨a, ha⟩ : ∃ a, a = d % 65536 := ⟨_, rfl⟩
    obtain ⟨b, hb⟩ : ∃ b, b = d / 65536 := ⟨_, rfl⟩
    have hrem : (d : Int).tmod 65536 = (a : Int) := by rw [ha]; exact (Int.ofNat_tmod d 65536).symm
    have hquo : IntKind.u32.wrap ((d : Int).tdiv 65536) = (b : Int) := by
     have e : (d : Int).tdiv 65536 = (b : Int) := by rw [hb]; exact (Int.ofNat_tdiv d 65536).symm
     rw [e, wrap_u32, Nat.mod_eq_of_lt (by omega)]
    have hca : IntKind.i64.wrap (a : Int) = (a : Int) := wrap_i64 (by omega) (by omega)
    have hcb : IntKind.i64.wrap (b : Int) = (b : Int) := wrap_i64 (by omega) (by omega)
    have HST : Hid (two (L.take (i + 1)) = two (L.take i) ++ [a, b]) := by unfold Hid; rw [two_take hil, ← hd, ha, hb]
    have hip : (i : Int) + 1 ≤ 8 := by omega
    clear hd ha hb hil hdB hi
    go_wp2
    refine wp_region_run 12 [.val (Value.slice A1 n1 c1), .val (Value.int .i64 ((i : Int))), .val (Value.pointer (some ⟨w.heap.size, i, none⟩)), .val (Value.int .u32 (d : Int)), .val (Value.int .u32 (a : Int)), .val (Value.int .i64 (a : Int)), .val (Value.int .i64 ((i : Int))), .val (Value.pointer (some ⟨w.heap.size, i, none⟩)), .val (Value.int .u32 (d : Int)), .val (Value.int .u32 (b : Int)), .val (Value.int .i64 (b : Int)), .new (New2 wr.heap.size 3 [.int .i64 (a : Int), .int .i64 (b : Int)])] (by kernel_rfl) (by kernel_rfl) (Nat.le_of_ble_eq_true (by kernel_rfl)) (by kernel_rfl) (by kernel_rfl) ?_ ?_ ?_
    · exact ⟨New2.stays, trivial⟩
    · exact ⟨(fun _ _ => ok_move rfl), (fun _ _ => ok_move rfl), (fun _ _ => ok_indexP (k := i) rfl rfl Try.underlying35 size_u32 hi8' (ptr01 _ _)), (fun w hb => ok_load rfl ((HLD.out) w hb)), (fun _ _ => ok_rem rfl rfl (by decide) hrem rfl), (fun _ _ => ok_conv rfl Try.underlying34 Try.underlying3 hca rfl), (fun _ _ => ok_move rfl), (fun _ _ => ok_indexP (k := i) rfl rfl Try.underlying35 size_u32 hi8' (ptr01 _ _)), (fun w hb => ok_load rfl ((HLD.out) w hb)), (fun _ _ => ok_quo rfl rfl (by decide) hquo rfl), (fun _ _ => ok_conv rfl Try.underlying34 Try.underlying3 hcb rfl), (fun _ hb => new_slice2 rfl rfl el42 zf_int hb.size), trivial⟩
    intro w7 hb7
    simp only [contS, List.take_succ_cons, List.take_zero, List.drop_succ_cons, List.drop_zero]
    intro u20 hu20
    simp only [Act.put, List.setIfInBounds_toArray, List.set_cons_succ, List.set_cons_zero]
    obtain ⟨g7, rfl, _, hz7⟩ := hu20
    have HM7 := Lib.hid (HM.out.call hb7)
    have HZ7 := Lib.hid (New2.rd hz7)
    have HOL : Hid (n1 = (nums .i64 (two (L.take i))).length) := by unfold Hid; rw [nums_len, HN1.out]
    clear HM hb7 hz7 HLD
    go_wp2_with (at_builtin; go_loud (refine wpList_append_M rfl _ _ rfl int_ei n1 HOL.out rfl HM7.out 0 rfl rfl HZ7.out rfl (by simp [Value.oneCell']) (by rw [← HOL.out]; unfold maxLen; omega) (by rw [← HOL.out]; omega) ?_); intro A3 c3 w8 h8; have HM8 := Lib.hid h8; clear h8)
    go_roundw
    case rel =>
     refine ⟨i + 1, A3, c3, by omega, by go_num, ?_, ?_⟩
     · rw [HST.out, List.length_append, ← HN1.out]; rfl
     · have h1 := HM8.out
       rw [HST.out, nums_append]
       exact h1
    case measure => simp [intOf]; omega
theorem results_box2 {P : Program} {fn : Func} {p t : Tmp} {T g : Nat} {w : World} {cs : List Value} (h : fn.results = #[.cell p T, .tmp t]) (tmps : Array Value) (hp : tmps.getD p undef = .pointer (some ⟨g, 0, none⟩)) (hl : (loadVar T ⟨g, 0, none⟩).run P w = .ok (.agg cs.toArray) w) :
 (results fn tmps).run P w = .ok (.tuple #[.agg cs.toArray, tmps.getD t undef]) w := by
 have hp' : tmps[p]?.getD undef = .pointer (some ⟨g, 0, none⟩) := by simpa using hp
 simp [results, h, hp', asAddr, hl]
theorem results_box1 {P : Program} {fn : Func} {p : Tmp} {T g : Nat} {w : World} {cs : List Value} (h : fn.results = #[.cell p T]) (tmps : Array Value) (hp : tmps.getD p undef = .pointer (some ⟨g, 0, none⟩)) (hl : (loadVar T ⟨g, 0, none⟩).run P w = .ok (.agg cs.toArray) w) :
 (results fn tmps).run P w = .ok (.agg cs.toArray) w := by
 have hp' : tmps[p]?.getD undef = .pointer (some ⟨g, 0, none⟩) := by simpa using hp
 simp [results, h, hp', asAddr, hl]
theorem wpList_stC {w0 w : World} {M : List Ent} {ops : Array Oper} {rest : List Oper} {o : Oper} {a : Act} {Q : Exit → Act → World → Prop} {T T1 g j : Nat} {cs : List Value} {v : Value} (hgd : o.guard = none) (x y : Operand) (ho : o.op = .store T1 x y) (H : Mem w0 w M) (i : Nat) (hi : M[i]? = some (.box g T cs))
 (hx : a.eval x = .pointer (some ⟨g, j, .none⟩)) (hy : a.eval y = v) (hsz : (Try.prog.info? T1).map (·.size) = some 1) (hv : v.cells.toList = [v]) (h1 : v.oneCell' = true) (hj : j < cs.length)
 (h : ∀ w', Mem w0 w' (M.set i (.box g T (cs.set j v))) → wpList Try.prog ops Q rest (a.put o.dst undef) w') : wpList Try.prog ops Q (o :: rest) a w := by
 refine wpList_st (cs := [v]) hgd x y ho hx hy hsz hv rfl (H.cells hi) (by simp; omega) (by simpa using h1) fun cur' w' hc hs hg' hgr => h w' (H.put i (.box g T (cs.set j v)) hi hgr ⟨(H.boxlt hi).1, ?_⟩ (.inl rfl))
 have : cur' = (cs.set j v).toArray := by
  apply Array.ext'
  rw [hc, List.set_eq_take_append_cons_drop, if_pos hj]
  simp
 rw [← this]
 exact hg'
theorem Rd.addr {w : World} {B size : Nat} {A : Option Addr} {css : List (List Value)} (h : Rd w B size A css) (h0 : 0 < css.length) : ∃ b off, A = some ⟨b, off, none⟩ := by
 obtain ⟨b, off, e, _⟩ := h 0 css[0] (List.getElem?_eq_getElem h0)
 exact ⟨b, off, e⟩
theorem u8_row : IsRow Try.prog 35 8 := ⟨_, Try.underlying35, by kernel_rfl, by kernel_rfl⟩
theorem u8_size : (Try.prog.info? 35).map (·.size) = some 8 := by kernel_rfl
theorem u8s_ones (l : List Nat) : ∀ u ∈ u8s l, u.oneCell' = true := by
 intro u hu
 unfold u8s at hu
 obtain ⟨n, _, rfl⟩ := List.mem_map.1 hu
 rfl
set_option maxRecDepth 100000 in
set_option maxHeartbeats 4000000 in
theorem ref_limbs {x : Nat} {u : Value} {w : World} (hu : Reads (dig B16 x) u w) (hx : len16 x ≤ 400) :
 Calls Try.prog 144 #[u] w fun e w' => e = .returned (.tuple #[.agg (u8s (if len16 x ≤ 16 then pad B32 8 x else pad B32 8 0)).toArray, .bool (decide (len16 x ≤ 16))]) ∧ From w w' := by
 obtain ⟨A, c, rfl, hr, _⟩ := hu
 obtain ⟨n, hn⟩ : ∃ n, n = (dig B16 x).length := ⟨_, rfl⟩
 have hnl : n = len16 x := hn
 rw [← hnl] at hx ⊢
 rw [← hn]
 have HM0 : Hid (Mem w ((w.alloc (.cells (u8s (pad B32 8 0)).toArray 35)).alloc (.cells (u8s (pad B32 8 0)).toArray 35)) [.box (w.heap.size + 1) 35 (u8s (pad B32 8 0)), .box w.heap.size 35 (u8s (pad B32 8 0))]) := by
  have h := ((Mem.nil w).alloc 35 (u8s (pad B32 8 0))).alloc 35 (u8s (pad B32 8 0))
  have e : (w.alloc (.cells (u8s (pad B32 8 0)).toArray 35)).heap.size = w.heap.size + 1 := by simp
  rw [e] at h
  exact h
 have HR := Lib.hid hr
 have HN := Lib.hid hn
 clear hr hn hnl
 by_cases h16 : n ≤ 16
 · rw [if_pos h16, decide_eq_true h16]
   have hn16 : ¬ (16 : Int) < (n : Int) := by omega
   go_enter Try.func144, Try.ntmps144
   go_wp2
   go_loopw [5] (fun v5 wq => ∃ i : Nat, i ≤ n ∧ v5 = .int .i64 (i : Int) ∧ Mem w wq [.box (w.heap.size + 1) 35 (u8s (limbsAt (dig B16 x) i)), .box w.heap.size 35 (u8s (pad B32 8 0))]) (fun v _ => n - (intOf v).toNat)
   case atStart => exact ⟨0, Nat.zero_le _, rfl, by rw [limbs_zero]; exact HM0.out⟩
   case round =>
    clear HM0
    obtain ⟨i, hi, rfl, hm⟩ := hrel
    have HM := Lib.hid hm
    clear hm
    by_cases hin : i = n
    · subst hin
      have hE : Hid (limbsAt (dig B16 x) i = pad B32 8 x) := limbs_end (by rw [← HN.out]; exact Nat.le_refl _)
      have hnlt : ¬ (i : Int) < (i : Int) := by omega
      clear hi
      go_wp2_with (first
       | ((with_reducible refine g_ld 35 ?_); refine wpList_ld rfl _ _ rfl _ rfl _ (HM.out.ldb u8_row (by rw [u8s_len, limbs_len]) (i := 0) rfl _ (Below.refl _ _)) ?_)
       | ((with_reducible refine g_st 35 ?_); go_loud (refine wpList_stB (cs' := u8s (limbsAt (dig B16 x) i)) rfl _ _ rfl HM.out 1 rfl rfl rfl u8_size rfl (by rw [u8s_len, limbs_len]) (by rw [u8s_len, pad_len]) (u8s_ones _) ?_); intro w5 h5; have HM5 := Lib.hid h5; clear h5))
      refine bodyPost_ret (results_box2 rfl _ rfl (HM5.out.ldb u8_row (by rw [u8s_len, limbs_len]) (i := 1) rfl _ (Below.refl _ _))) rfl ⟨?_, HM5.out.from_⟩
      rw [hE.out]
      rfl
    · have hlt : (i : Int) < (n : Int) := by omega
      have hil : i < (dig B16 x).length := by rw [← HN.out]; omega
      have h8 : i < 16 := by omega
      obtain ⟨k, hk⟩ : ∃ k, k = i / 2 := ⟨_, rfl⟩
      have hk8 : k < 8 := by omega
      obtain ⟨d, hd⟩ : ∃ d, d = (dig B16 x).getD i 0 := ⟨_, rfl⟩
      have hdB : d < 65536 := by rw [hd]; exact (Digs.dig hB16 x).getD (by decide) i
      have hde : d = (dig B16 x)[i] := by rw [hd, List.getD_eq_getElem?_getD, List.getElem?_eq_getElem hil]; rfl
      have hq : IntKind.i64.wrap ((i : Int).tdiv 2) = (k : Int) := by
       have e : (i : Int).tdiv 2 = (k : Int) := by rw [hk]; exact (Int.ofNat_tdiv i 2).symm
       rw [e, wrap_i64 (by omega) (by omega)]
      have hq2 : (i : Int).tdiv 2 = (k : Int) := by rw [hk]; exact (Int.ofNat_tdiv i 2).symm
      have hq3 : IntKind.i64.wrap (k : Int) = (k : Int) := wrap_i64 (by omega) (by omega)
      have hk8i : (k : Int) < 8 := by omega
      have hk8n : (k : Int) < ((8 : Nat) : Int) := by omega
      have hcv : IntKind.u32.wrap (d : Int) = (d : Int) := by rw [wrap_u32, Nat.mod_eq_of_lt (by omega)]
      obtain ⟨b, off, rfl, _, hl⟩ := num_ld Try.underlying3 rfl (HR.out.from HM.out.from_) hil
      rw [← hde] at hl
      have HL := Lib.hid hl
      have HD := Lib.hid hd
      have w1 : IntKind.i64.wrap ((i : Int) + 1) = ((i + 1 : Nat) : Int) := by rw [wrap_i64 (by omega) (by omega)]; omega
      have hkl : k < (u8s (limbsAt (dig B16 x) i)).length := by rw [u8s_len, limbs_len]; exact hk8
      clear hl hd hde
      by_cases hp : i = 2 * k
      · have hrem : (i : Int).tmod 2 = 0 := by
         have e : (i : Int).tmod 2 = ((i % 2 : Nat) : Int) := (Int.ofNat_tmod i 2).symm
         rw [e]; omega
        have HST : Hid (limbsAt (dig B16 x) (i + 1) = (limbsAt (dig B16 x) i).set k d) := by
         unfold Hid
         rw [HD.out, hp]
         exact limbs_even hk8
        clear hp hk
        go_wp2_with (first
         | ((with_reducible refine g_ld 3 ?_); go_loud (refine wpList_ld rfl _ _ rfl _ rfl _ (HL.out _ (Below.refl _ _)) ?_))
         | ((with_reducible refine g_st 34 ?_); go_loud (refine wpList_stC (j := k) (v := .int .u32 (d : Int)) rfl _ _ rfl HM.out 0 rfl rfl rfl size_u32 rfl rfl hkl ?_); intro w5 h5; have HM5 := Lib.hid h5; clear h5))
        go_roundw
        case rel =>
         refine ⟨i + 1, by omega, by go_num, ?_⟩
         have h1 := HM5.out
         rw [u8s_set, ← HST.out] at h1
         exact h1
        case measure => simp [intOf]; omega
      · have hp1 : i = 2 * k + 1 := by omega
        have hrem : (i : Int).tmod 2 = 1 := by
         have e : (i : Int).tmod 2 = ((i % 2 : Nat) : Int) := (Int.ofNat_tmod i 2).symm
         rw [e]; omega
        obtain ⟨f, hf⟩ : ∃ f, f = (dig B16 x).getD (2 * k) 0 := ⟨_, rfl⟩
        have hfB : f < 65536 := by rw [hf]; exact (Digs.dig hB16 x).getD (by decide) _
        obtain ⟨m, hm⟩ : ∃ m, m = d * 65536 := ⟨_, rfl⟩
        obtain ⟨z, hz⟩ : ∃ z, z = f + m := ⟨_, rfl⟩
        have hmul : IntKind.u32.wrap ((d : Int) * 65536) = (m : Int) := by
         have e : (d : Int) * 65536 = (m : Int) := by omega
         rw [e, wrap_u32, Nat.mod_eq_of_lt (by omega)]
        have hadd : IntKind.u32.wrap ((f : Int) + (m : Int)) = (z : Int) := by
         have e : (f : Int) + (m : Int) = (z : Int) := by omega
         rw [e, wrap_u32, Nat.mod_eq_of_lt (by omega)]
        have HST : Hid (limbsAt (dig B16 x) (i + 1) = (limbsAt (dig B16 x) i).set k z) := by
         unfold Hid
         rw [hz, hm, HD.out, hp1, hf]
         exact (limbs_odd hk8).2
        have HLF := Lib.hid (HM.out.ldc (i := 0) (j := k) (v := .int .u32 (f : Int)) ct34 rfl (by
         have h1 := limbs_get (dig B16 x) i hk8
         have h2 : limbAt (dig B16 x) i k = f := by rw [hf, hp1]; exact (limbs_odd hk8).1
         unfold u8s
         rw [List.getElem?_map, h1, h2]
         rfl))
        clear hp hp1 hk hf hm hz
        go_wp2
        refine wp_region_run 14 [.val (Value.int .i64 ((i : Int))), .val (Value.int .i64 ((k : Int))), .val (Value.int .i64 ((i : Int))), .val (Value.int .i64 ((k : Int))), .val (Value.pointer (some ⟨w.heap.size + 1, k, none⟩)), .val (Value.int .u32 (f : Int)), .val (Value.slice (some ⟨b, off, none⟩) n c), .val (Value.int .i64 ((i : Int))), .val (Value.pointer (some ⟨b, off + i, none⟩)), .val (Value.int .i64 ((d : Int))), .val (Value.int .u32 (d : Int)), .val (Value.int .u32 (m : Int)), .val (Value.int .u32 (z : Int)), .val (Value.pointer (some ⟨w.heap.size + 1, k, none⟩))] (by kernel_rfl) (by kernel_rfl) (Nat.le_of_ble_eq_true (by kernel_rfl)) (by kernel_rfl) (by kernel_rfl) ?_ ?_ ?_
        · exact trivial
        · exact ⟨(fun _ _ => ok_move rfl), (fun _ _ => ok_quo rfl rfl (by decide) hq rfl), (fun _ _ => ok_move rfl), (fun _ _ => ok_quo rfl rfl (by decide) hq rfl), (fun _ _ => ok_indexP (k := k) rfl rfl Try.underlying35 size_u32 hk8n (ptr01 _ _)), (fun w hb => ok_load rfl ((HLF.out) w hb)), (fun _ _ => ok_move rfl), (fun _ _ => ok_move rfl), (fun _ _ => ok_index (k := i) rfl rfl el42 (hlt) (ptr1 _ _ _)), (fun w hb => ok_load rfl ((HL.out) w hb)), (fun _ _ => ok_conv rfl Try.underlying3 Try.underlying34 hcv rfl), (fun _ _ => ok_mul rfl rfl hmul rfl), (fun _ _ => ok_add rfl rfl hadd rfl), (fun _ _ => ok_indexP (k := k) rfl rfl Try.underlying35 size_u32 hk8n (ptr01 _ _)), trivial⟩
        intro w7 hb7
        simp only [contS, List.take_succ_cons, List.take_zero, List.drop_succ_cons, List.drop_zero]
        simp only [Act.put, List.setIfInBounds_toArray, List.set_cons_succ, List.set_cons_zero]
        have HM7 := Lib.hid (HM.out.call hb7)
        clear HM hb7 HLF HL
        go_wp2_with ((with_reducible refine g_st 34 ?_); go_loud (refine wpList_stC (j := k) (v := .int .u32 (z : Int)) rfl _ _ rfl HM7.out 0 rfl rfl rfl size_u32 rfl rfl hkl ?_); intro w5 h5; have HM5 := Lib.hid h5; clear h5)
        go_roundw
        case rel =>
         refine ⟨i + 1, by omega, by go_num, ?_⟩
         have h1 := HM5.out
         rw [u8s_set, ← HST.out] at h1
         exact h1
        case measure => simp [intOf]; omega
 · rw [if_neg h16, decide_eq_false h16]
   have hn16 : (16 : Int) < (n : Int) := by omega
   go_enter Try.func144, Try.ntmps144
   go_wp2_with (first
    | ((with_reducible refine g_ld 35 ?_); refine wpList_ld rfl _ _ rfl _ rfl _ (HM0.out.ldb u8_row (by rw [u8s_len, pad_len]) (i := 0) rfl _ (Below.refl _ _)) ?_)
    | ((with_reducible refine g_st 35 ?_); go_loud (refine wpList_stB (cs' := u8s (pad B32 8 0)) rfl _ _ rfl HM0.out 1 rfl rfl rfl u8_size rfl (by rw [u8s_len, pad_len]) (by rw [u8s_len, pad_len]) (u8s_ones _) ?_); intro w5 h5; have HM5 := Lib.hid h5; clear h5))
   refine bodyPost_ret (results_box2 rfl _ rfl (HM5.out.ldb u8_row (by rw [u8s_len, pad_len]) (i := 1) rfl _ (Below.refl _ _))) rfl ⟨rfl, HM5.out.from_⟩
end Go.Proofs.Ytcdfnlgimbecgaa
