/-
  Arguments opened: a slice of structs reads as rows, a slice of slices as rows of rows; the sizes that the form of the claims allows.
-/
import Derived.Test.YtccjddbcdmgefaaPlan
import Derived.ProofKit
import Derived.SizedLaws
import Derived.Deep.Slices
namespace Go.Proofs.Ytccjddbcdmgefaa
open Go.RowKit Go.ChangeShapes Go.WideShapes Go.Deep

theorem list_of {T : Type} {p : Nat → T → Prop} : ∀ (n : Nat), (∀ i, i < n → ∃ x, p i x) → ∃ l : List T, l.length = n ∧ ∀ i (h : i < l.length), p i l[i]
  | 0, _ => ⟨[], rfl, by simp⟩
  | n + 1, h => by
    obtain ⟨l, hl, hp⟩ := list_of n (fun i hi => h i (by omega))
    obtain ⟨x, hx⟩ := h n (by omega)
    refine ⟨l ++ [x], by simp [hl], fun i hi => ?_⟩
    by_cases e : i < l.length
    · rw [List.getElem_append_left e]
      exact hp i e
    · have e2 : i = n := by simp at hi; omega
      subst e2
      rw [List.getElem_append_right (by omega)]
      simpa using hx

theorem wf_i64 {n : Int} (h : (Lit.int .i64 n).wf = true) : -9223372036854775808 ≤ n ∧ n ≤ 9223372036854775807 := by
  have e1 : IntKind.i64.min = -9223372036854775808 := by kernel_rfl
  have e2 : IntKind.i64.max = 9223372036854775807 := by kernel_rfl
  simp only [Lit.wf, Bool.and_eq_true, decide_eq_true_eq, e1, e2] at h
  exact h
theorem wf_u8 {n : Int} (h : (Lit.int .u8 n).wf = true) : 0 ≤ n ∧ n ≤ 255 := by
  have e1 : IntKind.u8.min = 0 := by kernel_rfl
  have e2 : IntKind.u8.max = 255 := by kernel_rfl
  simp only [Lit.wf, Bool.and_eq_true, decide_eq_true_eq, e1, e2] at h
  exact h

/-- arguments read behind the call as they read before, when only new memory differs -/
theorem below_all {H : Type} {enc : TypeId × Value → H} {P : Program} (hl : laidOutB P = true) {W W' : World} (hb : Below W.heap.size W W') : ∀ {ts : List TypeId} {vs : List Value} {ds : List (DataW H)} {ps : List MemPlace}, (ts.all fun t => P.readableRec t && decide (t < P.types.size)) = true →
    DataW.TrodAll enc P W 0 (fun _ => true) true ts vs ds ps → (∀ x ∈ ps, x.block < W.heap.size) → DataW.TrodAll enc P W' 0 (fun b => decide (b < W.heap.size)) true ts vs ds ps
  | [], vs, ds, ps, _, h, _ => by
    obtain ⟨rfl, rfl, rfl⟩ := trodAll_nil h
    exact trodAll_mk0
  | t :: ts, vs, ds, ps, ht, h, hlt => by
    obtain ⟨v, vs', d, ds', p, q, rfl, rfl, rfl, hd, hr⟩ := trodAll_cons h
    simp only [List.all_cons, Bool.and_eq_true, decide_eq_true_eq] at ht
    exact ⟨p, q, Below.trod hl ht.1.1 ht.1.2 hd hb (fun x hx => hlt x (List.mem_append_left _ hx)), below_all hl hb (by simpa using ht.2) hr (fun x hx => hlt x (List.mem_append_right _ hx)), rfl⟩

theorem Try.own : ownKnob Try.prog.godebug = none := by kernel_rfl
theorem Try.laidOut : laidOutB Try.prog = true := by kernel_rfl

section
variable {H : Type} {enc : TypeId × Value → H} {P : Program} {w : World} {base : Nat} {held : Bool}

/-- all that is read takes as many bytes as the form allows -/
def Fits (P : Program) (t : TypeId) (d : DataW H) : Prop := ∀ k ∈ d.weights P t, k ≤ 140737488351232

theorem weightsAll_mem {t : TypeId} : ∀ {ds : List (DataW H)} {d : DataW H}, d ∈ ds → ∀ k ∈ d.weights P t, k ∈ DataW.weightsAll P t ds
  | [], _, h, _, _ => by cases h
  | d0 :: ds, d, h, k, hk => by
    unfold DataW.weightsAll
    rw [List.mem_append]
    rcases List.mem_cons.1 h with h | h
    · subst h; exact .inl hk
    · exact .inr (weightsAll_mem h k hk)

theorem Fits.elem {t e : TypeId} {els sp : List (DataW H)} {d : DataW H} (ht : P.underlying t = some (.slice e)) (h : Fits P t (.slice els sp)) (hd : d ∈ els) : Fits P e d := fun k hk => h k (by
  simp only [DataW.weights, ht, List.mem_cons, List.mem_append]
  exact .inr (.inl (weightsAll_mem hd k hk)))
theorem Fits.size {t e : TypeId} {els sp : List (DataW H)} (ht : P.underlying t = some (.slice e)) (h : Fits P t (.slice els sp)) : (els.length + sp.length) * P.bytesOf e ≤ 140737488351232 := h _ (by
  simp only [DataW.weights, ht, List.mem_cons]
  exact .inl trivial)
theorem Fits.field {t : TypeId} {fs : Array Field} {parts : List (DataW H)} {j : Nat} {f : Field} {d : DataW H} (ht : P.underlying t = some (.struct fs)) (h : Fits P t (.agg parts)) (hj : fs[j]? = some f) (hd : parts[j]? = some d) : Fits P f.type d := fun k hk => h k (by
  simp only [DataW.weights, ht]
  exact DataW.weights_mem_each (j := j) (t := f.type) (by simp [hj]) hd k hk)
theorem fits_of {ts : List TypeId} {ds : List (DataW H)} (h : (DataW.weightsEach P ts ds).all (· ≤ reachBytes) = true) {j : Nat} {t : TypeId} {d : DataW H} (ht : ts[j]? = some t) (hd : ds[j]? = some d) : Fits P t d := fun k hk => by
  have := List.all_eq_true.1 h _ (DataW.weights_mem_each ht hd k hk)
  exact of_decide_eq_true this

/-- a slice, opened: its elements lie in rows -/
theorem open_rows {T : Type} {cells : T → List Value} {wf : T → Prop} {t e size bytes fuel : Nat} {v : Value} {x : DataW H × List MemPlace} (ht : P.underlying t = some (.slice e)) (hC : P.cellsOf e = size) (h0 : 0 < size) (hB : P.bytesOf e = bytes)
    (hel : ∀ n cs (y : DataW H × List MemPlace), DataW.trod enc P w base (fun _ => true) held n e cs = some y → Fits P e y.1 → ∃ b : T, cs = cells b ∧ wf b)
    (h : DataW.trod enc P w base (fun _ => true) held fuel t [v] = some x) (hf : Fits P t x.1) :
    ∃ (A : Option Addr) (l : List T) (c : Nat), v = .slice A l.length c ∧ Rd w w.heap.size size A (l.map cells) ∧ (∀ b ∈ l, wf b) ∧ l.length * bytes ≤ 140737488351232 := by
  rcases open_slice ht h with ⟨hcs, hx⟩ | ⟨a, len, cap, m, n, D, Pl, hcs, hb, hl, hm, hmm, hx, hi⟩
  · injection hcs with hv _
    subst hv
    exact ⟨none, [], 0, rfl, Rd.nil _ _ _ _, by simp, by simp⟩
  · injection hcs with hv _
    subst hv
    subst hx
    simp only [if_true] at hmm
    subst hmm
    have hsz := Fits.size ht hf
    rw [hB] at hsz
    simp only [List.length_map, List.length_range] at hsz
    have key : ∀ i, i < len → ∃ b : T, wf b ∧ (cells b).length = size ∧ ∀ j u, (cells b)[j]? = some u → w.cell? ((a.add (i * size)).add j) = some u := fun i hlt => by
      obtain ⟨cs, hc, ht'⟩ := hi i (by omega)
      obtain ⟨b, rfl, hw⟩ := hel n cs (D i, Pl i) ht' (Fits.elem ht hf (List.mem_map_of_mem (List.mem_range.2 hlt)))
      obtain ⟨_, hcl, hat⟩ := World.cells?_some hc
      rw [hC] at hcl hat hc
      refine ⟨b, hw, hcl, fun j u hu => ?_⟩
      rw [hat j (by rw [← hcl]; exact (List.getElem?_eq_some_iff.1 hu).1)]
      exact hu
    obtain ⟨l, hll, hp⟩ := list_of len key
    subst hll
    refine ⟨some a, l, m, rfl, fun k cs hk => ?_, fun b hb' => ?_, Nat.le_trans (Nat.mul_le_mul_right bytes (by omega)) hsz⟩
    · rw [List.getElem?_map] at hk
      obtain ⟨b, hbk, rfl⟩ := Option.map_eq_some_iff.1 hk
      have hkl : k < l.length := (List.getElem?_eq_some_iff.1 hbk).1
      obtain ⟨_, hcl, hc⟩ := hp k hkl
      have hbe : l[k] = b := by rw [List.getElem?_eq_getElem hkl] at hbk; injection hbk
      rw [hbe] at hcl hc
      have hu0 : (cells b)[0]? = some ((cells b)[0]'(by omega)) := List.getElem?_eq_getElem (by omega)
      have hc0 := hc 0 _ hu0
      have hlt := block_lt_of_cell hc0
      obtain ⟨_, hcl0, hcz⟩ := hp 0 (by omega)
      have hsp := World.cell?_spot (hcz 0 _ (List.getElem?_eq_getElem (by omega)))
      obtain ⟨ab, ao, asp⟩ := a
      have has : asp = none := by simpa [Addr.add] using hsp
      subst has
      refine ⟨ab, ao, rfl, by simpa [Addr.add_lit] using hlt, hcl, fun j u hu => ?_⟩
      have := hc j u hu
      rwa [Addr.add_lit, Addr.add_lit] at this
    · obtain ⟨k, hk, rfl⟩ := List.mem_iff_getElem.1 hb'
      exact (hp k hk).1

/-- a slice of slices, opened -/
theorem open_nested {T : Type} {cells : T → List Value} {wf : T → Prop} {t e e2 size bytes fuel : Nat} {v : Value} {x : DataW H × List MemPlace} (ht : P.underlying t = some (.slice e)) (hC1 : P.cellsOf e = 1) (hB1 : P.bytesOf e = 24) (ht2 : P.underlying e = some (.slice e2)) (hC : P.cellsOf e2 = size) (h0 : 0 < size) (hB : P.bytesOf e2 = bytes)
    (hel : ∀ n cs (y : DataW H × List MemPlace), DataW.trod enc P w base (fun _ => true) held n e2 cs = some y → Fits P e2 y.1 → ∃ b : T, cs = cells b ∧ wf b)
    (h : DataW.trod enc P w base (fun _ => true) held fuel t [v] = some x) (hf : Fits P t x.1) :
    ∃ (A : Option Addr) (ll : List (List T)) (c : Nat), v = .slice A ll.length c ∧ RdNN w w.heap.size size A (ll.map fun l => (l.length, l.length, l.map cells)) ∧ (∀ l ∈ ll, (∀ b ∈ l, wf b) ∧ l.length * bytes ≤ 140737488351232) ∧ ll.length * 24 ≤ 140737488351232 := by
  rcases open_slice ht h with ⟨hcs, hx⟩ | ⟨a, len, cap, m, n, D, Pl, hcs, hb, hl, hm, hmm, hx, hi⟩
  · injection hcs with hv _
    subst hv
    exact ⟨none, [], 0, rfl, by intro k x hk; simp at hk, by simp, by simp⟩
  · injection hcs with hv _
    subst hv
    subst hx
    simp only [if_true] at hmm
    subst hmm
    have hsz := Fits.size ht hf
    rw [hB1] at hsz
    simp only [List.length_map, List.length_range] at hsz
    have key : ∀ i, i < len → ∃ l : List T, ((∀ b ∈ l, wf b) ∧ l.length * bytes ≤ 140737488351232) ∧ ∃ (Ai : Option Addr) (ci : Nat), w.cell? (a.add i) = some (.slice Ai l.length ci) ∧ l.length ≤ ci ∧ Rd w w.heap.size size Ai (l.map cells) := fun i hlt => by
      obtain ⟨cs, hc, ht'⟩ := hi i (by omega)
      obtain ⟨_, hcl, hat⟩ := World.cells?_some hc
      rw [hC1] at hcl hat
      rw [Nat.mul_one] at hat
      match cs, hcl with
      | [u], _ =>
        obtain ⟨Ai, l, ci, rfl, hrd, hwf, hby⟩ := open_rows ht2 hC h0 hB hel ht' (Fits.elem ht hf (List.mem_map_of_mem (List.mem_range.2 hlt)))
        refine ⟨l, ⟨hwf, hby⟩, Ai, ci, by simpa [Addr.add] using hat 0 (by omega), ?_, hrd⟩
        rcases open_slice ht2 ht' with ⟨hcs', _⟩ | ⟨a', len', cap', _, _, _, _, hcs', _, hl', _⟩
        · injection hcs' with hcs' _
          injection hcs' with _ e1 e2
          omega
        · injection hcs' with hcs' _
          injection hcs' with _ e1 e2
          omega
    obtain ⟨ll, hll, hp⟩ := list_of len key
    subst hll
    refine ⟨some a, ll, m, rfl, fun k x hk => ?_, fun l hl' => ?_, Nat.le_trans (Nat.mul_le_mul_right 24 (by omega)) hsz⟩
    · rw [List.getElem?_map] at hk
      obtain ⟨l, hlk, rfl⟩ := Option.map_eq_some_iff.1 hk
      have hkl : k < ll.length := (List.getElem?_eq_some_iff.1 hlk).1
      obtain ⟨_, Ai, ci, hc, hci, hrd⟩ := hp k hkl
      have hbe : ll[k] = l := by rw [List.getElem?_eq_getElem hkl] at hlk; injection hlk
      rw [hbe] at hc hci hrd
      have hlt := block_lt_of_cell hc
      obtain ⟨_, _, _, hcz, _⟩ := hp 0 (by omega)
      have hsp := World.cell?_spot hcz
      obtain ⟨ab, ao, asp⟩ := a
      have has : asp = none := by simpa [Addr.add] using hsp
      subst has
      rw [Addr.add_lit] at hc hlt
      exact ⟨ab, ao, Ai, ci, rfl, by simpa using hlt, hc, hci, hrd⟩
    · obtain ⟨k, hk, rfl⟩ := List.mem_iff_getElem.1 hl'
      exact (hp k hk).1
end

section
variable {H : Type} {enc : TypeId × Value → H} {w : World} {base : Nat} {spare : Nat → Bool} {held : Bool}
theorem cells_i64 : Try.prog.cellsOf 3 = 1 := by kernel_rfl
theorem cells_u8 : Try.prog.cellsOf 5 = 1 := by kernel_rfl
theorem cells_bool : Try.prog.cellsOf 4 = 1 := by kernel_rfl
theorem cells_str : Try.prog.cellsOf 9 = 1 := by kernel_rfl
theorem cells_Slot : Try.prog.cellsOf 40 = 3 := by kernel_rfl
theorem cells_Box : Try.prog.cellsOf 73 = 9 := by kernel_rfl
theorem bytes_Box : Try.prog.bytesOf 73 = 64 := by kernel_rfl
def Box.wf (b : Box) : Prop := (-9223372036854775808 ≤ b.id ∧ b.id ≤ 9223372036854775807) ∧ b.num.size ≤ 140737488351232 ∧ (0 ≤ b.size ∧ b.size ≤ 255) ∧ (-9223372036854775808 ≤ b.kilos ∧ b.kilos ≤ 9223372036854775807) ∧ (-9223372036854775808 ≤ b.load ∧ b.load ≤ 9223372036854775807) ∧ (-9223372036854775808 ≤ b.dis ∧ b.dis ≤ 9223372036854775807) ∧ (0 ≤ b.cls ∧ b.cls ≤ 255)
set_option maxRecDepth 100000 in
theorem Box.open_ {n : Nat} {cs : List Value} {y : DataW H × List MemPlace} (h : DataW.trod enc Try.prog w base spare held n 73 cs = some y) (hf : Fits Try.prog 73 y.1) : ∃ b : Box, cs = b.cells ∧ b.wf := by
  obtain ⟨xs, n2, _, hx, hlen, hxl, hg⟩ := DataW.trod_struct Try.underlying73 h
  subst hx
  match cs, hlen.trans cells_Box with
  | [c0, c1, c2, c3, c4, c5, c6, c7, c8], _ =>
    match xs, hxl with
    | [y0, y1, y2, y3, y4, y5, y6, y7, y8], _ =>
      have g0 : DataW.trod enc Try.prog w base spare held n2 3 [c0] = some y0 := by simpa [List.drop, List.take, cells_i64, cells_u8, cells_bool, cells_str, cells_Slot] using hg 0 _ rfl
      obtain ⟨m0, e0, _, hw0⟩ := DataW.trod_int Try.underlying3 g0
      have hw0 := wf_i64 hw0
      obtain rfl : c0 = _ := by injection e0
      have g1 : DataW.trod enc Try.prog w base spare held n2 9 [c1] = some y1 := by simpa [List.drop, List.take, cells_i64, cells_u8, cells_bool, cells_str, cells_Slot] using hg 1 _ rfl
      obtain ⟨m1, e1, f1, _⟩ := DataW.trod_string Try.underlying9 g1
      have hw1 : m1.size ≤ 140737488351232 := by
        have h1 := Fits.field Try.underlying73 hf (j := 1) rfl rfl m1.size (by rw [f1]; simp [DataW.weights])
        exact h1
      obtain rfl : c1 = _ := by injection e1
      have g2 : DataW.trod enc Try.prog w base spare held n2 5 [c2] = some y2 := by simpa [List.drop, List.take, cells_i64, cells_u8, cells_bool, cells_str, cells_Slot] using hg 2 _ rfl
      obtain ⟨m2, e2, _, hw2⟩ := DataW.trod_int Try.underlying5 g2
      have hw2 := wf_u8 hw2
      obtain rfl : c2 = _ := by injection e2
      have g3 : DataW.trod enc Try.prog w base spare held n2 4 [c3] = some y3 := by simpa [List.drop, List.take, cells_i64, cells_u8, cells_bool, cells_str, cells_Slot] using hg 3 _ rfl
      obtain ⟨m3, e3, _⟩ := DataW.trod_bool Try.underlying4 g3
      obtain rfl : c3 = _ := by injection e3
      have g4 : DataW.trod enc Try.prog w base spare held n2 3 [c4] = some y4 := by simpa [List.drop, List.take, cells_i64, cells_u8, cells_bool, cells_str, cells_Slot] using hg 4 _ rfl
      obtain ⟨m4, e4, _, hw4⟩ := DataW.trod_int Try.underlying3 g4
      have hw4 := wf_i64 hw4
      obtain rfl : c4 = _ := by injection e4
      have g5 : DataW.trod enc Try.prog w base spare held n2 3 [c5] = some y5 := by simpa [List.drop, List.take, cells_i64, cells_u8, cells_bool, cells_str, cells_Slot] using hg 5 _ rfl
      obtain ⟨m5, e5, _, hw5⟩ := DataW.trod_int Try.underlying3 g5
      have hw5 := wf_i64 hw5
      obtain rfl : c5 = _ := by injection e5
      have g6 : DataW.trod enc Try.prog w base spare held n2 3 [c6] = some y6 := by simpa [List.drop, List.take, cells_i64, cells_u8, cells_bool, cells_str, cells_Slot] using hg 6 _ rfl
      obtain ⟨m6, e6, _, hw6⟩ := DataW.trod_int Try.underlying3 g6
      have hw6 := wf_i64 hw6
      obtain rfl : c6 = _ := by injection e6
      have g7 : DataW.trod enc Try.prog w base spare held n2 5 [c7] = some y7 := by simpa [List.drop, List.take, cells_i64, cells_u8, cells_bool, cells_str, cells_Slot] using hg 7 _ rfl
      obtain ⟨m7, e7, _, hw7⟩ := DataW.trod_int Try.underlying5 g7
      have hw7 := wf_u8 hw7
      obtain rfl : c7 = _ := by injection e7
      have g8 : DataW.trod enc Try.prog w base spare held n2 4 [c8] = some y8 := by simpa [List.drop, List.take, cells_i64, cells_u8, cells_bool, cells_str, cells_Slot] using hg 8 _ rfl
      obtain ⟨m8, e8, _⟩ := DataW.trod_bool Try.underlying4 g8
      obtain rfl : c8 = _ := by injection e8
      refine ⟨⟨m0, m1, m2, m3, m4, m5, m6, m7, m8⟩, rfl, ?_⟩
      unfold Box.wf
      exact ⟨hw0, hw1, hw2, hw4, hw5, hw6, hw7⟩
theorem bytes_Slot : Try.prog.bytesOf 40 = 24 := by kernel_rfl
def Slot.wf (b : Slot) : Prop := (-9223372036854775808 ≤ b.col ∧ b.col ≤ 9223372036854775807) ∧ (-9223372036854775808 ≤ b.tier ∧ b.tier ≤ 9223372036854775807) ∧ (0 ≤ b.half ∧ b.half ≤ 255)
set_option maxRecDepth 100000 in
theorem Slot.open_ {n : Nat} {cs : List Value} {y : DataW H × List MemPlace} (h : DataW.trod enc Try.prog w base spare held n 40 cs = some y) (hf : Fits Try.prog 40 y.1) : ∃ b : Slot, cs = b.cells ∧ b.wf := by
  obtain ⟨xs, n2, _, hx, hlen, hxl, hg⟩ := DataW.trod_struct Try.underlying40 h
  subst hx
  match cs, hlen.trans cells_Slot with
  | [c0, c1, c2], _ =>
    match xs, hxl with
    | [y0, y1, y2], _ =>
      have g0 : DataW.trod enc Try.prog w base spare held n2 3 [c0] = some y0 := by simpa [List.drop, List.take, cells_i64, cells_u8, cells_bool, cells_str, cells_Slot] using hg 0 _ rfl
      obtain ⟨m0, e0, _, hw0⟩ := DataW.trod_int Try.underlying3 g0
      have hw0 := wf_i64 hw0
      obtain rfl : c0 = _ := by injection e0
      have g1 : DataW.trod enc Try.prog w base spare held n2 3 [c1] = some y1 := by simpa [List.drop, List.take, cells_i64, cells_u8, cells_bool, cells_str, cells_Slot] using hg 1 _ rfl
      obtain ⟨m1, e1, _, hw1⟩ := DataW.trod_int Try.underlying3 g1
      have hw1 := wf_i64 hw1
      obtain rfl : c1 = _ := by injection e1
      have g2 : DataW.trod enc Try.prog w base spare held n2 5 [c2] = some y2 := by simpa [List.drop, List.take, cells_i64, cells_u8, cells_bool, cells_str, cells_Slot] using hg 2 _ rfl
      obtain ⟨m2, e2, _, hw2⟩ := DataW.trod_int Try.underlying5 g2
      have hw2 := wf_u8 hw2
      obtain rfl : c2 = _ := by injection e2
      refine ⟨⟨m0, m1, m2⟩, rfl, ?_⟩
      unfold Slot.wf
      exact ⟨hw0, hw1, hw2⟩
theorem cells_Stowed : Try.prog.cellsOf 42 = 4 := by kernel_rfl
theorem bytes_Stowed : Try.prog.bytesOf 42 = 32 := by kernel_rfl
def Stowed.wf (b : Stowed) : Prop := (-9223372036854775808 ≤ b.box ∧ b.box ≤ 9223372036854775807) ∧ (-9223372036854775808 ≤ b.col ∧ b.col ≤ 9223372036854775807) ∧ (-9223372036854775808 ≤ b.tier ∧ b.tier ≤ 9223372036854775807) ∧ (0 ≤ b.half ∧ b.half ≤ 255)
set_option maxRecDepth 100000 in
theorem Stowed.open_ {n : Nat} {cs : List Value} {y : DataW H × List MemPlace} (h : DataW.trod enc Try.prog w base spare held n 42 cs = some y) (hf : Fits Try.prog 42 y.1) : ∃ b : Stowed, cs = b.cells ∧ b.wf := by
  obtain ⟨xs, n2, _, hx, hlen, hxl, hg⟩ := DataW.trod_struct Try.underlying42 h
  subst hx
  match cs, hlen.trans cells_Stowed with
  | [c0, c1, c2, c3], _ =>
    match xs, hxl with
    | [y0, y1], _ =>
      have g0 : DataW.trod enc Try.prog w base spare held n2 3 [c0] = some y0 := by simpa [List.drop, List.take, cells_i64, cells_u8, cells_bool, cells_str, cells_Slot] using hg 0 _ rfl
      obtain ⟨m0, e0, _, hw0⟩ := DataW.trod_int Try.underlying3 g0
      have hw0 := wf_i64 hw0
      obtain rfl : c0 = _ := by injection e0
      have g1 : DataW.trod enc Try.prog w base spare held n2 40 [c1, c2, c3] = some y1 := by simpa [List.drop, List.take, cells_i64, cells_u8, cells_bool, cells_str, cells_Slot] using hg 1 _ rfl
      obtain ⟨b1, e1, hw1⟩ := Slot.open_ g1 (Fits.field Try.underlying42 hf (j := 1) rfl rfl)
      simp only [Slot.cells, List.cons.injEq, and_true] at e1
      obtain ⟨rfl, rfl, rfl⟩ := e1
      unfold Slot.wf at hw1
      refine ⟨⟨m0, b1.col, b1.tier, b1.half⟩, rfl, ?_⟩
      unfold Stowed.wf
      exact ⟨hw0, hw1⟩
theorem cells_Chg : Try.prog.cellsOf 37 = 4 := by kernel_rfl
theorem bytes_Chg : Try.prog.bytesOf 37 = 32 := by kernel_rfl
def Chg.wf (b : Chg) : Prop := (0 ≤ b.kind ∧ b.kind ≤ 255) ∧ (-9223372036854775808 ≤ b.call ∧ b.call ≤ 9223372036854775807) ∧ (-9223372036854775808 ≤ b.box ∧ b.box ≤ 9223372036854775807) ∧ (-9223372036854775808 ≤ b.kilos ∧ b.kilos ≤ 9223372036854775807)
set_option maxRecDepth 100000 in
theorem Chg.open_ {n : Nat} {cs : List Value} {y : DataW H × List MemPlace} (h : DataW.trod enc Try.prog w base spare held n 37 cs = some y) (hf : Fits Try.prog 37 y.1) : ∃ b : Chg, cs = b.cells ∧ b.wf := by
  obtain ⟨xs, n2, _, hx, hlen, hxl, hg⟩ := DataW.trod_struct Try.underlying37 h
  subst hx
  match cs, hlen.trans cells_Chg with
  | [c0, c1, c2, c3], _ =>
    match xs, hxl with
    | [y0, y1, y2, y3], _ =>
      have g0 : DataW.trod enc Try.prog w base spare held n2 5 [c0] = some y0 := by simpa [List.drop, List.take, cells_i64, cells_u8, cells_bool, cells_str, cells_Slot] using hg 0 _ rfl
      obtain ⟨m0, e0, _, hw0⟩ := DataW.trod_int Try.underlying5 g0
      have hw0 := wf_u8 hw0
      obtain rfl : c0 = _ := by injection e0
      have g1 : DataW.trod enc Try.prog w base spare held n2 3 [c1] = some y1 := by simpa [List.drop, List.take, cells_i64, cells_u8, cells_bool, cells_str, cells_Slot] using hg 1 _ rfl
      obtain ⟨m1, e1, _, hw1⟩ := DataW.trod_int Try.underlying3 g1
      have hw1 := wf_i64 hw1
      obtain rfl : c1 = _ := by injection e1
      have g2 : DataW.trod enc Try.prog w base spare held n2 3 [c2] = some y2 := by simpa [List.drop, List.take, cells_i64, cells_u8, cells_bool, cells_str, cells_Slot] using hg 2 _ rfl
      obtain ⟨m2, e2, _, hw2⟩ := DataW.trod_int Try.underlying3 g2
      have hw2 := wf_i64 hw2
      obtain rfl : c2 = _ := by injection e2
      have g3 : DataW.trod enc Try.prog w base spare held n2 3 [c3] = some y3 := by simpa [List.drop, List.take, cells_i64, cells_u8, cells_bool, cells_str, cells_Slot] using hg 3 _ rfl
      obtain ⟨m3, e3, _, hw3⟩ := DataW.trod_int Try.underlying3 g3
      have hw3 := wf_i64 hw3
      obtain rfl : c3 = _ := by injection e3
      refine ⟨⟨m0, m1, m2, m3⟩, rfl, ?_⟩
      unfold Chg.wf
      exact ⟨hw0, hw1, hw2, hw3⟩
def Num.wf (b : Num) : Prop := -9223372036854775808 ≤ b ∧ b ≤ 9223372036854775807
theorem Num.open_ {n : Nat} {cs : List Value} {y : DataW H × List MemPlace} (h : DataW.trod enc Try.prog w base spare held n 3 cs = some y) (_ : Fits Try.prog 3 y.1) : ∃ b : Num, cs = Num.cells b ∧ Num.wf b := by
  obtain ⟨m, rfl, _, hw⟩ := DataW.trod_int Try.underlying3 h
  have hw := wf_i64 hw
  exact ⟨m, rfl, by unfold Num.wf; exact hw⟩
end
end Go.Proofs.Ytccjddbcdmgefaa
