/-
  Arguments opened: a slice of structs reads as rows, a slice of slices as rows of rows; the sizes that the form of the claims allows.
-/
import Derived.Test.YtcdfnlgimbecgaaMt29
import Derived.ProofKit
import Derived.SizedLaws
namespace Go.Proofs.Ytcdfnlgimbecgaa
open Go.ChangeShapes Go.Deep Go.RowKit Go.WideShapes
theorem list_of {T : Type} {p : Nat → T → Prop} : ∀ (n : Nat), (∀ i, i < n → ∃ x, p i x) → ∃ l : List T, l.length = n ∧ ∀ i (h : i < l.length), p i l[i]
 | 0, _ => ⟨[], rfl, by simp⟩
 | n + 1, h => by
  obtain ⟨l, hl, hp⟩ := list_of n (fun i hi => h i (by omega))
  obtain ⟨x, hx⟩ := h n (by omega)
  refine ⟨l ++ [x], by simp [hl], fun i hi => ?_⟩
  by_cases e : i < l.length
  · rw [List.getElem_append_left e]
    exact hp i e
  · have e2 : i = n := by simp at hi; omega
    subst e2
    rw [List.getElem_append_right (by omega)]
    simpa using hx
theorem wf_i64 {n : Int} (h : (Lit.int .i64 n).wf = true) : -9223372036854775808 ≤ n ∧ n ≤ 9223372036854775807 := by
 have e1 : IntKind.i64.min = -9223372036854775808 := by kernel_rfl
 have e2 : IntKind.i64.max = 9223372036854775807 := by kernel_rfl
 simp only [Lit.wf, Bool.and_eq_true, decide_eq_true_eq, e1, e2] at h
 exact h
theorem below_all {H : Type} {enc : TypeId × Value → H} {P : Program} (hl : laidOutB P = true) {W W' : World} (hb : Below W.heap.size W W') : ∀ {ts : List TypeId} {vs : List Value} {ds : List (DataW H)} {ps : List MemPlace}, (ts.all fun t => P.readableRec t && decide (t < P.types.size)) = true →
 DataW.TrodAll enc P W 0 (fun _ => true) true ts vs ds ps → (∀ x ∈ ps, x.block < W.heap.size) → DataW.TrodAll enc P W' 0 (fun b => decide (b < W.heap.size)) true ts vs ds ps
 | [], vs, ds, ps, _, h, _ => by
  obtain ⟨rfl, rfl, rfl⟩ := trodAll_nil h
  exact trodAll_mk0
 | t :: ts, vs, ds, ps, ht, h, hlt => by
  obtain ⟨v, vs', d, ds', p, q, rfl, rfl, rfl, hd, hr⟩ := trodAll_cons h
  simp only [List.all_cons, Bool.and_eq_true, decide_eq_true_eq] at ht
  exact ⟨p, q, Below.trod hl ht.1.1 ht.1.2 hd hb (fun x hx => hlt x (List.mem_append_left _ hx)), below_all hl hb (by simpa using ht.2) hr (fun x hx => hlt x (List.mem_append_right _ hx)), rfl⟩
theorem Try.own : ownKnob Try.prog.godebug = none := by kernel_rfl
theorem Try.laidOut : laidOutB Try.prog = true := by kernel_rfl
section
variable {H : Type} {enc : TypeId × Value → H} {P : Program} {w : World} {base : Nat} {held : Bool}
def Fits (P : Program) (t : TypeId) (d : DataW H) : Prop := ∀ k ∈ d.weights P t, k ≤ 140737488351232
theorem weightsAll_mem {t : TypeId} : ∀ {ds : List (DataW H)} {d : DataW H}, d ∈ ds → ∀ k ∈ d.weights P t, k ∈ DataW.weightsAll P t ds
 | [], _, h, _, _ => by cases h
 | d0 :: ds, d, h, k, hk => by
  unfold DataW.weightsAll
  rw [List.mem_append]
  rcases List.mem_cons.1 h with h | h
  · subst h; exact .inl hk
  · exact .inr (weightsAll_mem h k hk)
theorem Fits.elem {t e : TypeId} {els sp : List (DataW H)} {d : DataW H} (ht : P.underlying t = some (.slice e)) (h : Fits P t (.slice els sp)) (hd : d ∈ els) : Fits P e d := fun k hk => h k (by
 simp only [DataW.weights, ht, List.mem_cons, List.mem_append]
 exact .inr (.inl (weightsAll_mem hd k hk)))
theorem Fits.size {t e : TypeId} {els sp : List (DataW H)} (ht : P.underlying t = some (.slice e)) (h : Fits P t (.slice els sp)) : (els.length + sp.length) * P.bytesOf e ≤ 140737488351232 := h _ (by
 simp only [DataW.weights, ht, List.mem_cons]
 exact .inl trivial)
theorem fits_of {ts : List TypeId} {ds : List (DataW H)} (h : (DataW.weightsEach P ts ds).all (· ≤ reachBytes) = true) {j : Nat} {t : TypeId} {d : DataW H} (ht : ts[j]? = some t) (hd : ds[j]? = some d) : Fits P t d := fun k hk => by
 have := List.all_eq_true.1 h _ (DataW.weights_mem_each ht hd k hk)
 exact of_decide_eq_true this
theorem open_rows {T : Type} {cells : T → List Value} {wf : T → Prop} {t e size bytes fuel : Nat} {v : Value} {x : DataW H × List MemPlace} (ht : P.underlying t = some (.slice e)) (hC : P.cellsOf e = size) (h0 : 0 < size) (hB : P.bytesOf e = bytes)
 (hel : ∀ n cs (y : DataW H × List MemPlace), DataW.trod enc P w base (fun _ => true) held n e cs = some y → Fits P e y.1 → ∃ b : T, cs = cells b ∧ wf b)
 (h : DataW.trod enc P w base (fun _ => true) held fuel t [v] = some x) (hf : Fits P t x.1) :
 ∃ (A : Option Addr) (l : List T) (c : Nat), v = .slice A l.length c ∧ Rd w w.heap.size size A (l.map cells) ∧ (∀ b ∈ l, wf b) ∧ l.length * bytes ≤ 140737488351232 ∧ l.length ≤ c := by
 rcases open_slice ht h with ⟨hcs, hx⟩ | ⟨a, len, cap, m, n, D, Pl, hcs, hb, hl, hm, hmm, hx, hi⟩
 · injection hcs with hv _
   subst hv
   exact ⟨none, [], 0, rfl, Rd.nil _ _ _ _, by simp, by simp, by simp⟩
 · injection hcs with hv _
   subst hv
   subst hx
   simp only [if_true] at hmm
   subst hmm
   have hsz := Fits.size ht hf
   rw [hB] at hsz
   simp only [List.length_map, List.length_range] at hsz
   have key : ∀ i, i < len → ∃ b : T, wf b ∧ (cells b).length = size ∧ ∀ j u, (cells b)[j]? = some u → w.cell? ((a.add (i * size)).add j) = some u := fun i hlt => by
    obtain ⟨cs, hc, ht'⟩ := hi i (by omega)
    obtain ⟨b, rfl, hw⟩ := hel n cs (D i, Pl i) ht' (Fits.elem ht hf (List.mem_map_of_mem (List.mem_range.2 hlt)))
    obtain ⟨_, hcl, hat⟩ := World.cells?_some hc
    rw [hC] at hcl hat hc
    refine ⟨b, hw, hcl, fun j u hu => ?_⟩
    rw [hat j (by rw [← hcl]; exact (List.getElem?_eq_some_iff.1 hu).1)]
    exact hu
   obtain ⟨l, hll, hp⟩ := list_of len key
   subst hll
   refine ⟨some a, l, m, rfl, fun k cs hk => ?_, fun b hb' => ?_, Nat.le_trans (Nat.mul_le_mul_right bytes (by omega)) hsz, by omega⟩
   · rw [List.getElem?_map] at hk
     obtain ⟨b, hbk, rfl⟩ := Option.map_eq_some_iff.1 hk
     have hkl : k < l.length := (List.getElem?_eq_some_iff.1 hbk).1
     obtain ⟨_, hcl, hc⟩ := hp k hkl
     have hbe : l[k] = b := by rw [List.getElem?_eq_getElem hkl] at hbk; injection hbk
     rw [hbe] at hcl hc
     have hu0 : (cells b)[0]? = some ((cells b)[0]'(by omega)) := List.getElem?_eq_getElem (by omega)
     have hc0 := hc 0 _ hu0
     have hlt := block_lt_of_cell hc0
     obtain ⟨_, hcl0, hcz⟩ := hp 0 (by omega)
     have hsp := World.cell?_spot (hcz 0 _ (List.getElem?_eq_getElem (by omega)))
     obtain ⟨ab, ao, asp⟩ := a
     have has : asp = none := by simpa [Addr.add] using hsp
     subst has
     refine ⟨ab, ao, rfl, by simpa [Addr.add_lit] using hlt, hcl, fun j u hu => ?_⟩
     have := hc j u hu
     rwa [Addr.add_lit, Addr.add_lit] at this
   · obtain ⟨k, hk, rfl⟩ := List.mem_iff_getElem.1 hb'
     exact (hp k hk).1
end
section
variable {H : Type} {enc : TypeId × Value → H} {w : World} {base : Nat} {spare : Nat → Bool} {held : Bool}
theorem cells_i64 : Try.prog.cellsOf 3 = 1 := by kernel_rfl
theorem cells_u8 : Try.prog.cellsOf 5 = 1 := by kernel_rfl
theorem cells_u16 : Try.prog.cellsOf 62 = 1 := by kernel_rfl
theorem cells_Frm : Try.prog.cellsOf 44 = 5 := by kernel_rfl
theorem bytes_Frm : Try.prog.bytesOf 44 = 40 := by kernel_rfl
def Frm.wf (b : Frm) : Prop := (-9223372036854775808 ≤ b.x ∧ b.x ≤ 9223372036854775807) ∧ (-9223372036854775808 ≤ b.light ∧ b.light ≤ 9223372036854775807) ∧ (-9223372036854775808 ≤ b.share ∧ b.share ≤ 9223372036854775807) ∧ (-9223372036854775808 ≤ b.shear ∧ b.shear ≤ 9223372036854775807) ∧ (-9223372036854775808 ≤ b.bend ∧ b.bend ≤ 9223372036854775807)
set_option maxRecDepth 100000 in
theorem Frm.open_ {n : Nat} {cs : List Value} {y : DataW H × List MemPlace} (h : DataW.trod enc Try.prog w base spare held n 44 cs = some y) (hf : Fits Try.prog 44 y.1) : ∃ b : Frm, cs = b.cells ∧ b.wf := by
 obtain ⟨xs, n2, _, hx, hlen, hxl, hg⟩ := DataW.trod_struct Try.underlying44 h
 subst hx
 match cs, hlen.trans cells_Frm with
 | [c0, c1, c2, c3, c4], _ =>
  match xs, hxl with
  | [y0, y1, y2, y3, y4], _ =>
   have g0 : DataW.trod enc Try.prog w base spare held n2 3 [c0] = some y0 := by simpa [List.drop, List.take, cells_i64, cells_u8, cells_u16] using hg 0 _ rfl
   obtain ⟨m0, e0, _, hw0⟩ := DataW.trod_int Try.underlying3 g0
   have hw0 := wf_i64 hw0
   obtain rfl : c0 = _ := by injection e0
   have g1 : DataW.trod enc Try.prog w base spare held n2 3 [c1] = some y1 := by simpa [List.drop, List.take, cells_i64, cells_u8, cells_u16] using hg 1 _ rfl
   obtain ⟨m1, e1, _, hw1⟩ := DataW.trod_int Try.underlying3 g1
   have hw1 := wf_i64 hw1
   obtain rfl : c1 = _ := by injection e1
   have g2 : DataW.trod enc Try.prog w base spare held n2 3 [c2] = some y2 := by simpa [List.drop, List.take, cells_i64, cells_u8, cells_u16] using hg 2 _ rfl
   obtain ⟨m2, e2, _, hw2⟩ := DataW.trod_int Try.underlying3 g2
   have hw2 := wf_i64 hw2
   obtain rfl : c2 = _ := by injection e2
   have g3 : DataW.trod enc Try.prog w base spare held n2 3 [c3] = some y3 := by simpa [List.drop, List.take, cells_i64, cells_u8, cells_u16] using hg 3 _ rfl
   obtain ⟨m3, e3, _, hw3⟩ := DataW.trod_int Try.underlying3 g3
   have hw3 := wf_i64 hw3
   obtain rfl : c3 = _ := by injection e3
   have g4 : DataW.trod enc Try.prog w base spare held n2 3 [c4] = some y4 := by simpa [List.drop, List.take, cells_i64, cells_u8, cells_u16] using hg 4 _ rfl
   obtain ⟨m4, e4, _, hw4⟩ := DataW.trod_int Try.underlying3 g4
   have hw4 := wf_i64 hw4
   obtain rfl : c4 = _ := by injection e4
   refine ⟨⟨m0, m1, m2, m3, m4⟩, rfl, ?_⟩
   unfold Frm.wf
   exact ⟨hw0, hw1, hw2, hw3, hw4⟩
theorem cells_Wt : Try.prog.cellsOf 46 = 2 := by kernel_rfl
theorem bytes_Wt : Try.prog.bytesOf 46 = 16 := by kernel_rfl
def Wt.wf (b : Wt) : Prop := (-9223372036854775808 ≤ b.x ∧ b.x ≤ 9223372036854775807) ∧ (-9223372036854775808 ≤ b.kilos ∧ b.kilos ≤ 9223372036854775807)
set_option maxRecDepth 100000 in
theorem Wt.open_ {n : Nat} {cs : List Value} {y : DataW H × List MemPlace} (h : DataW.trod enc Try.prog w base spare held n 46 cs = some y) (hf : Fits Try.prog 46 y.1) : ∃ b : Wt, cs = b.cells ∧ b.wf := by
 obtain ⟨xs, n2, _, hx, hlen, hxl, hg⟩ := DataW.trod_struct Try.underlying46 h
 subst hx
 match cs, hlen.trans cells_Wt with
 | [c0, c1], _ =>
  match xs, hxl with
  | [y0, y1], _ =>
   have g0 : DataW.trod enc Try.prog w base spare held n2 3 [c0] = some y0 := by simpa [List.drop, List.take, cells_i64, cells_u8, cells_u16] using hg 0 _ rfl
   obtain ⟨m0, e0, _, hw0⟩ := DataW.trod_int Try.underlying3 g0
   have hw0 := wf_i64 hw0
   obtain rfl : c0 = _ := by injection e0
   have g1 : DataW.trod enc Try.prog w base spare held n2 3 [c1] = some y1 := by simpa [List.drop, List.take, cells_i64, cells_u8, cells_u16] using hg 1 _ rfl
   obtain ⟨m1, e1, _, hw1⟩ := DataW.trod_int Try.underlying3 g1
   have hw1 := wf_i64 hw1
   obtain rfl : c1 = _ := by injection e1
   refine ⟨⟨m0, m1⟩, rfl, ?_⟩
   unfold Wt.wf
   exact ⟨hw0, hw1⟩
end
end Go.Proofs.Ytcdfnlgimbecgaa
