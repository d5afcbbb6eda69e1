/-
  The structs that the programs use, as Lean structures: their cells, how one is read at an index, how two are compared.
  Frames and weights, plain: which frames are right.
  copy onto numbers of the call's own; slices.Clone of digits with zeros ahead; a block's first numbers.
  A fraction that lies in a block of its own: loads, stores, copies into its numbers, results.
  strength: within, light.
-/
import Derived.Test.YtcdfnlgimbecgaaMo1
import Derived.Test.YtcdfnlgimbecgaaMo11
import Derived.Test.YtcdfnlgimbecgaaRows
import Derived.Laws.CopyOwn

namespace Go.Proofs.Ytcdfnlgimbecgaa
open Go.RowKit

structure Frm where
  x : Int
  light : Int
  share : Int
  shear : Int
  bend : Int
deriving DecidableEq

def Frm.cells (b : Frm) : List Value := [.int .i64 b.x, .int .i64 b.light, .int .i64 b.share, .int .i64 b.shear, .int .i64 b.bend]
abbrev Frm.val (b : Frm) : Value := .agg #[.int .i64 b.x, .int .i64 b.light, .int .i64 b.share, .int .i64 b.shear, .int .i64 b.bend]
theorem Frm.len (b : Frm) : b.cells.length = 5 := rfl
theorem Frm.one (b : Frm) : ∀ u ∈ b.cells, u.oneCell' = true := by simp [Frm.cells, Value.oneCell']
theorem Frm.lens (l : List Frm) : ∀ cs ∈ l.map Frm.cells, cs.length = 5 := by
  intro cs h
  obtain ⟨b, _, rfl⟩ := List.mem_map.1 h
  rfl
theorem Frm.ones (l : List Frm) : ∀ cs ∈ l.map Frm.cells, ∀ u ∈ cs, u.oneCell' = true := by
  intro cs h
  obtain ⟨b, _, rfl⟩ := List.mem_map.1 h
  exact b.one
theorem Frm.at_ {w : World} {B : Nat} {A : Option Addr} {l : List Frm} (h : Rd w B 5 A (l.map Frm.cells)) (k : Nat) (hk : k < l.length) :
    ∃ b off, A = some ⟨b, off, none⟩ ∧ b < B ∧ ∀ w', Below B w w' →
      w'.cell? ⟨b, off + k * 5, none⟩ = some (.int .i64 l[k].x) ∧
      w'.cell? ⟨b, off + k * 5 + 1, none⟩ = some (.int .i64 l[k].light) ∧
      w'.cell? ⟨b, off + k * 5 + 2, none⟩ = some (.int .i64 l[k].share) ∧
      w'.cell? ⟨b, off + k * 5 + 3, none⟩ = some (.int .i64 l[k].shear) ∧
      w'.cell? ⟨b, off + k * 5 + 4, none⟩ = some (.int .i64 l[k].bend) := by
  obtain ⟨b, off, e, hlt, _, hc⟩ := h k l[k].cells (by simp [hk])
  refine ⟨b, off, e, hlt, fun w' hb => ?_⟩
  have hq : ∀ j u, l[k].cells[j]? = some u → w'.cell? ⟨b, off + k * 5 + j, none⟩ = some u := fun j u hu => (hb.cell (p := ⟨b, _, none⟩) (by simpa using hlt)).trans (hc j u hu)
  exact ⟨hq 0 _ rfl, hq 1 _ rfl, hq 2 _ rfl, hq 3 _ rfl, hq 4 _ rfl⟩
theorem Frm.eql_ (x y : Frm) (w : World) : (binOp .eql 44 (.agg #[.int .i64 x.x, .int .i64 x.light, .int .i64 x.share, .int .i64 x.shear, .int .i64 x.bend]) (.agg #[.int .i64 y.x, .int .i64 y.light, .int .i64 y.share, .int .i64 y.shear, .int .i64 y.bend])).run Try.prog w = .ok (.bool (decide (x = y))) w := by
  go_simp
  rcases x with ⟨x0, x1, x2, x3, x4⟩
  rcases y with ⟨y0, y1, y2, y3, y4⟩
  simp only [Frm.mk.injEq]
  by_cases h0 : x0 = y0
  case neg => simp [h0]
  subst h0
  by_cases h1 : x1 = y1
  case neg => simp [h1]
  subst h1
  by_cases h2 : x2 = y2
  case neg => simp [h2]
  subst h2
  by_cases h3 : x3 = y3
  case neg => simp [h3]
  subst h3
  by_cases h4 : x4 = y4
  case neg => simp [h4]
  subst h4
  simp
theorem Frm.neq_ (x y : Frm) (w : World) : (binOp .neq 44 (.agg #[.int .i64 x.x, .int .i64 x.light, .int .i64 x.share, .int .i64 x.shear, .int .i64 x.bend]) (.agg #[.int .i64 y.x, .int .i64 y.light, .int .i64 y.share, .int .i64 y.shear, .int .i64 y.bend])).run Try.prog w = .ok (.bool (!decide (x = y))) w := by
  go_simp
  rcases x with ⟨x0, x1, x2, x3, x4⟩
  rcases y with ⟨y0, y1, y2, y3, y4⟩
  simp only [Frm.mk.injEq]
  by_cases h0 : x0 = y0
  case neg => simp [h0]
  subst h0
  by_cases h1 : x1 = y1
  case neg => simp [h1]
  subst h1
  by_cases h2 : x2 = y2
  case neg => simp [h2]
  subst h2
  by_cases h3 : x3 = y3
  case neg => simp [h3]
  subst h3
  by_cases h4 : x4 = y4
  case neg => simp [h4]
  subst h4
  simp
theorem Frm.row : IsRow Try.prog 44 5 := ⟨_, Try.underlying44, by kernel_rfl, by kernel_rfl⟩
theorem Frm.ld {w : World} {B : Nat} {A : Option Addr} {css : List (List Value)} (h : Rd w B 5 A css) {k : Nat} {b : Frm} (hk : css[k]? = some b.cells) :
    ∃ g off, A = some ⟨g, off, none⟩ ∧ g < B ∧ ∀ w', Below B w w' → (loadVar 44 ⟨g, off + k * 5, none⟩).run Try.prog w' = .ok b.val w' := h.ld Frm.row hk
theorem Frm.ei : EI Try.prog 22 44 5 40 := EI.mk (z := .agg #[.int .i64 0, .int .i64 0, .int .i64 0, .int .i64 0, .int .i64 0]) Try.underlying22 (by kernel_rfl) rfl (by omega)

structure Wt where
  x : Int
  kilos : Int
deriving DecidableEq

def Wt.cells (b : Wt) : List Value := [.int .i64 b.x, .int .i64 b.kilos]
abbrev Wt.val (b : Wt) : Value := .agg #[.int .i64 b.x, .int .i64 b.kilos]
theorem Wt.len (b : Wt) : b.cells.length = 2 := rfl
theorem Wt.one (b : Wt) : ∀ u ∈ b.cells, u.oneCell' = true := by simp [Wt.cells, Value.oneCell']
theorem Wt.lens (l : List Wt) : ∀ cs ∈ l.map Wt.cells, cs.length = 2 := by
  intro cs h
  obtain ⟨b, _, rfl⟩ := List.mem_map.1 h
  rfl
theorem Wt.ones (l : List Wt) : ∀ cs ∈ l.map Wt.cells, ∀ u ∈ cs, u.oneCell' = true := by
  intro cs h
  obtain ⟨b, _, rfl⟩ := List.mem_map.1 h
  exact b.one
theorem Wt.at_ {w : World} {B : Nat} {A : Option Addr} {l : List Wt} (h : Rd w B 2 A (l.map Wt.cells)) (k : Nat) (hk : k < l.length) :
    ∃ b off, A = some ⟨b, off, none⟩ ∧ b < B ∧ ∀ w', Below B w w' →
      w'.cell? ⟨b, off + k * 2, none⟩ = some (.int .i64 l[k].x) ∧
      w'.cell? ⟨b, off + k * 2 + 1, none⟩ = some (.int .i64 l[k].kilos) := by
  obtain ⟨b, off, e, hlt, _, hc⟩ := h k l[k].cells (by simp [hk])
  refine ⟨b, off, e, hlt, fun w' hb => ?_⟩
  have hq : ∀ j u, l[k].cells[j]? = some u → w'.cell? ⟨b, off + k * 2 + j, none⟩ = some u := fun j u hu => (hb.cell (p := ⟨b, _, none⟩) (by simpa using hlt)).trans (hc j u hu)
  exact ⟨hq 0 _ rfl, hq 1 _ rfl⟩
theorem Wt.eql_ (x y : Wt) (w : World) : (binOp .eql 46 (.agg #[.int .i64 x.x, .int .i64 x.kilos]) (.agg #[.int .i64 y.x, .int .i64 y.kilos])).run Try.prog w = .ok (.bool (decide (x = y))) w := by
  go_simp
  rcases x with ⟨x0, x1⟩
  rcases y with ⟨y0, y1⟩
  simp only [Wt.mk.injEq]
  by_cases h0 : x0 = y0
  case neg => simp [h0]
  subst h0
  by_cases h1 : x1 = y1
  case neg => simp [h1]
  subst h1
  simp
theorem Wt.neq_ (x y : Wt) (w : World) : (binOp .neq 46 (.agg #[.int .i64 x.x, .int .i64 x.kilos]) (.agg #[.int .i64 y.x, .int .i64 y.kilos])).run Try.prog w = .ok (.bool (!decide (x = y))) w := by
  go_simp
  rcases x with ⟨x0, x1⟩
  rcases y with ⟨y0, y1⟩
  simp only [Wt.mk.injEq]
  by_cases h0 : x0 = y0
  case neg => simp [h0]
  subst h0
  by_cases h1 : x1 = y1
  case neg => simp [h1]
  subst h1
  simp
theorem Wt.row : IsRow Try.prog 46 2 := ⟨_, Try.underlying46, by kernel_rfl, by kernel_rfl⟩
theorem Wt.ld {w : World} {B : Nat} {A : Option Addr} {css : List (List Value)} (h : Rd w B 2 A css) {k : Nat} {b : Wt} (hk : css[k]? = some b.cells) :
    ∃ g off, A = some ⟨g, off, none⟩ ∧ g < B ∧ ∀ w', Below B w w' → (loadVar 46 ⟨g, off + k * 2, none⟩).run Try.prog w' = .ok b.val w' := h.ld Wt.row hk
theorem Wt.ei : EI Try.prog 23 46 2 16 := EI.mk (z := .agg #[.int .i64 0, .int .i64 0]) Try.underlying23 (by kernel_rfl) rfl (by omega)

abbrev Num := Int
def Num.cells (n : Num) : List Value := [.int .i64 n]
abbrev Num.val (n : Num) : Value := .int .i64 n
theorem Num.one (n : Num) : ∀ u ∈ n.cells, u.oneCell' = true := by simp [Num.cells, Value.oneCell']
theorem Num.lens (l : List Num) : ∀ cs ∈ l.map Num.cells, cs.length = 1 := by
  intro cs h
  obtain ⟨b, _, rfl⟩ := List.mem_map.1 h
  rfl
theorem Num.ones (l : List Num) : ∀ cs ∈ l.map Num.cells, ∀ u ∈ cs, u.oneCell' = true := by
  intro cs h
  obtain ⟨b, _, rfl⟩ := List.mem_map.1 h
  exact Num.one b
theorem Num.ld {w : World} {B : Nat} {A : Option Addr} {css : List (List Value)} (h : Rd w B 1 A css) {k : Nat} {n : Num} (hk : css[k]? = some n.cells) :
    ∃ g off, A = some ⟨g, off, none⟩ ∧ g < B ∧ ∀ w', Below B w w' → (loadVar 3 ⟨g, off + k, none⟩).run Try.prog w' = .ok n.val w' := by
  obtain ⟨b, off, e, hlt, _, hc⟩ := h k n.cells hk
  refine ⟨b, off, e, hlt, fun w' hb => ?_⟩
  have h0 := hc 0 _ rfl
  simp only [Nat.mul_one, Nat.add_zero] at h0
  have h1 := (hb.cell (p := ⟨b, off + k, none⟩) (by simpa using hlt)).trans h0
  go_simp
theorem Num.at_ {w : World} {B : Nat} {A : Option Addr} {l : List Num} (h : Rd w B 1 A (l.map Num.cells)) (k : Nat) (hk : k < l.length) :
    ∃ b off, A = some ⟨b, off, none⟩ ∧ b < B ∧ ∀ w', Below B w w' → w'.cell? ⟨b, off + k, none⟩ = some (.int .i64 l[k]) := by
  obtain ⟨b, off, e, hlt, _, hc⟩ := h k (Num.cells l[k]) (by simp [hk])
  refine ⟨b, off, e, hlt, fun w' hb => ?_⟩
  have h0 := hc 0 _ rfl
  simp only [Nat.mul_one, Nat.add_zero] at h0
  exact (hb.cell (p := ⟨b, _, none⟩) (by simpa using hlt)).trans h0
theorem Num.eql_ (x y : Num) (w : World) : (binOp .eql 3 x.val y.val).run Try.prog w = .ok (.bool (x == y)) w := by go_simp
theorem Num.neq_ (x y : Num) (w : World) : (binOp .neq 3 x.val y.val).run Try.prog w = .ok (.bool (x != y)) w := by go_simp
theorem Num.ei : EI Try.prog 42 3 1 8 := EI.mk (z := .int .i64 0) Try.underlying42 (by kernel_rfl) rfl (by omega)

end Go.Proofs.Ytcdfnlgimbecgaa

namespace Go.Proofs.Ytcdfnlgimbecgaa

def Frm.ok (f : Frm) : Bool := decide (-500000 ≤ f.x ∧ f.x ≤ 500000) && decide (0 ≤ f.light ∧ f.light ≤ 500000000) && decide (0 ≤ f.share ∧ f.share ≤ 10000) && decide (0 ≤ f.shear ∧ f.shear ≤ 1000000000000000) && decide (0 ≤ f.bend ∧ f.bend ≤ 1000000000000000)
/-- each one right, and behind the one before it -/
def okFrom : Option Int → List Frm → Bool
  | _, [] => true
  | p, f :: l => f.ok && (match p with | none => true | some x => decide (x < f.x)) && okFrom (some f.x) l
def shareF (l : List Frm) : Int := (l.map Frm.share).foldr (· + ·) 0
/-- the weights, added up as long as they are not too great -/
def lightFrom : Int → List Frm → Int
  | s, [] => s
  | s, f :: l => lightFrom (if s ≤ 500000000 then s + f.light else s) l
def lightF (l : List Frm) : Int := lightFrom 0 l
def lastF (l : List Frm) : Frm := l.getLastD ⟨0, 0, 0, 0, 0⟩
def rightF (l : List Frm) : Bool := decide (3 ≤ l.length ∧ l.length ≤ 30) && okFrom none l && decide (lightF l ≤ 500000000) && decide (shareF l = 10000) && decide ((lastF l).light = 0) && decide ((lastF l).share = 0)

/-- numbers that fit their words -/
def Frm.fits (f : Frm) : Prop := -9223372036854775808 ≤ f.x ∧ f.x ≤ 9223372036854775807
theorem okFrom_ok : ∀ (p : Option Int) (l : List Frm), okFrom p l = true → ∀ f ∈ l, f.ok = true
  | _, [], _, f, hf => by cases hf
  | p, g :: l, h, f, hf => by
    unfold okFrom at h
    simp only [Bool.and_eq_true] at h
    rcases List.mem_cons.1 hf with rfl | h1
    · exact h.1.1
    · exact okFrom_ok _ l h.2 f h1
theorem Frm.ok_nums {f : Frm} (h : f.ok = true) : (-500000 ≤ f.x ∧ f.x ≤ 500000) ∧ (0 ≤ f.light ∧ f.light ≤ 500000000) ∧ (0 ≤ f.share ∧ f.share ≤ 10000) ∧ (0 ≤ f.shear ∧ f.shear ≤ 1000000000000000) ∧ (0 ≤ f.bend ∧ f.bend ≤ 1000000000000000) := by
  unfold Frm.ok at h
  simp only [Bool.and_eq_true, decide_eq_true_eq] at h
  exact ⟨h.1.1.1.1, h.1.1.1.2, h.1.1.2, h.1.2, h.2⟩
theorem lightFrom_range : ∀ (l : List Frm) (s : Int), (∀ f ∈ l, f.ok = true) → 0 ≤ s → s ≤ 1000000000 → 0 ≤ lightFrom s l ∧ lightFrom s l ≤ 1000000000
  | [], s, _, h0, h1 => ⟨h0, h1⟩
  | f :: l, s, h, h0, h1 => by
    unfold lightFrom
    have hf := Frm.ok_nums (h f (by simp))
    refine lightFrom_range l _ (fun g hg => h g (by simp [hg])) ?_ ?_
    · split <;> omega
    · split <;> omega
end Go.Proofs.Ytcdfnlgimbecgaa

namespace Go.Proofs.Ytcdfnlgimbecgaa
open Go.RowKit

theorem wpList_copyN {P : Program} {w : World} {ops : Array Oper} {rest : List Oper} {o : Oper} {a : Act} {Q : Exit → Act → World → Prop} (hgd : o.guard = none) (d s : Operand) (dT sT : TypeId)
    (ho : o.op = .call { callee := .builtin .copy, args := #[d, s], argTypes := #[dT, sT] }) (elem : TypeId) (hu : P.underlying dT = some (.slice elem)) (hsz : (P.info? elem).map (·.size) = some 1)
    {g E dl dc sl sc : Nat} {k : IntKind} {L l : List Nat} {A : Option Addr} (hd : a.eval d = .slice (some ⟨g, 0, none⟩) dl dc) (hs : a.eval s = .slice A sl sc) (hdl : dl = L.length) (hsl : sl = l.length) (hle : l.length ≤ L.length) (hl0 : 0 < l.length)
    (hnb : NB w g E k L) (hrd : Rd w w.heap.size 1 A (nums k l))
    (h : ∀ w', NB w' g E k (l ++ L.drop l.length) → w.grownBy w' (some g) → wpList P ops Q rest (a.put o.dst (.int .i64 (l.length : Int))) w') : wpList P ops Q (o :: rest) a w := by
  obtain ⟨b, off, rfl, _, _, _⟩ := hrd 0 _ (nums_get (k := k) hl0)
  have hcl : (l.map fun (n : Nat) => Value.int k (n : Int)).length = l.length := by simp
  have hnb' : w.heap[g]? = some (.cells (L.map fun (n : Nat) => Value.int k (n : Int)).toArray E (0, 0)) := hnb
  refine wpList_copy_own hgd d s dT sT ho elem hu hsz g 0 dl dc ⟨b, off, none⟩ sl sc hd hs _ E hnb' (l.map fun (n : Nat) => Value.int k (n : Int)) (by rw [hcl, hdl, hsl]; exact (Nat.min_eq_left hle).symm) ?_ (by simp; omega) (by simp [Value.oneCell']) ?_
  · intro j v hv
    rw [List.getElem?_map] at hv
    obtain ⟨n, hn, rfl⟩ := Option.map_eq_some_iff.1 hv
    have hjl := (List.getElem?_eq_some_iff.1 hn).1
    obtain ⟨b', off', e, _, _, hc⟩ := hrd j _ (nums_get (k := k) hjl)
    injection e with e
    injection e with e1 e2
    subst e1; subst e2
    have h1 := hc 0 _ rfl
    rw [Addr.add_lit]
    simp only [Nat.mul_one, Nat.add_zero] at h1
    rw [h1]
    have h2 := (List.getElem?_eq_some_iff.1 hn).2
    rw [h2]
  · have h1 := h (w.setRow g (List.take 0 (L.map fun (n : Nat) => Value.int k (n : Int)).toArray.toList ++ ((l.map fun (n : Nat) => Value.int k (n : Int)) ++ List.drop (0 + (l.map fun (n : Nat) => Value.int k (n : Int)).length) (L.map fun (n : Nat) => Value.int k (n : Int)).toArray.toList)).toArray) ?_ ⟨rfl, rfl, rfl, by simp, fun q _ hq => setRow_other w g q _ (fun e => hq (by rw [e]))⟩
    · rw [hcl]
      rw [hcl] at h1
      exact h1
    · unfold NB
      rw [setRow_heap w g _ _ E (0, 0) hnb']
      simp [List.map_append, List.map_drop]

theorem clone_nums (b off c n : Nat) (l : List Nat) (hn : n = l.length) (w : World) (hA : Rd w w.heap.size 1 (some ⟨b, off, none⟩) (nums .u32 l)) (hl : l.length ≤ 1000) :
    Calls Try.prog 89 #[.slice (some ⟨b, off, none⟩) n c] w fun e w' => ∃ A' c', e = .returned (.slice A' n c') ∧ OwnS w' w.heap.size 34 1 A' c' (nums .u32 l) ∧ n ≤ c' ∧ Below w.heap.size w w' := by
  subst hn
  have heq := fun w => Go.Lib.run_eql_slice_nil (P := Try.prog) w 108 34 (some ⟨b, off, none⟩) l.length c 0 0 Try.underlying108
  have hb1 : Below w.heap.size w (w.alloc (Obj.cells #[] 34)) := (Below.refl _ _).alloc (Nat.le_refl _) _
  have HRD := Lib.hid ((hA.below hb1 (Nat.le_refl _)).more hb1.size)
  have HOW := Lib.hid (OwnS.empty_new w w.heap.size 34 1 (Nat.le_refl _))
  have HB1 := Lib.hid hb1
  clear hA hb1
  go_enter Try.func89, Try.ntmps89
  go_wp2_with (first
    | (at_builtin; go_loud (refine wpList_append_n rfl _ _ rfl u32_ei 0 rfl rfl HOW.out rfl _ HRD.out (by rw [nums_len]) (nums_ones _ l) (by unfold maxLen; simp; omega) (by simp; omega) HB1.out.size ?_); intro A4 c4 w4 hown4 hg4 hb4))
  go_ret
  have hcap := hown4.cap.1
  rw [List.nil_append, nums_len] at hcap
  exact ⟨A4, c4, by simp, by simpa using hown4, hcap, HB1.out.trans hb4⟩

theorem NB.nbx {w : World} {g E : Nat} {k : IntKind} {L : List Nat} (h : NB w g E k L) (n : Nat) : NBx w g E k (L.take n) := by
  refine ⟨numCells k (L.drop n), ?_⟩
  have e : numCells k (L.take n) ++ numCells k (L.drop n) = L.map fun (n : Nat) => Value.int k (n : Int) := by
    unfold numCells
    rw [← List.map_append, List.take_append_drop]
  rw [e]
  exact h
end Go.Proofs.Ytcdfnlgimbecgaa

namespace Go.Proofs.Ytcdfnlgimbecgaa
open Go.RowKit

/-- the block at g holds the fraction f -/
def FB (w : World) (g : Nat) (f : FracV) : Prop := w.heap[g]? = some (.cells f.cells.toArray 37 (0, 0))

theorem FB.lt {w : World} {g : Nat} {f : FracV} (h : FB w g f) : g < w.heap.size := (Array.getElem?_eq_some_iff.1 h).1
theorem FB.keep {w w' : World} {g : Nat} {f : FracV} (h : FB w g f) (hg : w'.heap[g]? = w.heap[g]?) : FB w' g f := hg.trans h
theorem FB.below {w w' : World} {B g : Nat} {f : FracV} (h : FB w g f) (hb : Below B w w') (hg : g < B) : FB w' g f := h.keep (hb.block g hg)
theorem FB.new (w : World) (f : FracV) : FB (w.alloc (.cells f.cells.toArray 37)) w.heap.size f := heap_alloc_new w _
theorem frac_row : IsRow Try.prog 37 17 := ⟨_, Try.underlying37, by kernel_rfl, by kernel_rfl⟩
theorem frac_size : (Try.prog.info? 37).map (·.size) = some 17 := by kernel_rfl
theorem FB.ld {w : World} {g : Nat} {f : FracV} (h : FB w g f) : (loadVar 37 ⟨g, 0, none⟩).run Try.prog w = .ok f.val w :=
  run_load_cells (cs := f.cells) frac_row f.cells_len (fun j x hx => by
    rw [Addr.add_lit, cell_of_row w g (0 + j) _ _ _ h]
    simpa using hx)
theorem FB.ld_neg {w : World} {g : Nat} {f : FracV} (h : FB w g f) : (loadVar 4 ⟨g, 0, none⟩).run Try.prog w = .ok (.bool f.neg) w :=
  run_load_cell Try.underlying4 rfl (by rw [cell_of_row w g 0 _ _ _ h]; rfl)
theorem zeroF_cells : zeroF.cells.toArray = #[Value.bool false, .int .u32 0, .int .u32 0, .int .u32 0, .int .u32 0, .int .u32 0, .int .u32 0, .int .u32 0, .int .u32 0, .int .u32 0, .int .u32 0, .int .u32 0, .int .u32 0, .int .u32 0, .int .u32 0, .int .u32 0, .int .u32 0] := rfl

theorem wpList_stF {w : World} {ops : Array Oper} {rest : List Oper} {o : Oper} {a : Act} {Q : Exit → Act → World → Prop} {g : Nat} {f f0 : FracV} (hgd : o.guard = none) (x y : Operand) (ho : o.op = .store 37 x y) (hx : a.eval x = .pointer (some ⟨g, 0, none⟩)) (hy : a.eval y = f.val) (hfb : FB w g f0)
    (h : ∀ w', FB w' g f → w.grownBy w' (some g) → wpList Try.prog ops Q rest (a.put o.dst undef) w') : wpList Try.prog ops Q (o :: rest) a w := by
  refine wpList_st (cs := f.cells) hgd x y ho hx hy frac_size rfl f.cells_len hfb (by simp [f0.cells_len]) f.ones fun cur' w' hc hs hg hgr => h w' ?_ hgr
  have e : cur' = f.cells.toArray := by
    apply Array.ext'
    rw [hc]
    simp [f0.cells_len]
  rw [e] at hg
  exact hg

/-- the cells of a number that has been written over zeros -/
theorem pad_cells {x : Nat} (h : len32 x ≤ 8) : (pad B32 8 x).map (fun (n : Nat) => Value.int .u32 (n : Int)) = (dig B32 x).map (fun (n : Nat) => Value.int .u32 (n : Int)) ++ ((pad B32 8 0).map fun (n : Nat) => Value.int .u32 (n : Int)).drop (len32 x) := by
  have hx : x < B32 ^ 8 := lt_of_dig_len hB32 h
  rw [pad_dig hB32 hx, pad_zero, List.map_append, ← List.map_drop, List.drop_replicate]

set_option maxRecDepth 100000 in
theorem wpList_copyF {w : World} {ops : Array Oper} {rest : List Oper} {o : Oper} {a : Act} {Q : Exit → Act → World → Prop} (hgd : o.guard = none) (d s : Operand) (dT sT : TypeId)
    (ho : o.op = .call { callee := .builtin .copy, args := #[d, s], argTypes := #[dT, sT] }) (elem : TypeId) (hu : Try.prog.underlying dT = some (.slice elem)) (hsz : (Try.prog.info? elem).map (·.size) = some 1)
    {g off x sl sc : Nat} {A : Option Addr} (f f' : FracV) (hd : a.eval d = .slice (some ⟨g, off, none⟩) 8 8) (hs : a.eval s = .slice A sl sc) (hsl : sl = len32 x) (hle : len32 x ≤ 8)
    (hoff : off + 8 ≤ 17) (hf : f'.cells = f.cells.take off ++ ((dig B32 x).map (fun (n : Nat) => Value.int .u32 (n : Int)) ++ f.cells.drop (off + len32 x))) (hfb : FB w g f) (hrd : Rd32 w A x)
    (h : ∀ w', FB w' g f' → w.grownBy w' (some g) → wpList Try.prog ops Q rest (a.put o.dst (.int .i64 (sl : Int))) w') : wpList Try.prog ops Q (o :: rest) a w := by
  have hcl : ((dig B32 x).map fun (n : Nat) => Value.int .u32 (n : Int)).length = len32 x := by simp
  by_cases h0 : len32 x = 0
  · have hd0 : dig B32 x = [] := List.eq_nil_of_length_eq_zero h0
    refine wpList_copy_nothing hgd d s dT sT ho elem hu hsz _ _ _ _ _ _ hd hs (by rw [hsl, h0]; rfl) ?_
    have e : f'.cells = f.cells := by
      rw [hf, hd0, h0]
      simp
    have h1 := h w (by unfold FB at *; rw [e]; exact hfb) ⟨rfl, rfl, rfl, Nat.le_refl _, fun _ _ _ => rfl⟩
    rw [hsl, h0] at h1
    exact h1
  · obtain ⟨b, off', rfl, _, _, _⟩ := hrd 0 _ (nums_get (k := .u32) (l := dig B32 x) (show 0 < len32 x by omega))
    refine wpList_copy_own hgd d s dT sT ho elem hu hsz g off 8 8 ⟨b, off', none⟩ sl sc hd hs _ _ hfb ((dig B32 x).map fun (n : Nat) => Value.int .u32 (n : Int)) (by rw [hcl, hsl]; exact (Nat.min_eq_left hle).symm) ?_ (by rw [hcl]; simp [f.cells_len]; omega) (by simp [Value.oneCell']) ?_
    · intro j v hv
      rw [List.getElem?_map] at hv
      obtain ⟨n, hn, rfl⟩ := Option.map_eq_some_iff.1 hv
      have hjl := (List.getElem?_eq_some_iff.1 hn).1
      obtain ⟨b', off2, e, _, _, hc⟩ := hrd j _ (nums_get (k := .u32) hjl)
      injection e with e
      injection e with e1 e2
      subst e1; subst e2
      have h1 := hc 0 _ rfl
      rw [Addr.add_lit]
      simp only [Nat.mul_one, Nat.add_zero] at h1
      rw [h1]
      have h2 := (List.getElem?_eq_some_iff.1 hn).2
      rw [h2]
    · have h1 := h (w.setRow g (f.cells.toArray.toList.take off ++ (((dig B32 x).map fun (n : Nat) => Value.int .u32 (n : Int)) ++ f.cells.toArray.toList.drop (off + ((dig B32 x).map fun (n : Nat) => Value.int .u32 (n : Int)).length))).toArray) ?_ ⟨rfl, rfl, rfl, by simp, fun q _ hq => setRow_other w g q _ (fun e => hq (by rw [e]))⟩
      · rw [hcl, ← hsl]
        rw [hcl, ← hsl] at h1
        exact h1
      · unfold FB
        rw [setRow_heap w g _ _ _ (0, 0) hfb, hcl, hf]

/-- the numerator ¦ the denominator, written over a zero -/
theorem num_cells (b : Bool) (x d : Nat) (h : len32 x ≤ 8) : (FracV.mk b x d).cells = (FracV.mk b 0 d).cells.take 1 ++ ((dig B32 x).map (fun (n : Nat) => Value.int .u32 (n : Int)) ++ (FracV.mk b 0 d).cells.drop (1 + len32 x)) := by
  unfold FracV.cells
  rw [pad_cells h]
  simp only [List.cons_append, List.nil_append, List.take_succ_cons, List.take_zero, List.append_assoc]
  rw [show 1 + len32 x = len32 x + 1 by omega, List.drop_succ_cons, List.drop_append_of_le_length (by rw [List.length_map, pad_len]; exact h)]
theorem den_cells (b : Bool) (x d : Nat) (h : len32 d ≤ 8) : (FracV.mk b x d).cells = (FracV.mk b x 0).cells.take 9 ++ ((dig B32 d).map (fun (n : Nat) => Value.int .u32 (n : Int)) ++ (FracV.mk b x 0).cells.drop (9 + len32 d)) := by
  unfold FracV.cells
  rw [pad_cells h]
  have hl : ([Value.bool b] ++ (pad B32 8 x).map (fun (n : Nat) => Value.int .u32 (n : Int))).length = 9 := by simp [pad_len]
  have e1 : ([Value.bool b] ++ (pad B32 8 x).map (fun (n : Nat) => Value.int .u32 (n : Int)) ++ (pad B32 8 0).map (fun (n : Nat) => Value.int .u32 (n : Int))).take 9 = [Value.bool b] ++ (pad B32 8 x).map (fun (n : Nat) => Value.int .u32 (n : Int)) := List.take_left' hl
  have e2 : ([Value.bool b] ++ (pad B32 8 x).map (fun (n : Nat) => Value.int .u32 (n : Int)) ++ (pad B32 8 0).map (fun (n : Nat) => Value.int .u32 (n : Int))).drop (9 + len32 d) = ((pad B32 8 0).map (fun (n : Nat) => Value.int .u32 (n : Int))).drop (len32 d) := by
    rw [← List.drop_drop, List.drop_left' hl]
  simp only [] at *
  rw [e1, e2]

theorem results_frac_err {fn : Func} {p t : Tmp} (h : fn.results = #[.cell p 37, .tmp t]) (tmps : Array Value) {w : World} {g : Nat} {f : FracV} (hp : tmps.getD p undef = .pointer (some ⟨g, 0, none⟩)) (hfb : FB w g f) :
    (results fn tmps).run Try.prog w = .ok (.tuple #[f.val, tmps.getD t undef]) w := by
  have hl := hfb.ld
  have hp' : tmps[p]?.getD undef = .pointer (some ⟨g, 0, none⟩) := by simpa using hp
  simp [results, h, hp', asAddr, hl]
theorem results_frac {fn : Func} {p : Tmp} (h : fn.results = #[.cell p 37]) (tmps : Array Value) {w : World} {g : Nat} {f : FracV} (hp : tmps.getD p undef = .pointer (some ⟨g, 0, none⟩)) (hfb : FB w g f) :
    (results fn tmps).run Try.prog w = .ok f.val w := by
  have hl := hfb.ld
  have hp' : tmps[p]?.getD undef = .pointer (some ⟨g, 0, none⟩) := by simpa using hp
  simp [results, h, hp', asAddr, hl]
end Go.Proofs.Ytcdfnlgimbecgaa

namespace Go.Proofs.Ytcdfnlgimbecgaa
open Go.RowKit

theorem st_within (n low high : Int) (w : World) : Calls Try.prog 39 #[.int .i64 n, .int .i64 low, .int .i64 high] w fun e w' => e = .returned (.bool (decide (low ≤ n ∧ n ≤ high))) ∧ w' = w := by
  by_cases h1 : low ≤ n
  · by_cases h2 : n ≤ high
    · have h3 : decide (low ≤ n ∧ n ≤ high) = true := by simp [h1, h2]
      rw [h3]
      clear h3
      go_enter Try.func39, Try.ntmps39
      go_wp2
      go_ret
      exact ⟨rfl, rfl⟩
    · have h3 : decide (low ≤ n ∧ n ≤ high) = false := by simp; omega
      rw [h3]
      clear h3
      go_enter Try.func39, Try.ntmps39
      go_wp2
      go_ret
      exact ⟨rfl, rfl⟩
  · have h3 : decide (low ≤ n ∧ n ≤ high) = false := by simp; omega
    rw [h3]
    clear h3
    go_enter Try.func39, Try.ntmps39
    go_wp2
    go_ret
    exact ⟨rfl, rfl⟩

set_option maxRecDepth 100000 in
set_option maxHeartbeats 4000000 in
theorem st_light (A : Option Addr) (c n : Nat) (l : List Frm) (hn : n = l.length) (w : World) (h : Rd w w.heap.size 5 A (l.map Frm.cells)) (hl : l.length ≤ 1000) (hok : ∀ f ∈ l, f.ok = true) :
    Calls Try.prog 49 #[.slice A n c] w fun e w' => e = .returned (.int .i64 (lightF l)) ∧ Below w.heap.size w w' := by
  have HOK := Lib.hid hok
  have HN := Lib.hid hn
  have HR := Lib.hid h
  have hn1 : n ≤ 1000 := by omega
  obtain ⟨r, hr⟩ : ∃ r, r = lightF l := ⟨_, rfl⟩
  have HRR := Lib.hid hr
  rw [← hr]
  clear h hok hl hn hr
  go_enter Try.func49, Try.ntmps49
  go_wp2
  go_loopw [3, 8] (fun sv iv wr => ∃ (k : Nat) (s : Int), k ≤ n ∧ iv = .int .i64 k ∧ sv = .int .i64 s ∧ 0 ≤ s ∧ s ≤ 1000000000 ∧ lightFrom s (l.drop k) = r ∧ Below w.heap.size w wr) (fun _ iv _ => n - (intOf iv).toNat)
  case atStart => exact ⟨0, 0, Nat.zero_le _, rfl, rfl, by omega, by omega, HRR.out.symm, Below.refl _ _⟩
  case round =>
    obtain ⟨k, s, hk, rfl, rfl, hs0, hs1, hls, hb⟩ := hrel
    have HLS := Lib.hid hls
    have HB := Lib.hid hb
    clear hls hb
    by_cases hkn : k < n
    · have hkl : k < l.length := by rw [← HN.out]; exact hkn
      obtain ⟨g, off, rfl, hg, hld⟩ := Frm.ld HR.out (k := k) (b := l[k]) (by simp [hkl])
      obtain ⟨f, hf⟩ : ∃ f, f = l[k] := ⟨_, rfl⟩
      rw [← hf] at hld
      have HLD := Lib.hid (hld wr HB.out)
      have HF := Lib.hid (Frm.ok_nums (HOK.out f (by rw [hf]; exact List.getElem_mem hkl)))
      have HDR : Hid (l.drop k = f :: l.drop (k + 1)) := by unfold Hid; rw [hf]; exact List.drop_eq_getElem_cons hkl
      have hki : (k : Int) < (n : Int) := by omega
      have hw1 : IntKind.i64.wrap (s + f.light) = s + f.light := by have := HF.out; rw [wrap_i64 (by omega) (by omega)]
      clear hld hf hkl
      have HST : Hid (lightFrom (if s ≤ 500000000 then s + f.light else s) (l.drop (k + 1)) = r) := by
        unfold Hid
        rw [← HLS.out, HDR.out]
        rfl
      by_cases hs2 : s ≤ 500000000
      · have hst := HST.out
        rw [if_pos hs2] at hst
        have HST2 := Lib.hid hst
        clear hst HST
        go_wp2_with (first
          | ((with_reducible refine g_ld 44 ?_); refine wpList_ld rfl _ _ rfl _ rfl _ HLD.out ?_))
        go_roundw
        case rel => exact ⟨k + 1, s + f.light, by omega, by go_num, rfl, by have := HF.out; omega, by have := HF.out; omega, HST2.out, HB.out.alloc HB.out.size _⟩
        case measure => simp [intOf]; omega
      · have hst := HST.out
        rw [if_neg hs2] at hst
        have HST2 := Lib.hid hst
        clear hst HST
        go_wp2_with (first
          | ((with_reducible refine g_ld 44 ?_); refine wpList_ld rfl _ _ rfl _ rfl _ HLD.out ?_))
        go_roundw
        case rel => exact ⟨k + 1, s, by omega, by go_num, rfl, by omega, by omega, HST2.out, HB.out.alloc HB.out.size _⟩
        case measure => simp [intOf]; omega
    · obtain rfl : k = n := by omega
      have hfin : Hid (s = r) := by
        have h1 := HLS.out
        rw [List.drop_of_length_le (by rw [← HN.out]; exact Nat.le_refl _)] at h1
        exact h1
      have hkk : ¬ (k : Int) < (k : Int) := by omega
      clear HLS
      go_wp2
      go_ret
      exact ⟨by rw [← hfin.out]; rfl, HB.out⟩
end Go.Proofs.Ytcdfnlgimbecgaa
