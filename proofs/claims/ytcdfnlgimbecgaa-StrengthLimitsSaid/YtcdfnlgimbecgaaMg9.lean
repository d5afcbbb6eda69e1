/-
  A range over a function whose iterator reads what the loop's body writes: the iterator may use the caller's invariant.
  slices.Backward over a number of frac: its contract, for every body that keeps what is still to come.
  frac: cmp.
-/
import Derived.Test.YtcdfnlgimbecgaaMg4
import Derived.Test.YtcdfnlgimbecgaaMg8
import Derived.RangeFuncFrom
import Derived.RangeFuncNested
import Derived.RangeFuncBound
import Derived.RangeFuncCalls
import Derived.RangeFuncLeaves
import Derived.Shelf.Abstract
import Derived.Shelf.RegionOpen
import Derived.WalkKit
import Derived.OwnWalkIn
import Derived.TacticsInMore
import Derived.LoopNIn
import Derived.LoopIn

namespace Go.Proofs.Ytcdfnlgimbecgaa
open Go.RowKit

/-- the iterator's word: at every invariant of the caller that tells G, all of what S says comes, each x being what V says behind what has come -/
def SeqTold {α : Type} (F : Fence) (n : Nat) (P : Program) (gf : Nat) (lb : Array Value) (encs : α → Array Value) (G : List α → World → Prop) (V : List α → α → Prop) (S Sp : List α → Prop) (w0 : World) : Prop :=
  ∀ (l : Nat) (J Jx : List α → World → Prop) (W : World), Below w0.heap.size w0 W → (∀ pre W1, J pre W1 → G pre W1) →
    (∀ pre x W1, J pre W1 → V pre x → YieldAt F (n - 1) P l (encs x) W1 fun e W2 => (e = .returned (.bool true) ∧ J (pre ++ [x]) W2) ∨ (e = .returned (.bool false) ∧ Jx (pre ++ [x]) W2)) →
    J [] W → CallsIn F n P gf (#[.func (.yield l) #[] #[]] ++ lb) W fun e W2 => (∃ v, e = .returned v) ∧ ((∃ xs, S xs ∧ J xs W2) ∨ (∃ pre, Sp pre ∧ Jx pre W2))

/-- how a round's body may end -/
def toldPost {α : Type} (I : List α → World → Prop) (Ix : Code → List α → World → Prop) (xs : List α) (W : World) : Exit → Act → World → Prop := fun e _ W2 =>
  KeepsOthers W W2 ∧ match e with
    | .normal => I xs W2
    | .ret => Ix .ret xs W2
    | .exit id => Ix (.exit id) xs W2
    | .goto t => Ix (.goto t) xs W2
    | _ => False

section
variable {F : Fence} {n : Nat} {P : Program} {α : Type}

/-- a round, from the record that is ready to the record behind it -/
theorem told_round {ps : Array Tmp} {assign body : Code} {a : Act} {W : World} {fn : FuncId} {encs : α → Array Value} {I : List α → World → Prop} {Ix : Code → List α → World → Prop} {pre : List α} {x : α} (a₁ : α → Act) {l D B : Nat} {r : Loop}
    (hfn : F.fn fn) (hr : r = { state := .ready, pending := none, fn := fn, tmps := a.tmps, params := ps, assign := assign, body := body, defers := D }) (hB : B ≤ l) (hDl : D ≠ l)
    (hI : OwnFrom B I) (hIx : ∀ c, OwnFrom B (Ix c)) (hps : (encs x).size = ps.size)
    (hassign : ∀ K : Act → World → Prop, K (a₁ x) W → assign.wpIn (F.inRound l) (n - 1 - 1) P (Exit.then K (fun _ _ _ => False)) { tmps := (ps.zip (encs x)).foldl (fun t (p, v) => t.setIfInBounds p v) a.tmps, defers := [] } W)
    (hbody : ∀ W1, I pre W1 → body.wpIn (F.inRound l) (n - 1 - 1) P (toldPost I Ix (pre ++ [x]) W1) (a₁ x) W1)
    (hi : I pre W) (hl : W.heap[l]? = some (.loop r)) (hk : W.heap[D]? = some (.deferred (some []))) :
    YieldAt F (n - 1 - 1) P l (encs x) W fun e W2 =>
      (e = .returned (.bool true) ∧ I (pre ++ [x]) W2 ∧ W2.heap[l]? = some (.loop r) ∧ W2.heap[D]? = some (.deferred (some []))) ∨
      (e = .returned (.bool false) ∧ ∃ c, Ix c (pre ++ [x]) W2 ∧ W2.heap[l]? = some (.loop { r with state := .done, pending := some c }) ∧ W2.heap[D]? = some (.deferred (some []))) := by
  have hlt : l < W.heap.size := (Array.getElem?_eq_some_iff.1 hl).1
  have hy := run_yield (P := P) (args := encs x) hl (by rw [hr]; exact hps)
  rw [hr] at hy
  refine ⟨fn, _, assign, body, hy, roundIn_of_wpIn hfn (hassign _ ⟨_, run_beginRound hl (by rw [hr]), ?_⟩)⟩
  have hbusy : (W.putObj l (.loop { r with state := .busy })).heap[l]? = some (.loop { r with state := .busy }) := World.putObj_heap_same hlt
  have hkb : (W.putObj l (.loop { r with state := .busy })).heap[D]? = some (.deferred (some [])) := (World.putObj_heap_other hDl).trans hk
  refine wpIn_mono (hbody _ (hI.putObj _ hi hB hl rfl)) fun e a2 W3 hp => ?_
  obtain ⟨hkeep, hp⟩ := hp
  have hl3 := hkeep.same _ _ hbusy rfl
  have hlt3 := (Array.getElem?_eq_some_iff.1 hl3).1
  have hend := fun j : Option Code => run_endRound (P := P) j hl3
  have hD3 : ∀ o, (W3.putObj l o).heap[D]? = some (.deferred (some [])) := fun o => (World.putObj_heap_other hDl).trans (hkeep.same _ _ hkb rfl)
  cases e with
  | normal => exact ⟨_, _, hend none, .inl ⟨rfl, hI.putObj _ hp hB hl3 rfl, by rw [World.putObj_heap_same hlt3, hr]; rfl, hD3 _⟩⟩
  | ret => exact ⟨_, _, hend (some .ret), .inr ⟨rfl, .ret, (hIx _).putObj _ hp hB hl3 rfl, by rw [World.putObj_heap_same hlt3]; rfl, hD3 _⟩⟩
  | exit id => exact ⟨_, _, hend (some (.exit id)), .inr ⟨rfl, .exit id, (hIx _).putObj _ hp hB hl3 rfl, by rw [World.putObj_heap_same hlt3]; rfl, hD3 _⟩⟩
  | goto t => exact ⟨_, _, hend (some (.goto t)), .inr ⟨rfl, .goto t, (hIx _).putObj _ hp hB hl3 rfl, by rw [World.putObj_heap_same hlt3]; rfl, hD3 _⟩⟩
  | panic c => exact hp.elim
  | outgrown => exact hp.elim

/-- the statement: a loop whose iterator uses what the caller keeps -/
theorem range_told {g : Operand} {ps : Array Tmp} {assign body : Code} {Q : Exit → Act → World → Prop} {a : Act} {w w0 : World} (hro : F.round = none) (h1 : 1 ≤ n) {gf : Nat} {lb : Array Value} (hg : a.eval g = .func (.func gf) #[] lb) (hFg : F.fn gf) (eg : ∀ args W, (callFunc gf args).run P W = .ok (.enter gf args) W)
    {encs : α → Array Value} {G : List α → World → Prop} {V : List α → α → Prop} {S Sp : List α → Prop} (hseq : SeqTold F (n - 1) P gf lb encs G V S Sp w0) (hb0 : Below w0.heap.size w0 w) (hps : ∀ x, (encs x).size = ps.size)
    (I : List α → World → Prop) (Ix : Code → List α → World → Prop) (hIG : ∀ pre W, I pre W → G pre W) (hI : OwnFrom w.heap.size I) (hIx : ∀ c, OwnFrom w.heap.size (Ix c)) (h0 : I [] w) (a₁ : α → Act)
    (hassign : ∀ (l : Nat) (x : α) (W : World) (K : Act → World → Prop), K (a₁ x) W → assign.wpIn (F.inRound l) (n - 1 - 1) P (Exit.then K (fun _ _ _ => False)) { tmps := (ps.zip (encs x)).foldl (fun t (p, v) => t.setIfInBounds p v) a.tmps, defers := [] } W)
    (hbody : ∀ (l : Nat) (pre : List α) (x : α) (W : World), I pre W → V pre x → body.wpIn (F.inRound l) (n - 1 - 1) P (toldPost I Ix (pre ++ [x]) W) (a₁ x) W)
    (hdone : ∀ (D : Nat) (xs : List α) (W : World), w.heap.size ≤ D → S xs → I xs W → W.heap[D]? = some (.deferred (some [])) → Q .normal { a with defers := { target := .collected D, args := #[] } :: a.defers } W)
    (hstop : ∀ (D : Nat) (c : Code) (pre : List α) (W : World), w.heap.size ≤ D → Sp pre → Ix c pre W → W.heap[D]? = some (.deferred (some [])) → c.wpIn F n P Q { a with defers := { target := .collected D, args := #[] } :: a.defers } W) :
    (Code.rangeFunc g ps assign body).wpIn F n P Q a w := by
  refine wpIn_rangeFunc fun fn hfn => ?_
  rw [hro]
  obtain ⟨r, hr⟩ : ∃ r : Loop, r = { state := .ready, pending := none, fn := fn, tmps := a.tmps, params := ps, assign := assign, body := body, defers := w.heap.size } := ⟨_, rfl⟩
  have hent := run_enterLoop_outer (P := P) (w := w) fn a.tmps ps assign body
  rw [← hr] at hent
  have hl0 : ((w.alloc (.deferred (some []))).alloc (.loop r)).heap[w.heap.size + 1]? = some (.loop r) := by
    have := World.alloc_heap_new (w.alloc (.deferred (some []))) (.loop r)
    rwa [World.size_alloc] at this
  have hk0 : ((w.alloc (.deferred (some []))).alloc (.loop r)).heap[w.heap.size]? = some (.deferred (some [])) := (Below.heap_alloc _ _ _ (by simp)).trans (World.alloc_heap_new w _)
  have hi0 : I [] ((w.alloc (.deferred (some []))).alloc (.loop r)) := hI.alloc _ (hI.alloc _ h0)
  have hbw : Below w0.heap.size w0 ((w.alloc (.deferred (some []))).alloc (.loop r)) := hb0.trans ((((Below.refl _ w).alloc (Nat.le_refl _) _).alloc (by simp) _).mono hb0.size)
  generalize (w.alloc (.deferred (some []))).alloc (.loop r) = W0 at *
  refine ⟨w.heap.size + 1, [{ target := .collected w.heap.size, args := #[] }], W0, { target := .fn (.func gf) lb, args := #[.func (.yield (w.heap.size + 1)) #[] #[]] }, W0, gf, #[.func (.yield (w.heap.size + 1)) #[] #[]] ++ lb, W0, hent, ?_, ?_, ?_, fun _ => h1, ?_⟩
  · simp only [resolve, hg]
    simp [go_sem]
  · intro f' hf'
    simp [Target.leads] at hf'
    rw [← hf']
    exact hFg
  · simp [invoke, go_sem, eg]
  · refine (hseq (w.heap.size + 1) (fun pre W => I pre W ∧ W.heap[w.heap.size + 1]? = some (.loop r) ∧ W.heap[w.heap.size]? = some (.deferred (some [])))
      (fun pre W => ∃ c, Ix c pre W ∧ W.heap[w.heap.size + 1]? = some (.loop { r with state := .done, pending := some c }) ∧ W.heap[w.heap.size]? = some (.deferred (some []))) W0 hbw (fun pre W1 h => hIG pre W1 h.1) ?_ ⟨hi0, hl0, hk0⟩).mono ?_
    · rintro pre x W ⟨hi, hl, hk⟩ hv
      exact told_round a₁ hfn hr (by omega) (by omega) hI hIx (hps x) (hassign _ x W) (fun W1 h => hbody _ pre x W1 h hv) hi hl hk
    · rintro e W2 ⟨⟨v, rfl⟩, ⟨xs, hs, hi, hl, hk⟩ | ⟨pre, hs, c, hi, hl, hk⟩⟩
      · have hpend : r.pending = none := by rw [hr]
        have hel := run_endLoop (P := P) hl (by rw [hr]; simp)
        rw [hpend] at hel
        exact ⟨none, _, hel, hdone _ xs _ (Nat.le_refl _) hs (hI.putObj _ hi (by omega) hl rfl) ((World.putObj_heap_other (by omega)).trans hk)⟩
      · exact ⟨some c, _, run_endLoop (P := P) hl (by simp), hstop _ c pre _ (Nat.le_refl _) hs ((hIx c).putObj _ hi (by omega) hl rfl) ((World.putObj_heap_other (by omega)).trans hk)⟩
end
end Go.Proofs.Ytcdfnlgimbecgaa

namespace Go.Proofs.Ytcdfnlgimbecgaa
open Go.RowKit Go.Shelf

attribute [local go_sem] Oper.semAt_some

/-- the iterator's box, and the number that comes next -/
def BackAt (Bs : Nat) (A : Option Addr) (len cap : Nat) (l : List Nat) (k : Nat) (W : World) : Prop :=
  W.cell? ⟨Bs, 0, none⟩ = some (.slice A len cap) ∧ ∀ j, j + k + 1 = len → ∃ b off, A = some ⟨b, off, none⟩ ∧ W.cell? ⟨b, off + j, none⟩ = some (.int .u32 (l.getD j 0 : Nat))
def backOne (l : List Nat) (len k : Nat) : Nat × Nat := (len - 1 - k, l.getD (len - 1 - k) 0)
def backVals (x : Nat × Nat) : Array Value := #[Value.int .i64 (x.1 : Int), Value.int .u32 (x.2 : Int)]

set_option maxRecDepth 100000 in
set_option maxHeartbeats 2000000 in
theorem back_told (F : Fence) (n : Nat) (h1 : F.fn 129) (hro : F.round = none) (hn : 1 ≤ n) (Bs len cap : Nat) (A : Option Addr) (l : List Nat) (hreach : len ≤ 1000) (w0 : World) :
    SeqTold F n Try.prog 129 #[.pointer (some ⟨Bs, 0, none⟩)] backVals (fun pre W => BackAt Bs A len cap l pre.length W) (fun pre x => pre.length < len ∧ x = backOne l len pre.length) (fun xs => xs.length = len) (fun _ => True) w0 := fun lp J Jx W hW hG hY h0 => by
  refine callsIn_of_wp Try.func129 rfl h1 ?_ hro
  simp only [Try.ntmps129, List.size_toArray, List.length_cons, List.length_nil, Nat.reduceAdd, Nat.reduceSub, Array.replicate_succ, Array.replicate_zero, List.push_toArray, List.append_toArray, List.nil_append, List.cons_append]
  have hB0 := (hG _ _ h0).1
  gi_wp2
  gi_loopw [3] (fun i wr => ∃ pre : List (Nat × Nat), pre.length ≤ len ∧ i = .int .i64 ((len : Int) - 1 - pre.length) ∧ J pre wr)
    (fun i _ => (intOf i + 1).toNat)
  case atStart => exact ⟨[], Nat.zero_le _, by simp, h0⟩
  case round =>
    obtain ⟨pre, hk, rfl, hJs⟩ := hrel
    obtain ⟨hbx, hel⟩ := hG _ _ hJs
    by_cases hlt : pre.length < len
    · obtain ⟨j, hj⟩ : ∃ j, j + pre.length + 1 = len := ⟨len - 1 - pre.length, by omega⟩
      obtain ⟨b, off, rfl, hcx⟩ := hel j hj
      obtain ⟨fn, tmps, assign, body, hy, hR⟩ := hY _ (backOne l len pre.length) wr hJs ⟨hlt, rfl⟩
      have e1 : len - 1 - pre.length = j := by omega
      have e2 : (len : Int) - 1 - pre.length = (j : Int) := by omega
      unfold backVals backOne at hy
      rw [e1] at hy
      rw [e2]
      dsimp only at hy
      have hjl : j < len := by omega
      obtain ⟨d, hd⟩ : ∃ d, d = l.getD j 0 := ⟨_, rfl⟩
      rw [← hd] at hy hcx
      clear hel hd e1 e2 hG hY h0
      gi_wp2
      refine hR.mono ?_
      rintro e W3 (⟨rfl, hJ3⟩ | ⟨rfl, hJx3⟩)
      · gi_wp2
        go_roundw
        case rel => exact ⟨pre ++ [backOne l len pre.length], by simp <;> omega, by simp <;> omega, hJ3⟩
        case measure => simp [intOf] <;> omega
      · gi_wp2
        refine bodyPost_ret (results_none rfl _ _ _) rfl ?_
        exact ⟨⟨_, rfl⟩, .inr ⟨_, trivial, hJx3⟩⟩
    · have e2 : (len : Int) - 1 - pre.length = -1 := by omega
      rw [e2]
      gi_wp2
      go_end0
      exact ⟨⟨_, rfl⟩, .inl ⟨_, by omega, hJs⟩⟩

set_option maxHeartbeats 1000000 in
theorem back_in (F : Fence) (n : Nat) (h5 : F.fn 110) (hro : F.round = none) (a : Option Addr) (len cap : Nat) (w : World) :
    CallsIn F n Try.prog 110 #[.slice a len cap] w fun e w' => e = .returned (.func (.func 129) #[] #[.pointer (some ⟨w.heap.size, 0, none⟩)]) ∧ w' = w.alloc (.cells #[.slice a len cap] 108) := by
  refine callsIn_of_wp Try.func110 rfl h5 ?_ hro
  simp only [Try.ntmps110, List.size_toArray, List.length_cons, List.length_nil, Nat.reduceAdd, Nat.reduceSub, Array.replicate_succ, Array.replicate_zero, List.push_toArray, List.append_toArray, List.nil_append, List.cons_append]
  gi_wp2
  go_ret
  exact ⟨rfl, rfl⟩
end Go.Proofs.Ytcdfnlgimbecgaa

namespace Go.Proofs.Ytcdfnlgimbecgaa
open Go.RowKit Go.Shelf

attribute [local go_sem] Oper.semAt_some

theorem cmpNat_lt {x y : Nat} (h : x < y) : cmpNat x y = -1 := by unfold cmpNat; rw [if_pos h]
theorem cmpNat_gt {x y : Nat} (h : y < x) : cmpNat x y = 1 := by unfold cmpNat; rw [if_neg (by omega), if_pos h]
theorem cmpNat_eq (x : Nat) : cmpNat x x = 0 := by unfold cmpNat; rw [if_neg (by omega), if_neg (by omega)]

theorem rd_cell {w : World} {A : Option Addr} {k : IntKind} {l : List Nat} (h : Rd w w.heap.size 1 A (nums k l)) {j : Nat} (hj : j < l.length) : ∃ b off, A = some ⟨b, off, none⟩ ∧ b < w.heap.size ∧ w.cell? ⟨b, off + j, none⟩ = some (.int k (l.getD j 0 : Nat)) := by
  obtain ⟨b, off, hA, hb, _, hc⟩ := h j _ (nums_get hj)
  refine ⟨b, off, hA, hb, ?_⟩
  have := hc 0 _ rfl
  rw [Nat.mul_one, Nat.add_zero] at this
  rw [this, List.getD_eq_getElem?_getD, List.getElem?_eq_getElem hj]
  rfl
theorem drop_getD {l : List Nat} {j : Nat} (hj : j < l.length) : l.drop j = l.getD j 0 :: l.drop (j + 1) := by
  rw [List.drop_eq_getElem_cons hj, List.getD_eq_getElem?_getD, List.getElem?_eq_getElem hj]
  rfl
theorem dig_val_lt_of {x y j : Nat} (hl : len32 x = len32 y) (hj : j < len32 x) (hd : (dig B32 x).drop (j + 1) = (dig B32 y).drop (j + 1)) (hlt : (dig B32 x).getD j 0 < (dig B32 y).getD j 0) : x < y := by
  have hjy : j < (dig B32 y).length := by
    have : j < len32 y := by omega
    exact this
  have h := valB_lt_of_digit (B := B32) (a := dig B32 x) (b := dig B32 y) (Digs.dig hB32 x) hl hj (by
    rw [List.getD_eq_getElem?_getD, List.getElem?_eq_getElem hj, List.getD_eq_getElem?_getD, List.getElem?_eq_getElem hjy] at hlt
    exact hlt) hd
  rwa [val_dig hB32, val_dig hB32] at h

set_option maxRecDepth 100000 in
set_option maxHeartbeats 2000000 in
theorem frac_cmp (A D : Option Addr) (ca cd x y n m : Nat) (hn : n = len32 x) (hm : m = len32 y) (w : World) (h : Rd32 w A x) (h' : Rd32 w D y) (hx : len32 x ≤ 1000) (_hy : len32 y ≤ 1000) :
    Calls Try.prog 87 #[.slice A n ca, .slice D m cd] w fun e w' => e = .returned (.int .i64 (cmpNat x y)) ∧ Below w.heap.size w w' := by
  subst hn hm
  by_cases hlen : len32 x = len32 y
  · refine (callsIn_wide (n := 3)).1 ?_
    refine callsIn_of_wp_marks Try.func87 rfl trivial ?_ rfl
    simp only [Try.ntmps87, List.size_toArray, List.length_cons, List.length_nil, Nat.reduceAdd, Nat.reduceSub, Array.replicate_succ, Array.replicate_zero, List.push_toArray, List.append_toArray, List.nil_append, List.cons_append]
    obtain ⟨len, hlx'⟩ : ∃ len, len = len32 x := ⟨_, rfl⟩
    rw [← hlen, ← hlx']
    rw [← hlx'] at hlen hx
    have hlx := Lib.hid hlx'
    have hly := Lib.hid hlen
    have hle : len ≤ 1000 := hx
    clear _hy hlx' hlen hx
    gi_wp2_with (refine ⟨trivial, ?_⟩; gi_at_call 110; refine (back_in Fence.wide _ trivial rfl _ _ _ _).mono ?_; rintro e w' ⟨rfl, rfl⟩)
    have bB := (Boxed.new w 108 (.slice D len cd)).alloc (.cells #[.int .i64 0] 3)
    have bR := Boxed.new (w.alloc (.cells #[.slice D len cd] 108)) 3 (.int .i64 0)
    have bN := Boxed.new ((w.alloc (.cells #[.slice D len cd] 108)).alloc (.cells #[.int .i64 0] 3)) 108 (.slice A len ca)
    rw [World.size_alloc] at bR bN
    rw [World.size_alloc] at bN
    have hB0 : Below w.heap.size w (((w.alloc (.cells #[.slice D len cd] 108)).alloc (.cells #[.int .i64 0] 3)).alloc (.cells #[.slice A len ca] 108)) := (((Below.refl _ w).alloc (Nat.le_refl _) _).alloc (by simp) _).alloc (by simp; omega) _
    refine range_told (F := Fence.wide) (n := 3) (ps := #[19, 20]) (encs := backVals) rfl (by decide) (gf := 129) (lb := #[.pointer (some ⟨w.heap.size + 1 + 1, 0, none⟩)]) rfl trivial (enters_of Try.func129 (by kernel_rfl) rfl)
      (back_told Fence.wide 2 trivial rfl (by decide) (w.heap.size + 1 + 1) len ca A (dig B32 x) hle _) (Below.refl _ _) (fun _ => rfl)
      (fun pre W => ((W.cell? ⟨w.heap.size, 0, none⟩ = some (.slice D len cd) ∧ W.cell? ⟨w.heap.size + 1, 0, none⟩ = some (.int .i64 0) ∧ W.frozen? ⟨w.heap.size + 1, 0, none⟩ = false ∧ W.cell? ⟨w.heap.size + 1 + 1, 0, none⟩ = some (.slice A len ca)) ∧ pre.length ≤ len ∧ (dig B32 x).drop (len - pre.length) = (dig B32 y).drop (len - pre.length)) ∧ Below w.heap.size w W)
      (fun c _ W => (c = .ret ∧ W.cell? ⟨w.heap.size + 1, 0, none⟩ = some (.int .i64 (cmpNat x y))) ∧ Below w.heap.size w W)
      (fun pre W hI => ?hIG)
      (OwnFrom.and (Own.from (fun s A B row hs hg hr => ⟨⟨cell_kept hs.1.1 hg hr, cell_kept hs.1.2.1 hg hr, (frozen_kept hs.1.2.1 hg hr).trans hs.1.2.2.1, cell_kept hs.1.2.2.2 hg hr⟩, hs.2⟩) _) (ownFrom_below (Nat.le_refl _) (by simp; omega)))
      (fun c => OwnFrom.and (Own.from (fun s A B row hs hg hr => ⟨hs.1, cell_kept hs.2 hg hr⟩) _) (ownFrom_below (Nat.le_refl _) (by simp; omega)))
      ⟨⟨⟨(bB.alloc _).cell, (bR.alloc _).cell, (bR.alloc _).frozen, bN.cell⟩, Nat.zero_le _, ?hst⟩, hB0⟩
      (fun x => { tmps := #[.slice A len ca, .slice D len cd, undef, .pointer (some ⟨w.heap.size, 0, none⟩), .pointer (some ⟨w.heap.size + 1, 0, none⟩), .int .i64 (x.1 : Int), .int .u32 (x.2 : Int), .slice A len ca, .int .i64 (len : Int), .slice D len cd, .int .i64 (len : Int), .bool false, undef, undef, undef, undef, undef, .slice A len ca, .func (.func 129) #[] #[.pointer (some ⟨w.heap.size + 1 + 1, 0, none⟩)], .int .i64 (x.1 : Int), .int .u32 (x.2 : Int), undef, undef, undef, undef, undef, undef, undef, undef, undef, undef, undef, undef], defers := [] }) ?assign ?body ?done ?stop
    case hIG =>
      obtain ⟨⟨⟨_, _, _, hbx⟩, hpl, _⟩, hbw⟩ := hI
      refine ⟨hbx, fun j hj => ?_⟩
      obtain ⟨b, off, rfl, hb, hc⟩ := rd_cell h (j := j) (by have := hlx.out; show j < len32 x; omega)
      exact ⟨b, off, rfl, (hbw.cell (p := ⟨b, off + j, none⟩) hb).trans hc⟩
    case hst =>
      rw [List.length_nil, Nat.sub_zero, List.drop_eq_nil_of_le (by have := hlx.out; show len32 x ≤ len; omega), List.drop_eq_nil_of_le (by have := hly.out; show len32 y ≤ len; omega)]
    case assign =>
      intro l x W K hK
      unfold backVals
      gi_wp2
      exact hK
    case body =>
      rintro l pre x0 W ⟨⟨⟨hbB, hbR, hfR, hbN⟩, hpl, hdr⟩, hbw⟩ ⟨hlt, rfl⟩
      obtain ⟨j, hj⟩ : ∃ j, j + pre.length + 1 = len := ⟨len - 1 - pre.length, by omega⟩
      have e1 : len - 1 - pre.length = j := by omega
      have e3 : len - pre.length = j + 1 := by omega
      have e4 : len - (pre ++ [backOne (dig B32 x) len pre.length]).length = j := by simp; omega
      have e5 : (pre ++ [backOne (dig B32 x) len pre.length]).length ≤ len := by simp; omega
      have hjx : j < (dig B32 x).length := by have := hlx.out; show j < len32 x; omega
      have hjy : j < (dig B32 y).length := by have := hly.out; show j < len32 y; omega
      obtain ⟨b, off, rfl, hb, hc⟩ := rd_cell h' hjy
      have hcW := (hbw.cell (p := ⟨b, off + j, none⟩) hb).trans hc
      have hdx := drop_getD hjx
      have hdy := drop_getD hjy
      rw [e3] at hdr
      unfold backOne
      rw [e1]
      obtain ⟨d, hd⟩ : ∃ d, d = (dig B32 x).getD j 0 := ⟨_, rfl⟩
      obtain ⟨d', hd'⟩ : ∃ d', d' = (dig B32 y).getD j 0 := ⟨_, rfl⟩
      rw [← hd'] at hcW
      have hdl : d < 4294967296 := by rw [hd]; exact (Digs.dig hB32 x).getD (by decide) j
      have hdl' : d' < 4294967296 := by rw [hd']; exact (Digs.dig hB32 y).getD (by decide) j
      rw [← hd]
      rw [← hd] at hdx
      rw [← hd'] at hdy
      have hlt1 := Lib.hid (fun q : d < d' => cmpNat_lt (dig_val_lt_of (x := x) (y := y) (by rw [← hlx.out, ← hly.out]) hjx hdr (by rw [← hd, ← hd']; exact q)))
      have hgt1 := Lib.hid (fun q : d' < d => cmpNat_gt (dig_val_lt_of (x := y) (y := x) (by rw [← hlx.out, ← hly.out]) hjy hdr.symm (by rw [← hd, ← hd']; exact q)))
      have hnx := Lib.hid (fun q : d = d' => show (dig B32 x).drop j = (dig B32 y).drop j by rw [hdx, hdy, q, hdr])
      have E4 := Lib.hid e4
      have E5 := Lib.hid e5
      unfold backOne at E4 E5
      rw [e1, ← hd] at E4 E5
      have hjlen : j < len := by omega
      clear e1 e3 e4 e5 hd hd' hdx hdy hdr hjx hjy h h' hc bB bR bN hB0
      dsimp only
      gi_wp2
      · have hq : d < d' := by assumption
        exact ⟨KeepsOthers.setCell _ _ _, ⟨rfl, by rw [hlt1.out hq]; exact World.cell?_setCell_same' _ _ _ (by rw [hbR]; rfl)⟩, hbw.setCell (p := ⟨w.heap.size + 1, 0, none⟩) (Nat.le_succ _) _⟩
      · have hq : d' < d := by assumption
        exact ⟨KeepsOthers.setCell _ _ _, ⟨rfl, by rw [hgt1.out hq]; exact World.cell?_setCell_same' _ _ _ (by rw [hbR]; rfl)⟩, hbw.setCell (p := ⟨w.heap.size + 1, 0, none⟩) (Nat.le_succ _) _⟩
      · have hq : d = d' := by omega
        exact ⟨KeepsOthers.refl _, ⟨⟨hbB, hbR, hfR, hbN⟩, E5.out, by rw [E4.out]; exact hnx.out hq⟩, hbw⟩
    case done =>
      rintro D0 xs W hD hxs ⟨⟨⟨hbB, hbR, hfR, hbN⟩, hpl, hdr⟩, hbw⟩ hK
      have hxy : Hid (cmpNat x y = 0) := by
        rw [hxs, Nat.sub_self, List.drop_zero, List.drop_zero] at hdr
        have := dig_inj hB32 hdr
        subst this
        exact cmpNat_eq x
      clear bB bR bN hB0 h h' hdr
      gi_wp2
      have hK' := (KeepsOthers.setCell W ⟨w.heap.size + 1, 0, none⟩ (.int .i64 0)).same D0 _ hK rfl
      refine ⟨by simp, .inl ⟨_, _, rfl, run_takeDeferred hK', ?_⟩⟩
      have hc5 := cell_kept (World.cell?_setCell_same' W ⟨w.heap.size + 1, 0, none⟩ (.int .i64 0) (by rw [hbR]; rfl)) (grownBy_putObj' _ D0 (.deferred none)) (fun r e => by cases e; exact ⟨_, hK', rfl⟩)
      refine ⟨.int .i64 0, ?_, by rw [hxy.out], (hbw.setCell (p := ⟨w.heap.size + 1, 0, none⟩) (Nat.le_succ _) _).trans (belowK_b (w := w) (Nat.le_refl _) _ D0 _ _ (by simp at hD; omega) hK' rfl rfl)⟩
      simp [results, Try.f87, go_sem, hc5]
    case stop =>
      rintro D0 c pre W hD _ ⟨⟨rfl, hcr⟩, hbw⟩ hK
      clear bB bR bN hB0 h h'
      gi_wp2
      refine ⟨by simp, .inl ⟨_, _, rfl, run_takeDeferred hK, ?_⟩⟩
      have hc5 := cell_kept hcr (grownBy_putObj' _ D0 (.deferred none)) (fun r e => by cases e; exact ⟨_, hK, rfl⟩)
      refine ⟨.int .i64 (cmpNat x y), ?_, rfl, hbw.trans (belowK_b (w := w) (Nat.le_refl _) _ D0 _ _ (by simp at hD; omega) hK rfl rfl)⟩
      simp [results, Try.f87, go_sem, hc5]
  · go_enter Try.func87, Try.ntmps87
    by_cases hlt : len32 x < len32 y
    · have hxy : cmpNat x y = -1 := cmpNat_lt (lt_of_len_lt hB32 hlt)
      have hl1 : (((len32 x : Nat) : Int) < ((len32 y : Nat) : Int)) := by omega
      have hcell := (Boxed.new (w.alloc (.cells #[.slice D (len32 y) cd] 108)) 3 (.int .i64 (-1))).cell
      rw [World.size_alloc] at hcell
      have HX := Lib.hid hxy
      clear hxy
      go_wp2
      refine bodyPost_ret (v := .int .i64 (-1)) (by simp [results, Try.f87, go_sem, hcell]) rfl ?_
      exact ⟨by rw [HX.out], ((Below.refl _ w).alloc (Nat.le_refl _) _).alloc (by simp) _⟩
    · have hxy : cmpNat x y = 1 := cmpNat_gt (lt_of_len_lt hB32 (by show len32 y < len32 x; omega))
      have hl1 : ¬ (((len32 x : Nat) : Int) < ((len32 y : Nat) : Int)) := by omega
      have hcell := (Boxed.new (w.alloc (.cells #[.slice D (len32 y) cd] 108)) 3 (.int .i64 1)).cell
      rw [World.size_alloc] at hcell
      have HX := Lib.hid hxy
      clear hxy
      go_wp2
      refine bodyPost_ret (v := .int .i64 1) (by simp [results, Try.f87, go_sem, hcell]) rfl ?_
      exact ⟨by rw [HX.out], ((Below.refl _ w).alloc (Nat.le_refl _) _).alloc (by simp) _⟩
end Go.Proofs.Ytcdfnlgimbecgaa
