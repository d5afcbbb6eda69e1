/-
  What a slice of rows of cells reads as, what a call owns, and the laws on append for them; over any program.
-/
import Derived.WalkKit
import Derived.WalkSpells
import Derived.WalkLawsBesides
import Derived.BigQuiet
import Derived.Deep.QuietTactic
import Derived.Deep.LoopGhost
import Derived.Deep.Slices
import Derived.Maps.AppendAt
import Derived.Lib.Hide
import Derived.Test.YtfdjcakgolenbaaGreatRows
set_option linter.unusedVariables false
set_option linter.unusedSimpArgs false
namespace Go.Proofs.YtfdjcakgolenbaaGreat
open Go.RowKit
def Rd (w : World) (B size : Nat) (A : Option Addr) (css : List (List Value)) : Prop :=
 ∀ k cs, css[k]? = some cs → ∃ b off, A = some ⟨b, off, none⟩ ∧ b < B ∧ cs.length = size ∧ ∀ j u, cs[j]? = some u → w.cell? ⟨b, off + k * size + j, none⟩ = some u
theorem Rd.nil (w : World) (B size : Nat) (A : Option Addr) : Rd w B size A [] := by intro k cs h; simp at h
theorem Rd.below {w w' : World} {B B' size : Nat} {A : Option Addr} {css : List (List Value)} (h : Rd w B size A css) (hb : Below B' w w') (hB : B ≤ B') : Rd w' B size A css := by
 intro k cs hk
 obtain ⟨b, off, e, hlt, hl, hc⟩ := h k cs hk
 exact ⟨b, off, e, hlt, hl, fun j u hu => (hb.cell (p := ⟨b, _, none⟩) (by simp; omega)).trans (hc j u hu)⟩
theorem Rd.more {w : World} {B B' size : Nat} {A : Option Addr} {css : List (List Value)} (h : Rd w B size A css) (hB : B ≤ B') : Rd w B' size A css := by
 intro k cs hk
 obtain ⟨b, off, e, hlt, hl, hc⟩ := h k cs hk
 exact ⟨b, off, e, by omega, hl, hc⟩
theorem Rd.pre {w : World} {B size : Nat} {A : Option Addr} {css ds : List (List Value)} (h : Rd w B size A (css ++ ds)) : Rd w B size A css := by
 intro k cs hk
 exact h k cs (by rw [List.getElem?_append_left (List.getElem?_eq_some_iff.1 hk).1]; exact hk)
theorem Rd.take {w : World} {B size : Nat} {A : Option Addr} {css : List (List Value)} (h : Rd w B size A css) (n : Nat) : Rd w B size A (css.take n) := by
 rw [← List.take_append_drop n css] at h
 exact h.pre
theorem flat_get {size : Nat} : ∀ (css : List (List Value)), (∀ cs ∈ css, cs.length = size) → ∀ k j, j < size → css.flatten[k * size + j]? = css[k]?.bind (·[j]?)
 | [], _, k, j, _ => by simp
 | cs :: css, h, 0, j, hj => by
  have hl := h cs (by simp)
  simp only [List.flatten_cons, Nat.zero_mul, Nat.zero_add, List.getElem?_cons_zero, Option.bind_some]
  rw [List.getElem?_append_left (by omega)]
 | cs :: css, h, k + 1, j, hj => by
  have hl := h cs (by simp)
  have ih := flat_get css (fun c hc => h c (by simp [hc])) k j hj
  simp only [List.flatten_cons, List.getElem?_cons_succ]
  rw [List.getElem?_append_right (by rw [hl, Nat.succ_mul]; omega), hl, ← ih]
  congr 1
  rw [Nat.succ_mul]; omega
theorem flat_len {size : Nat} : ∀ (css : List (List Value)), (∀ cs ∈ css, cs.length = size) → css.flatten.length = css.length * size
 | [], _ => by simp
 | cs :: css, h => by
  have hl := h cs (by simp)
  have ih := flat_len css (fun c hc => h c (by simp [hc]))
  simp only [List.flatten_cons, List.length_append, List.length_cons, ih, hl, Nat.succ_mul]
  omega
theorem Rd.len {w : World} {B size : Nat} {A : Option Addr} {css : List (List Value)} (h : Rd w B size A css) : ∀ cs ∈ css, cs.length = size := by
 intro cs hc
 obtain ⟨k, hk, e⟩ := List.mem_iff_getElem.1 hc
 obtain ⟨_, _, _, _, hl, _⟩ := h k cs (by rw [List.getElem?_eq_getElem hk, e])
 exact hl
theorem Rd.flat {w : World} {B size : Nat} {A : Option Addr} {css : List (List Value)} (h : Rd w B size A css) : ∀ j u, css.flatten[j]? = some u → ∃ ad, A = some ad ∧ w.cell? (ad.add j) = some u := by
 intro j u hu
 rcases Nat.eq_zero_or_pos size with h0 | h0
 · subst h0
   have := flat_len css h.len
   rw [Nat.mul_zero] at this
   rw [List.eq_nil_of_length_eq_zero this] at hu
   simp at hu
 · have e : j = j / size * size + j % size := by rw [Nat.mul_comm]; exact (Nat.div_add_mod j size).symm
   rw [e, flat_get css h.len _ _ (Nat.mod_lt _ h0)] at hu
   obtain ⟨cs, hcs, hju⟩ := Option.bind_eq_some_iff.1 hu
   obtain ⟨b, off, hA, _, _, hc⟩ := h _ cs hcs
   refine ⟨_, hA, ?_⟩
   rw [Addr.add_lit]
   have := hc _ _ hju
   rw [Nat.add_assoc, ← e] at this
   exact this
def EI (P : Program) (t e size bytes : Nat) : Prop :=
 P.underlying t = some (.slice e) ∧ ∃ i z, P.info? e = some i ∧ i.zero = some z ∧ i.size = size ∧ i.bytes = bytes ∧ z.cells.size = size ∧ 0 < size
theorem EI.mk {P : Program} {t e size bytes : Nat} {z : Value} (ht : P.underlying t = some (.slice e)) (h : (P.info? e).map (fun i => (i.zero, i.size, i.bytes)) = some (some z, size, bytes)) (hz : z.cells.size = size) (hs : 0 < size) : EI P t e size bytes := by
 obtain ⟨i, h1, h2, h3, h4⟩ := info_parts h
 exact ⟨ht, i, z, h1, h2, h3, h4, hz, hs⟩
def OwnS (w : World) (base e size : Nat) (A : Option Addr) (c : Nat) (css : List (List Value)) : Prop :=
 w.ownsRow base e size (.slice A css.length c) css.length css.flatten ∧ ∀ cs ∈ css, cs.length = size
section
variable {w w' : World} {base e size c : Nat} {A : Option Addr} {css : List (List Value)}
theorem OwnS.nil (w : World) (base e size : Nat) : OwnS w base e size none 0 [] := ⟨World.ownsRow_nil w base e size, by simp⟩
theorem OwnS.of {v : Value} {n : Nat} (h : w.ownsRow base e size v n css.flatten) (hn : n = css.length) (hl : ∀ cs ∈ css, cs.length = size) : ∃ A c, v = .slice A css.length c ∧ OwnS w base e size A c css := by
 subst hn
 rcases h.2 with ⟨rfl, h0⟩ | ⟨g, cap, cur, rfl, r⟩
 · have hc : css = [] := List.eq_nil_of_length_eq_zero h0
   subst hc
   exact ⟨none, 0, rfl, OwnS.nil _ _ _ _⟩
 · exact ⟨_, _, rfl, h, hl⟩
theorem OwnS.lt (h : OwnS w base e size A c css) {a : Addr} (ha : A = some a) : base ≤ a.block ∧ a.block < w.heap.size := by
 subst ha
 exact h.1.lt a.block rfl
theorem OwnS.cap (h : OwnS w base e size A c css) : css.length ≤ c ∧ c ≤ maxLen := by
 rcases h.1.2 with ⟨h1, h2⟩ | ⟨g, cap, cur, h1, _, _, h2, h3, _⟩
 · injection h1 with _ h3 h4
   exact ⟨by omega, by rw [h4]; exact Nat.zero_le _⟩
 · simp at h1
   rw [h1.2]
   exact ⟨h2, h3⟩
theorem OwnS.rd (h : OwnS w base e size A c css) : Rd w w.heap.size size A css := by
 intro k cs hk
 have hkl := (List.getElem?_eq_some_iff.1 hk).1
 rcases h.1.2 with ⟨h1, h2⟩ | ⟨g, cap, cur, h1, _, hg, _, _, _, htake⟩
 · omega
 · simp at h1
   obtain ⟨rfl, rfl⟩ := h1
   have hlen : cs.length = size := h.2 cs (List.mem_of_getElem? hk)
   refine ⟨g, 0, rfl, (Array.getElem?_eq_some_iff.1 hg).1, hlen, fun j u hu => ?_⟩
   have hj : j < size := by rw [← hlen]; exact (List.getElem?_eq_some_iff.1 hu).1
   have hf : css.flatten[k * size + j]? = some u := by rw [flat_get css h.2 k j hj, hk]; exact hu
   have := h.1.cells (g := g) rfl _ _ hf
   rw [Addr.add_lit] at this
   rw [Nat.add_assoc]
   exact this
theorem OwnS.block (h : OwnS w base e size A c css) : (A = none ∧ c = 0 ∧ css = []) ∨ ∃ g cur, A = some ⟨g, 0, none⟩ ∧ base ≤ g ∧ w.heap[g]? = some (.cells cur e (0, 0)) ∧ cur.size = c * size := by
 rcases h.1.2 with ⟨h1, h2⟩ | ⟨g, cap, cur, h1, hb, hg, _, _, hs, _⟩
 · injection h1 with h3 _ h4
   exact .inl ⟨h3, h4, List.eq_nil_of_length_eq_zero h2⟩
 · simp at h1
   obtain ⟨rfl, rfl⟩ := h1
   exact .inr ⟨g, cur, rfl, hb, hg, hs⟩
theorem OwnS.keep (h : OwnS w base e size A c css) (hk : ∀ a, A = some a → w'.heap[a.block]? = w.heap[a.block]?) : OwnS w' base e size A c css := by
 refine ⟨⟨h.1.1, ?_⟩, h.2⟩
 rcases h.1.2 with h1 | ⟨g, cap, cur, h1, hb, hg, r⟩
 · exact .inl h1
 · refine .inr ⟨g, cap, cur, h1, hb, ?_, r⟩
   simp at h1
   rw [hk _ h1.1]
   exact hg
theorem OwnS.base_le {b : Nat} (h : OwnS w base e size A c css) (hb : b ≤ base) : OwnS w b e size A c css := by
 refine ⟨⟨h.1.1, ?_⟩, h.2⟩
 rcases h.1.2 with h1 | ⟨g, cap, cur, h1, hg, r⟩
 · exact .inl h1
 · exact .inr ⟨g, cap, cur, h1, by omega, r⟩
end
section
variable {P : Program} {w : World} {ops : Array Oper} {rest : List Oper} {o : Oper} {a : Act} {Q : Exit → Act → World → Prop}
theorem run_append_own_any {t e size bytes base c m cn ty : Nat} {A X : Option Addr} {css news : List (List Value)} (hE : EI P t e size bytes) (hown : OwnS w base e size A c css) (B : Nat) (hr : Rd w B size X news) (hm : m = news.length)
 (h1 : ∀ cs ∈ news, ∀ u ∈ cs, u.oneCell' = true) (h63 : css.length + m ≤ maxLen) (hbytes : (css.length + m) * bytes ≤ 140737488355328) (hbase : base ≤ w.heap.size) :
 ∃ A' c' w', (Builtin.append_ #[t, t] ty #[.slice A css.length c, .slice X m cn]).run P w = .ok (.slice A' (css ++ news).length c') w' ∧ OwnS w' base e size A' c' (css ++ news) ∧ w.grownBy w' (Value.ownBlock (.slice A css.length c)) ∧ Below base w w' := by
 subst hm
 obtain ⟨ht, i, z, hi, hz, hs, hb, hzs, h0⟩ := hE
 have hlen : ∀ cs ∈ css ++ news, cs.length = size := fun cs hc => by
  rcases List.mem_append.1 hc with h | h
  · exact hown.2 cs h
  · exact hr.len cs h
 have fin : ∀ v' w', w'.ownsRow base e size v' (css.length + news.length) (css.flatten ++ news.flatten) → w.grownBy w' (Value.ownBlock (.slice A css.length c)) → (Builtin.append_ #[t, t] ty #[.slice A css.length c, .slice X news.length cn]).run P w = .ok v' w' →
  ∃ A' c' w', (Builtin.append_ #[t, t] ty #[.slice A css.length c, .slice X news.length cn]).run P w = .ok (.slice A' (css ++ news).length c') w' ∧ OwnS w' base e size A' c' (css ++ news) ∧ w.grownBy w' (Value.ownBlock (.slice A css.length c)) ∧ Below base w w' := by
  intro v' w' h2 h3 hrun
  obtain ⟨A', c', rfl, h4⟩ := OwnS.of (css := css ++ news) (by rw [List.flatten_append]; exact h2) (by simp) hlen
  exact ⟨A', c', w', hrun, h4, h3, (Below.refl _ _).grown h3 hbase (fun k hk => (hown.1.lt k hk).1)⟩
 rcases X with _ | ad
 · have hn : news = [] := by
    rcases news with _ | ⟨x, l⟩
    · rfl
    · obtain ⟨_, _, h, _⟩ := hr 0 x rfl
      cases h
   subst hn
   refine fin (.slice A css.length c) w (by simpa using hown.1) (World.grownBy.refl w _) ?_
   rcases hown.1.2 with ⟨h2, h3⟩ | ⟨g, cap, cur, h2, _, _, hnc, _⟩
   · rw [h2]
     simp [Builtin.append_, run_underlying ht, sizeOf, typeInfo, hi, Builtin.lenOf, Builtin.firstCells]
   · rw [h2]
     simp [Builtin.append_, run_underlying ht, sizeOf, typeInfo, hi, Builtin.lenOf, Builtin.firstCells, hnc, storeCells]
 · obtain ⟨v', w', hrun, h2, h3, _, _⟩ := run_append_own_at (P := P) w base t ty e i z size bytes ht hi hz hs hb hzs h0 _ css.length css.flatten hown.1 ad news.length cn news.flatten (flat_len news hr.len)
    (fun j u hu => by obtain ⟨ad', h, hc⟩ := hr.flat j u hu; injection h with h; rw [h]; exact hc)
    (fun u hu => by obtain ⟨cs, hcs, hu'⟩ := List.mem_flatten.1 hu; exact h1 cs hcs u hu') h63 hbytes hbase
   exact fin v' w' h2 h3 hrun
theorem wpList_append_rd {t e size bytes base c m cn : Nat} {A X : Option Addr} {css news : List (List Value)} (hgd : o.guard = none) (s x : Operand)
 (ho : o.op = .call { callee := .builtin .append, args := #[s, x], argTypes := #[t, t] })
 (hE : EI P t e size bytes) (hs : a.eval s = .slice A css.length c) (hown : OwnS w base e size A c css) (hx : a.eval x = .slice X m cn) (B : Nat) (hr : Rd w B size X news) (hm : m = news.length)
 (h1 : ∀ cs ∈ news, ∀ u ∈ cs, u.oneCell' = true) (h63 : css.length + m ≤ maxLen) (hbytes : (css.length + m) * bytes ≤ 140737488355328) (hbase : base ≤ w.heap.size)
 (h : ∀ A' c' w', OwnS w' base e size A' c' (css ++ news) → w.grownBy w' (Value.ownBlock (.slice A css.length c)) → Below base w w' → wpList P ops Q rest (a.put o.dst (.slice A' (css ++ news).length c')) w') : wpList P ops Q (o :: rest) a w := by
 obtain ⟨A', c', w', hrun, h2, h3, h4⟩ := run_append_own_any (P := P) (ty := o.type) (cn := cn) hE hown B hr hm h1 h63 hbytes hbase
 refine wpList_plain hgd fun K hK => ?_
 unfold Oper.wp execOp
 simp only [ho, resolve, invoke, builtin, Sem.run_bind, Sem.run_pure, Result.andThen_ok, List.map_toArray, List.map_cons, List.map_nil, hs, hx, hrun]
 exact hK _ _ (h A' c' w' h2 h3 h4)
end
def IsRow (P : Program) (T n : Nat) : Prop := ∃ d, P.underlying T = some d ∧ (match d with | .struct _ | .array _ _ => true | _ => false) = true ∧ (P.info? T).map (·.size) = some n
theorem run_load_cells {P : Program} {w : World} {T n : Nat} {ad : Addr} {cs : List Value} (hT : IsRow P T n) (hn : cs.length = n) (h : ∀ j u, cs[j]? = some u → w.cell? (ad.add j) = some u) :
 (loadVar T ad).run P w = .ok (.agg cs.toArray) w := by
 obtain ⟨d, hu, hd, hi⟩ := hT
 subst hn
 have hl : (loadCells ad cs.length).run P w = .ok cs.toArray w := run_loadCells_list (P := P) w ad cs h
 cases hq : P.info? T with
 | none => simp [hq] at hi
 | some i =>
  have hs : i.size = cs.length := by simpa [hq] using hi
  have hagg : (isAgg T).run P w = .ok true w := by
   unfold isAgg
   rw [Sem.run_bind, run_underlying hu w]
   cases d <;> simp_all
  simp [loadVar, Sem.run_bind, hagg, sizeOf, typeInfo, hq, hs, hl]
theorem run_load_cell {P : Program} {w : World} {T : Nat} {d : TypeDesc} {ad : Addr} {v : Value} (hT : P.underlying T = some d) (hd : (match d with | .struct _ | .array _ _ => false | _ => true) = true) (h : w.cell? ad = some v) : (loadVar T ad).run P w = .ok v w := by
 have hagg : (isAgg T).run P w = .ok false w := by
  unfold isAgg
  rw [Sem.run_bind, run_underlying hT w]
  cases d <;> simp_all
 simp [loadVar, Sem.run_bind, hagg, h]
theorem Rd.ld {P : Program} {T size : Nat} (hT : IsRow P T size) {w : World} {B : Nat} {A : Option Addr} {css : List (List Value)} (h : Rd w B size A css) {k : Nat} {cs : List Value} (hk : css[k]? = some cs) :
 ∃ b off, A = some ⟨b, off, none⟩ ∧ b < B ∧ ∀ w', Below B w w' → (loadVar T ⟨b, off + k * size, none⟩).run P w' = .ok (.agg cs.toArray) w' := by
 obtain ⟨b, off, e, hlt, hl, hc⟩ := h k cs hk
 refine ⟨b, off, e, hlt, fun w' hb => run_load_cells hT hl fun j u hu => ?_⟩
 rw [Addr.add_lit]
 exact (hb.cell (p := ⟨b, _, none⟩) (by simpa using hlt)).trans (hc j u hu)
section
variable {P : Program} {w : World} {ops : Array Oper} {rest : List Oper} {o : Oper} {a : Act} {Q : Exit → Act → World → Prop} {C : World → Prop} {K : Act → Prop}
theorem wpList_ld (hgd : o.guard = none) (T : Nat) (x : Operand) (ho : o.op = .load T x) (ad : Addr) (hx : a.eval x = .pointer (some ad)) (v : Value) (hld : (loadVar T ad).run P w = .ok v w)
 (h : wpList P ops Q rest (a.put o.dst v) w) : wpList P ops Q (o :: rest) a w := by
 refine wpList_plain hgd fun K hK => ?_
 unfold Oper.wp execOp
 simp only [ho, hx, Instr.loadAt, Instr.sureAddr, Sem.run_bind, Sem.run_pure, Result.andThen_ok, hld]
 exact hK _ _ h
theorem wpList_ldw (hw : Region.wanted o (yielded ops a.tmps) = true) (T : Nat) (x : Operand) (ho : o.op = .load T x) (ad : Addr) (hx : a.eval x = .pointer (some ad)) (v : Value) (hld : (loadVar T ad).run P w = .ok v w)
 (h : wpList P ops Q rest (a.put o.dst v) w) : wpList P ops Q (o :: rest) a w := by
 refine wpList_step fun K hK => ?_
 rw [if_pos hw]
 unfold Oper.wp execOp
 simp only [ho, hx, Instr.loadAt, Instr.sureAddr, Sem.run_bind, Sem.run_pure, Result.andThen_ok, hld]
 exact hK _ _ h
theorem run_store_cells {P : Program} {w : World} {T n g off t : Nat} {cur : Array Value} {v : Value} {cs : List Value} (hi : (P.info? T).map (·.size) = some n) (hv : v.cells.toList = cs) (hn : cs.length = n)
 (hg : w.heap[g]? = some (.cells cur t (0, 0))) (hfit : off + n ≤ cur.size) (h1 : ∀ u ∈ cs, u.oneCell' = true) :
 (storeVar T ⟨g, off, none⟩ v).run P w = .ok () (w.setRow g (cur.toList.take off ++ cs ++ cur.toList.drop (off + n)).toArray) := by
 subst hv
 cases hq : P.info? T with
 | none => simp [hq] at hi
 | some i =>
  have hs : i.size = n := by simpa [hq] using hi
  have hst := run_storeCells_at P g off t v.cells.toList 0 cur w hg (by simp only [Nat.add_zero]; omega) h1
  simp only [Nat.add_zero] at hst
  have hsz : v.cells.size = n := by simpa using hn
  unfold storeVar
  simp only [Sem.run_bind, sizeOf, typeInfo, run_program, hq, Sem.run_pure, Result.andThen_ok, hs, hsz, ne_eq, not_true_eq_false, if_false]
  rw [hst, hn]
theorem wpList_st {T n g off t : Nat} {cur : Array Value} {v : Value} {cs : List Value} (hgd : o.guard = none) (x y : Operand) (ho : o.op = .store T x y) (hx : a.eval x = .pointer (some ⟨g, off, none⟩)) (hy : a.eval y = v)
 (hi : (P.info? T).map (·.size) = some n) (hv : v.cells.toList = cs) (hn : cs.length = n) (hg : w.heap[g]? = some (.cells cur t (0, 0))) (hfit : off + n ≤ cur.size) (h1 : ∀ u ∈ cs, u.oneCell' = true)
 (h : ∀ (cur' : Array Value) w', cur'.toList = cur.toList.take off ++ cs ++ cur.toList.drop (off + n) → cur'.size = cur.size → w'.heap[g]? = some (.cells cur' t (0, 0)) → w.grownBy w' (some g) → wpList P ops Q rest (a.put o.dst undef) w') :
 wpList P ops Q (o :: rest) a w := by
 have hr := run_store_cells (P := P) hi hv hn hg hfit h1
 refine wpList_plain hgd fun K hK => ?_
 unfold Oper.wp execOp
 simp only [ho, hx, hy, Instr.storeAt, Instr.sureAddr, Sem.run_bind, Sem.run_pure, Result.andThen_ok, hr]
 refine hK _ _ (h _ _ rfl ?_ (setRow_heap w g cur _ t _ hg) ⟨rfl, rfl, rfl, by simp, fun k _ hk => setRow_other w g k _ (fun e => hk (by simp [e]))⟩)
 simp only [List.size_toArray, List.length_append, List.length_take, List.length_drop, Array.length_toList]
 omega
theorem quiet_ld (T : Nat) (x : Operand) (ho : o.op = .load T x) (ad : Addr) (hx : a.eval x = .pointer (some ad)) (v : Value) (hld : ∀ w', C w' → (loadVar T ad).run P w' = .ok v w')
 (hk : K (a.put o.dst v)) : o.quiet P a C K := by
 refine ⟨v, fun w' hC => ?_, hk⟩
 unfold Oper.quietAt execOp
 simp only [ho, hx, Instr.loadAt, Instr.sureAddr, Sem.run_bind, Sem.run_pure, Result.andThen_ok, hld w' hC]
 exact ⟨rfl, rfl⟩
theorem wp_region_below {id : Nat} {l : List Oper} (hm : P.follows .mixedOrders = true) (hB : Region.lexB .any l.toArray = true) (N : Nat)
 (h : wpQuiet P l.toArray (fun w' => Below N w w') (fun a' => ∀ w', Below N w w' → Q .normal a' w') l a) : (Code.region id l.toArray true).wp P Q a w :=
 wp_region_quiet (C := fun w' => Below N w w') hm hB (Below.refl _ _).drew (by simpa using h)
end
theorem size_alloc2 (w : World) (A B : Obj) : ((w.alloc A).alloc B).heap.size = w.heap.size + 2 := by simp
theorem toList_inj {a b : ByteArray} : (a.toList == b.toList) = decide (a = b) := by
 rw [← beq_toListBytes]
 obtain ⟨⟨x⟩⟩ := a
 obtain ⟨⟨y⟩⟩ := b
 show ((⟨x⟩ : Array UInt8) == ⟨y⟩) = _
 by_cases h : x = y <;> simp [h]
theorem toList_eq {a b : ByteArray} : (a.toList = b.toList) = (a = b) := by
 have h := toList_inj (a := a) (b := b)
 by_cases e : a = b
 · simp [e]
 · simp [e] at h
   simp [e, h]
structure Frm where
 x : Int
 light : Int
 share : Int
 shear : Int
 bend : Int
deriving DecidableEq
section
variable {P : Program} {ops : Array Oper} {md : Region.Mode} {C : World → Prop} {io : Nat} {oo : Oper} {R : Value → World → Prop} {D : World → World → Prop} {Q : Value → World → Act → Prop}
def waits (md : Region.Mode) (ops : Array Oper) : Nat → Nat → Nat → Bool
 | 0, _, _ => false
 | fuel + 1, j, i => match ops[j]? with
  | some o => o.after.any fun e => Region.binds md e && (e.on == i || waits md ops fuel e.on i)
  | none => false
def Closed (md : Region.Mode) (ops : Array Oper) (listed : Array Bool) : Prop :=
 ∀ j oj, ops[j]? = some oj → listed.getD j false = true → ∀ e ∈ oj.after, Region.binds md e = true → listed.getD e.on false = true
theorem waits_listed {listed : Array Bool} (hc : Closed md ops listed) : ∀ (fuel j i : Nat) (oj : Oper), ops[j]? = some oj → (∀ e ∈ oj.after, Region.binds md e = true → listed.getD e.on false = true) → waits md ops fuel j i = true → listed.getD i false = true
 | 0, _, _, _, _, _, h => by simp [waits] at h
 | fuel + 1, j, i, oj, hj, hall, h => by
  simp only [waits, hj] at h
  obtain ⟨e, he, hb⟩ := Array.any_eq_true'.1 h
  simp only [Bool.and_eq_true, Bool.or_eq_true, beq_iff_eq] at hb
  have h1 := hall e he hb.1
  rcases hb.2 with h2 | h2
  · rw [← h2]; exact h1
  · cases ho : ops[e.on]? with
    | none => cases fuel <;> simp [waits, ho] at h2
    | some oe => exact waits_listed hc fuel e.on i oe ho (hc e.on oe ho h1) h2
theorem Closed.set_ {listed : Array Bool} (hc : Closed md ops listed) {j : Nat} (hj : j ∈ Region.ready md ops listed) : Closed md ops (listed.setIfInBounds j true) := by
 intro k ok hk hl e he hb
 by_cases hjk : j = k
 · subst hjk
   obtain ⟨_, oj, hoj, hall⟩ := mem_ready.1 hj
   rw [hk] at hoj
   injection hoj with hoj
   subst hoj
   exact getD_set_true (hall e he hb)
 · rw [getD_set_ne false hjk] at hl
   exact getD_set_true (hc k ok hk hl e he hb)
end
abbrev From (w : World) (w' : World) : Prop := Below w.heap.size w w'
section
variable {P : Program} {ops : Array Oper} {md : Region.Mode} {C0 C : World → Prop}
end
end Go.Proofs.YtfdjcakgolenbaaGreat
