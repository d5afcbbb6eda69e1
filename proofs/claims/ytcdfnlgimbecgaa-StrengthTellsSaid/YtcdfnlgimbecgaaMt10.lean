/-
  What a law owns, in one list: rows that may grow and blocks of cells, each apart from the others; how calls, new blocks, appends and stores change the list.
-/
import Derived.Test.YtcdfnlgimbecgaaMt9
import Derived.Laws.CopyOwn
namespace Go.Proofs.Ytcdfnlgimbecgaa
open Go.RowKit
inductive Ent where
 | row (T size : Nat) (A : Option Addr) (c : Nat) (css : List (List Value))
 | box (g T : Nat) (cs : List Value)
 | ro (size : Nat) (A : Option Addr) (css : List (List Value))
def Ent.ok (w : World) (base : Nat) : Ent → Prop
 | .row T size A c css => OwnS w base T size A c css
 | .box g T cs => base ≤ g ∧ w.heap[g]? = some (.cells cs.toArray T (0, 0))
 | .ro size A css => Rd w w.heap.size size A css ∧ ∀ a, A = some a → base ≤ a.block ∧ a.block < w.heap.size
def Ent.blk : Ent → Option Nat
 | .row _ _ A _ _ => A.map (·.block)
 | .box g _ _ => some g
 | .ro _ A _ => A.map (·.block)
theorem Ent.lt {w : World} {base b : Nat} {e : Ent} (h : e.ok w base) (hb : e.blk = some b) : base ≤ b ∧ b < w.heap.size := by
 cases e with
 | row T size A c css =>
  obtain ⟨a, ha, rfl⟩ := Option.map_eq_some_iff.1 hb
  exact OwnS.lt h ha
 | box g T cs =>
  injection hb with hb
  subst hb
  exact ⟨h.1, (Array.getElem?_eq_some_iff.1 h.2).1⟩
 | ro size A css =>
  obtain ⟨a, ha, rfl⟩ := Option.map_eq_some_iff.1 hb
  exact h.2 a ha
theorem cell_same {w w' : World} {g p : Nat} (h : w'.heap[g]? = w.heap[g]?) : w'.cell? ⟨g, p, .none⟩ = w.cell? ⟨g, p, .none⟩ := by simp only [World.cell?, h]
theorem Rd.keep {w w' : World} {size : Nat} {A : Option Addr} {css : List (List Value)} (h : Rd w w.heap.size size A css) (hk : ∀ a, A = some a → w'.heap[a.block]? = w.heap[a.block]?) : Rd w' w'.heap.size size A css := by
 intro k cs hkc
 obtain ⟨g, off, e, hlt, hl, hc⟩ := h k cs hkc
 have h1 := hk _ e
 have hlt' : g < w'.heap.size := by
  rcases Nat.lt_or_ge g w'.heap.size with h2 | h2
  · exact h2
  · rw [Array.getElem?_eq_none h2, Array.getElem?_eq_getElem hlt] at h1
    cases h1
 exact ⟨g, off, e, hlt', hl, fun j u hu => by rw [cell_same h1]; exact hc j u hu⟩
theorem Ent.keep {w w' : World} {base : Nat} {e : Ent} (h : e.ok w base) (hk : ∀ b, e.blk = some b → w'.heap[b]? = w.heap[b]?) : e.ok w' base := by
 cases e with
 | ro size A css =>
  refine ⟨Rd.keep h.1 fun a ha => hk _ (by simp [Ent.blk, ha]), fun a ha => ⟨(h.2 a ha).1, ?_⟩⟩
  have h1 := hk a.block (by simp [Ent.blk, ha])
  rcases Nat.lt_or_ge a.block w'.heap.size with h2 | h2
  · exact h2
  · rw [Array.getElem?_eq_none h2, Array.getElem?_eq_getElem (h.2 a ha).2] at h1
    cases h1
 | row T size A c css => exact OwnS.keep h fun a ha => hk _ (by simp [Ent.blk, ha])
 | box g T cs => exact ⟨h.1, (hk g rfl).trans h.2⟩
theorem Ent.less {w : World} {base b : Nat} {e : Ent} (h : e.ok w base) (hb : b ≤ base) : e.ok w b := by
 cases e with
 | row T size A c css => exact OwnS.base_le h hb
 | box g T cs => exact ⟨Nat.le_trans hb h.1, h.2⟩
 | ro size A css => exact ⟨h.1, fun a ha => ⟨Nat.le_trans hb (h.2 a ha).1, (h.2 a ha).2⟩⟩
def Ent.far (e f : Ent) : Prop := ∀ b, e.blk = some b → f.blk ≠ some b
theorem Ent.far.symm {e f : Ent} (h : e.far f) : f.far e := fun b hb hc => h b hc hb
structure Mem (w0 w : World) (M : List Ent) : Prop where
 from_ : From w0 w
 ok : ∀ e ∈ M, e.ok w w0.heap.size
 apart : M.Pairwise Ent.far
theorem Mem.nil (w : World) : Mem w w [] := ⟨Below.refl _ _, fun _ h => (by cases h), .nil⟩
theorem Mem.start {w0 w : World} (h : From w0 w) : Mem w0 w [] := ⟨h, fun _ h => (by cases h), .nil⟩
theorem Mem.call {w0 w w' : World} {M : List Ent} (h : Mem w0 w M) (hb : From w w') : Mem w0 w' M :=
 ⟨h.from_.trans (hb.mono h.from_.size), fun e he => Ent.keep (h.ok e he) fun _ hb' => hb.block _ (Ent.lt (h.ok e he) hb').2, h.apart⟩
theorem Mem.sub {w0 w : World} {M M' : List Ent} (h : Mem w0 w M) (hs : M'.Sublist M) : Mem w0 w M' := ⟨h.from_, fun e he => h.ok e (hs.subset he), h.apart.sublist hs⟩
theorem Mem.add {w0 w w' : World} {M : List Ent} (h : Mem w0 w M) (hb : From w w') (e : Ent) (he : e.ok w' w.heap.size) : Mem w0 w' (e :: M) := by
 have h1 := h.call hb
 refine ⟨h1.from_, fun f hf => ?_, List.pairwise_cons.2 ⟨fun f hf b hb1 hb2 => ?_, h1.apart⟩⟩
 · rcases List.mem_cons.1 hf with rfl | hf
   · exact Ent.less he h.from_.size
   · exact h1.ok f hf
 · have h2 := (Ent.lt he hb1).1
   have h3 := (Ent.lt (h.ok f hf) hb2).2
   omega
theorem Mem.add2 {w0 w w' : World} {M : List Ent} (h : Mem w0 w M) (hb : From w w') (e f : Ent) (he : e.ok w' w.heap.size) (hf : f.ok w' w.heap.size) (hef : e.far f) : Mem w0 w' (e :: f :: M) := by
 have h1 := h.add hb f hf
 refine ⟨h1.from_, fun g hg => ?_, List.pairwise_cons.2 ⟨fun g hg b hb1 hb2 => ?_, h1.apart⟩⟩
 · rcases List.mem_cons.1 hg with rfl | hg
   · exact Ent.less he h.from_.size
   · exact h1.ok g hg
 · rcases List.mem_cons.1 hg with rfl | hg
   · exact hef b hb1 hb2
   · have h2 := (Ent.lt he hb1).1
     have h3 := (Ent.lt (h.ok g hg) hb2).2
     omega
theorem Mem.none {w0 w : World} {M : List Ent} (h : Mem w0 w M) (T size : Nat) : Mem w0 w (.row T size none 0 [] :: M) :=
 h.add (Below.refl _ _) _ (OwnS.nil _ _ _ _)
theorem Mem.alloc {w0 w : World} {M : List Ent} (h : Mem w0 w M) (T : Nat) (cs : List Value) : Mem w0 (w.alloc (.cells cs.toArray T)) (.box w.heap.size T cs :: M) :=
 h.add ((Below.refl _ _).alloc (Nat.le_refl _) _) _ ⟨Nat.le_refl _, heap_alloc_new w _⟩
theorem Mem.any {w0 w : World} {M : List Ent} (h : Mem w0 w M) (o : Obj) : Mem w0 (w.alloc o) M := h.call ((Below.refl _ _).alloc (Nat.le_refl _) _)
theorem set_pair {e : Ent} : ∀ {M : List Ent} {i : Nat}, i < M.length → M.Pairwise Ent.far → (∀ j f, j ≠ i → M[j]? = some f → e.far f) → (M.set i e).Pairwise Ent.far
 | [], _, hi, _, _ => by cases hi
 | f :: M, 0, _, hp, h => by
  rw [List.set_cons_zero]
  have h1 := List.pairwise_cons.1 hp
  refine List.pairwise_cons.2 ⟨fun g hg => ?_, h1.2⟩
  obtain ⟨j, hj⟩ := List.mem_iff_getElem?.1 hg
  exact h (j + 1) g (by omega) (by simpa using hj)
 | f :: M, i + 1, hi, hp, h => by
  rw [List.set_cons_succ]
  have h1 := List.pairwise_cons.1 hp
  refine List.pairwise_cons.2 ⟨fun g hg => ?_, set_pair (by simpa using hi) h1.2 fun j f' hj hf => h (j + 1) f' (by omega) (by simpa using hf)⟩
  rcases List.mem_or_eq_of_mem_set hg with hg | rfl
  · exact h1.1 g hg
  · exact (h 0 f (by omega) (by simp)).symm
theorem pair_ne {M : List Ent} (hp : M.Pairwise Ent.far) {i j : Nat} {e f : Ent} (hi : M[i]? = some e) (hj : M[j]? = some f) (hij : i ≠ j) : e.far f := by
 obtain ⟨hi1, hi2⟩ := List.getElem?_eq_some_iff.1 hi
 obtain ⟨hj1, hj2⟩ := List.getElem?_eq_some_iff.1 hj
 rw [List.pairwise_iff_getElem] at hp
 rcases Nat.lt_or_gt_of_ne hij with h | h
 · have := hp i j hi1 hj1 h
   rwa [hi2, hj2] at this
 · have := hp j i hj1 hi1 h
   rw [hi2, hj2] at this
   exact this.symm
theorem Mem.put {w0 w w' : World} {M : List Ent} (h : Mem w0 w M) (i : Nat) {e : Ent} (e' : Ent) (hi : M[i]? = some e) (hg : w.grownBy w' e.blk) (he : e'.ok w' w0.heap.size) (hbl : e'.blk = e.blk ∨ ∀ b, e'.blk = some b → w.heap.size ≤ b) : Mem w0 w' (M.set i e') := by
 have hlt : i < M.length := (List.getElem?_eq_some_iff.1 hi).1
 have hek := h.ok e (List.mem_of_getElem? hi)
 refine ⟨h.from_.grown hg h.from_.size fun k hk => (Ent.lt hek hk).1, fun f hf => ?_, set_pair hlt h.apart fun j f hj hf b hb1 hb2 => ?_⟩
 · obtain ⟨j, hj⟩ := List.mem_iff_getElem?.1 hf
   rw [List.getElem?_set] at hj
   split at hj
   · injection hj with hj
     subst hj
     exact he
   · rename_i hne
     have hfk := h.ok f (List.mem_of_getElem? hj)
     refine Ent.keep hfk fun b hb => hg.block b (Ent.lt hfk hb).2 fun hc => ?_
     exact pair_ne h.apart hi hj hne b hc.symm hb
 · have hfk := h.ok f (List.mem_of_getElem? hf)
   rcases hbl with hbl | hbl
   · rw [hbl] at hb1
     exact pair_ne h.apart hi hf (fun e => hj e.symm) b hb1 hb2
   · have h1 := hbl b hb1
     have h2 := (Ent.lt hfk hb2).2
     omega
theorem Mem.own {w0 w : World} {M : List Ent} (h : Mem w0 w M) {i : Nat} {T size : Nat} {A : Option Addr} {c : Nat} {css : List (List Value)} (hi : M[i]? = some (.row T size A c css)) : OwnS w w0.heap.size T size A c css := h.ok _ (List.mem_of_getElem? hi)
theorem Mem.rd {w0 w : World} {M : List Ent} (h : Mem w0 w M) {i : Nat} {T size : Nat} {A : Option Addr} {c : Nat} {css : List (List Value)} (hi : M[i]? = some (.row T size A c css)) : Rd w w.heap.size size A css := (h.own hi).rd
theorem Mem.cells {w0 w : World} {M : List Ent} (h : Mem w0 w M) {i g T : Nat} {cs : List Value} (hi : M[i]? = some (.box g T cs)) : w.heap[g]? = some (.cells cs.toArray T (0, 0)) := (h.ok _ (List.mem_of_getElem? hi)).2
theorem Mem.boxlt {w0 w : World} {M : List Ent} (h : Mem w0 w M) {i g T : Nat} {cs : List Value} (hi : M[i]? = some (.box g T cs)) : w0.heap.size ≤ g ∧ g < w.heap.size := Ent.lt (h.ok _ (List.mem_of_getElem? hi)) rfl
theorem Mem.ldb {w0 w : World} {M : List Ent} (h : Mem w0 w M) {i g T n : Nat} {cs : List Value} (hT : IsRow Try.prog T n) (hn : cs.length = n) (hi : M[i]? = some (.box g T cs)) (w1 : World) (hb : From w w1) : (loadVar T ⟨g, 0, .none⟩).run Try.prog w1 = .ok (.agg cs.toArray) w1 := by
 have h1 := own_box (base := 0) (h.cells hi) hn (Nat.zero_le _)
 exact own_row hT h1 (i := 0) (cs := cs) rfl (p := 0) (by omega) w1 hb
def cellT (P : Program) (T : Nat) : Bool :=
 match P.underlying T with
 | some (.struct _) => false
 | some (.array _ _) => false
 | some _ => true
 | _ => false
theorem run_load_one {P : Program} {w : World} {T : Nat} {ad : Addr} {v : Value} (hT : cellT P T = true) (h : w.cell? ad = some v) : (loadVar T ad).run P w = .ok v w := by
 unfold cellT at hT
 cases hd : P.underlying T with
 | none => rw [hd] at hT; cases hT
 | some d => exact run_load_cell hd (by rw [hd] at hT; cases d <;> first | rfl | cases hT) h
theorem Mem.ldc {w0 w : World} {M : List Ent} (h : Mem w0 w M) {i g T j T1 : Nat} {cs : List Value} {v : Value} (hT : cellT Try.prog T1 = true) (hi : M[i]? = some (.box g T cs)) (hj : cs[j]? = some v) (w1 : World) (hb : From w w1) : (loadVar T1 ⟨g, j, .none⟩).run Try.prog w1 = .ok v w1 := by
 have h1 := h.cells hi
 have h2 : w1.heap[g]? = some (.cells cs.toArray T (0, 0)) := (hb.block g (h.boxlt hi).2).trans h1
 refine run_load_one hT ?_
 rw [cell_of_row w1 g j _ _ _ h2]
 simpa using hj
theorem Mem.ldr {w0 w : World} {M : List Ent} (h : Mem w0 w M) {i g T size c k : Nat} {css : List (List Value)} {cs : List Value} (hT : IsRow Try.prog T size) (hi : M[i]? = some (.row T size (some ⟨g, 0, .none⟩) c css)) (hk : css[k]? = some cs) {p : Nat} (hp : p = k * size) (w1 : World) (hb : From w w1) : (loadVar T ⟨g, p, .none⟩).run Try.prog w1 = .ok (.agg cs.toArray) w1 :=
 own_row hT (h.own hi) hk hp w1 hb
theorem Rd.cell {P : Program} {w w1 : World} {B g off size k j T1 : Nat} {css : List (List Value)} {cs : List Value} {v : Value} (h : Rd w B size (some ⟨g, off, none⟩) css) (hb : Below B w w1) (hT : cellT P T1 = true) (hk : css[k]? = some cs) (hj : cs[j]? = some v) {p : Nat} (hp : p = off + k * size + j) : (loadVar T1 ⟨g, p, none⟩).run P w1 = .ok v w1 := by
 subst hp
 obtain ⟨b, off', e, hlt, _, hc⟩ := h k cs hk
 simp only [Option.some.injEq, Addr.mk.injEq, and_true] at e
 obtain ⟨rfl, rfl⟩ := e
 refine run_load_one hT ?_
 rw [cell_same (hb.block _ hlt)]
 exact hc j _ hj
theorem Rd.row {P : Program} {w w1 : World} {B g off size k T : Nat} {css : List (List Value)} {cs : List Value} (h : Rd w B size (some ⟨g, off, none⟩) css) (hb : Below B w w1) (hT : IsRow P T size) (hk : css[k]? = some cs) {p : Nat} (hp : p = off + k * size) : (loadVar T ⟨g, p, none⟩).run P w1 = .ok (.agg cs.toArray) w1 := by
 subst hp
 obtain ⟨b, o, e, _, hl⟩ := h.ld hT hk
 simp only [Option.some.injEq, Addr.mk.injEq, and_true] at e
 obtain ⟨rfl, rfl⟩ := e
 exact hl w1 hb
theorem wpList_append_M {w0 w : World} {M : List Ent} {ops : Array Oper} {rest : List Oper} {o : Oper} {a : Act} {Q : Exit → Act → World → Prop} {t e size bytes c m cn : Nat} {A : Option Addr} {ad : Addr} {css news : List (List Value)} (hgd : o.guard = none) (s x : Operand)
 (ho : o.op = .call { callee := .builtin .append, args := #[s, x], argTypes := #[t, t] })
 (hE : EI Try.prog t e size bytes) (n : Nat) (hn : n = css.length) (hs : a.eval s = .slice A n c) (H : Mem w0 w M) (i : Nat) (hi : M[i]? = some (.row e size A c css)) (hx : a.eval x = .slice (some ad) m cn) (hr : Rd w w.heap.size size (some ad) news) (hm : m = news.length)
 (h1 : ∀ cs ∈ news, ∀ u ∈ cs, u.oneCell' = true) (h63 : css.length + m ≤ maxLen) (hbytes : (css.length + m) * bytes ≤ 140737488355328)
 (h : ∀ A' c' w', Mem w0 w' (M.set i (.row e size A' c' (css ++ news))) → wpList Try.prog ops Q rest (a.put o.dst (.slice A' (n + m) c')) w') : wpList Try.prog ops Q (o :: rest) a w := by
 refine wpList_append_o hgd s x ho hE n hn hs (H.own hi) hx _ hr hm h1 h63 hbytes H.from_.size fun A' c' w' h2 h3 h4 h5 => h A' c' w' ?_
 refine H.put i _ hi h3 h2 ?_
 rcases h5 with h5 | h5
 · exact .inl h5
 · exact .inr fun b hb => by rw [show (Ent.row e size A' c' (css ++ news)).blk = A'.map (·.block) from rfl, h5] at hb; injection hb with hb; omega
theorem wpList_stB {w0 w : World} {M : List Ent} {ops : Array Oper} {rest : List Oper} {o : Oper} {a : Act} {Q : Exit → Act → World → Prop} {T g n : Nat} {cs cs' : List Value} {v : Value} (hgd : o.guard = none) (x y : Operand) (ho : o.op = .store T x y) (H : Mem w0 w M) (i : Nat) (hi : M[i]? = some (.box g T cs))
 (hx : a.eval x = .pointer (some ⟨g, 0, .none⟩)) (hy : a.eval y = v) (hsz : (Try.prog.info? T).map (·.size) = some n) (hv : v.cells.toList = cs') (hl' : cs'.length = n) (hl : cs.length = n) (h1 : ∀ u ∈ cs', u.oneCell' = true)
 (h : ∀ w', Mem w0 w' (M.set i (.box g T cs')) → wpList Try.prog ops Q rest (a.put o.dst undef) w') : wpList Try.prog ops Q (o :: rest) a w := by
 refine wpList_st (cs := cs') hgd x y ho hx hy hsz hv hl' (H.cells hi) (by simp [hl]) h1 fun cur' w' hc hs hg' hgr => h w' (H.put i (.box g T cs') hi hgr ⟨(H.boxlt hi).1, ?_⟩ (.inl rfl))
 have : cur' = cs'.toArray := by
  apply Array.ext'
  rw [hc]
  simp [hl]
 rw [← this]
 exact hg'
def NewB (base T : Nat) (cs : List Value) (v : Value) (w : World) : Prop := ∃ g, v = .pointer (some ⟨g, 0, .none⟩) ∧ base ≤ g ∧ w.heap[g]? = some (.cells cs.toArray T (0, 0))
def NewR (base T : Nat) (cs : List Value) (v : Value) (w : World) : Prop := ∃ g, v = .slice (some ⟨g, 0, .none⟩) 1 1 ∧ base ≤ g ∧ w.heap[g]? = some (.cells cs.toArray T (0, 0))
theorem NewB.stays {base T : Nat} {cs : List Value} : ∀ v w w', NewB base T cs v w → From w w' → NewB base T cs v w' := by
 rintro v w w' ⟨g, h1, h2, h3⟩ hb
 exact ⟨g, h1, h2, (hb.block _ (Array.getElem?_eq_some_iff.1 h3).1).trans h3⟩
theorem NewR.stays {base T : Nat} {cs : List Value} : ∀ v w w', NewR base T cs v w → From w w' → NewR base T cs v w' := by
 rintro v w w' ⟨g, h1, h2, h3⟩ hb
 exact ⟨g, h1, h2, (hb.block _ (Array.getElem?_eq_some_iff.1 h3).1).trans h3⟩
theorem new_alloc {P : Program} {ρ : Operand → Value} {d : Option Nat} {T ty : TypeId} {pos : String} {aft : Array Edge} {gd : Option (Nat × Bool)} {w : World} {z : Value} {base : Nat} (hz : (P.info? T).bind (·.zero) = some z) (hb : base ≤ w.heap.size) : runsIn P ρ ⟨d, .alloc T, ty, pos, aft, gd⟩ w (NewB base T z.cells.toList) := by
 have h3 : (zeroValue T).run P w = .ok z w := by
  cases hi : P.info? T with
  | none => rw [hi] at hz; cases hz
  | some i =>
   rw [hi] at hz
   simp only [Option.bind_some] at hz
   unfold zeroValue
   simp only [typeInfo, Sem.run_bind, Sem.run_pure, Result.andThen_ok, run_program, hi, hz]
 refine .inl ⟨.pointer (some ⟨w.heap.size, 0, .none⟩), w.alloc (.cells z.cells T), ?_, (Below.refl _ _).alloc (Nat.le_refl _) _, _, rfl, hb, heap_alloc_new w _⟩
 unfold execOp
 simp only [Instr.alloc, Sem.run_bind, h3, Result.andThen_ok, newVar, newRow, Sem.run_pure]
 rfl
theorem new_slice1 {P : Program} {ρ : Operand → Value} {d : Option Nat} {ty : TypeId} {pos : String} {aft : Array Edge} {gd : Option (Nat × Bool)} {w : World} {t e sz base : Nat} {x : Operand} {u z : Value} {cs : List Value} (hx : ρ x = u) (he : elemOf P t = some (e, sz)) (hz : (P.info? e).bind (·.zero) = some z) (hzs : z.cells.size = sz) (hu : u.cells = cs.toArray) (hl : cs.length = sz) (h0 : 0 < sz) (h24 : sz ≤ 2 ^ 24) (hb : base ≤ w.heap.size) :
 runsIn P ρ ⟨d, .buildSlice t 1 #[(0, x)], ty, pos, aft, gd⟩ w (NewR base e cs) := by
 have h1 := ok_slice1 (P := P) (ρ := ρ) (d := d) (ty := ty) (pos := pos) (aft := aft) (gd := gd) (w := w) hx he hz hzs (by rw [hu]; simp [hl]) h0 h24
 rw [hu] at h1
 exact .inl ⟨_, _, h1, (Below.refl _ _).alloc (Nat.le_refl _) _, _, rfl, hb, heap_alloc_new w _⟩
theorem Mem.newB {w0 w w' : World} {M : List Ent} (h : Mem w0 w M) (hb : From w w') {g T : Nat} {cs : List Value} (h1 : w.heap.size ≤ g) (h2 : w'.heap[g]? = some (.cells cs.toArray T (0, 0))) : Mem w0 w' (.box g T cs :: M) := h.add hb _ ⟨h1, h2⟩
theorem Mem.tail {w0 w : World} {e : Ent} {M : List Ent} (h : Mem w0 w (e :: M)) : Mem w0 w M := h.sub (List.sublist_cons_self _ _)
theorem g_bld {P : Program} {w : World} {ops : Array Oper} {rest : List Oper} {a : Act} {Q : Exit → Act → World → Prop} (T : Nat) {ps : Array (Nat × Operand)} {d : Option Nat} {ty : TypeId} {pos : String} {aft : Array Edge} {gd : Option (Nat × Bool)}
 (h : wpList P ops Q (⟨d, .build T ps, ty, pos, aft, gd⟩ :: rest) a w) : wpList P ops Q (⟨d, .build T ps, ty, pos, aft, gd⟩ :: rest) a w := h
theorem wpList_val {P : Program} {w : World} {ops : Array Oper} {rest : List Oper} {o : Oper} {a : Act} {Q : Exit → Act → World → Prop} (hgd : o.guard = none) (v : Value) (hr : (execOp a.eval o).run P w = .ok (.value v) w) (h : wpList P ops Q rest (a.put o.dst v) w) : wpList P ops Q (o :: rest) a w := by
 refine wpList_plain hgd fun K hK => ?_
 unfold Oper.wp
 rw [hr]
 exact hK _ _ h
theorem el22 : elemOf Try.prog 22 = some (44, 5) := by kernel_rfl
theorem el23 : elemOf Try.prog 23 = some (46, 2) := by kernel_rfl
theorem el26 : elemOf Try.prog 26 = some (40, 34) := by kernel_rfl
theorem el42 : elemOf Try.prog 42 = some (3, 1) := by kernel_rfl
theorem el81 : elemOf Try.prog 81 = some (93, 34) := by kernel_rfl
theorem el78 : elemOf Try.prog 78 = some (79, 2) := by kernel_rfl
theorem fl44_0 : fieldOff Try.prog 44 0 = some 0 := by kernel_rfl
theorem fl44_1 : fieldOff Try.prog 44 1 = some 1 := by kernel_rfl
theorem fl44_2 : fieldOff Try.prog 44 2 = some 2 := by kernel_rfl
theorem fl44_3 : fieldOff Try.prog 44 3 = some 3 := by kernel_rfl
theorem fl44_4 : fieldOff Try.prog 44 4 = some 4 := by kernel_rfl
theorem fl93_0 : fieldOff Try.prog 93 0 = some 0 := by kernel_rfl
theorem fl93_1 : fieldOff Try.prog 93 1 = some 17 := by kernel_rfl
theorem fl79_0 : fieldOff Try.prog 79 0 = some 0 := by kernel_rfl
theorem fl79_1 : fieldOff Try.prog 79 1 = some 1 := by kernel_rfl
theorem fl91_0 : fieldOff Try.prog 91 0 = some 0 := by kernel_rfl
theorem fl91_1 : fieldOff Try.prog 91 1 = some 1 := by kernel_rfl
theorem fl91_2 : fieldOff Try.prog 91 2 = some 9 := by kernel_rfl
theorem ct3 : cellT Try.prog 3 = true := by kernel_rfl
theorem ct4 : cellT Try.prog 4 = true := by kernel_rfl
theorem ct34 : cellT Try.prog 34 = true := by kernel_rfl
theorem wpList_copyN {P : Program} {w : World} {ops : Array Oper} {rest : List Oper} {o : Oper} {a : Act} {Q : Exit → Act → World → Prop} (hgd : o.guard = none) (d s : Operand) (dT sT : TypeId)
 (ho : o.op = .call { callee := .builtin .copy, args := #[d, s], argTypes := #[dT, sT] }) (elem : TypeId) (hu : P.underlying dT = some (.slice elem)) (hsz : (P.info? elem).map (·.size) = some 1)
 {g E dl dc sl sc : Nat} {k : IntKind} {L l : List Nat} {A : Option Addr} (hd : a.eval d = .slice (some ⟨g, 0, none⟩) dl dc) (hs : a.eval s = .slice A sl sc) (hdl : dl = L.length) (hsl : sl = l.length) (hle : l.length ≤ L.length) (hl0 : 0 < l.length)
 (hnb : NB w g E k L) (hrd : Rd w w.heap.size 1 A (nums k l))
 (h : ∀ w', NB w' g E k (l ++ L.drop l.length) → w.grownBy w' (some g) → wpList P ops Q rest (a.put o.dst (.int .i64 (l.length : Int))) w') : wpList P ops Q (o :: rest) a w := by
 obtain ⟨b, off, rfl, _, _, _⟩ := hrd 0 _ (nums_get (k := k) hl0)
 have hcl : (l.map fun (n : Nat) => Value.int k (n : Int)).length = l.length := by simp
 have hnb' : w.heap[g]? = some (.cells (L.map fun (n : Nat) => Value.int k (n : Int)).toArray E (0, 0)) := hnb
 refine wpList_copy_own hgd d s dT sT ho elem hu hsz g 0 dl dc ⟨b, off, none⟩ sl sc hd hs _ E hnb' (l.map fun (n : Nat) => Value.int k (n : Int)) (by rw [hcl, hdl, hsl]; exact (Nat.min_eq_left hle).symm) ?_ (by simp; omega) (by simp [Value.oneCell']) ?_
 · intro j v hv
   rw [List.getElem?_map] at hv
   obtain ⟨n, hn, rfl⟩ := Option.map_eq_some_iff.1 hv
   have hjl := (List.getElem?_eq_some_iff.1 hn).1
   obtain ⟨b', off', e, _, _, hc⟩ := hrd j _ (nums_get (k := k) hjl)
   injection e with e
   injection e with e1 e2
   subst e1; subst e2
   have h1 := hc 0 _ rfl
   rw [Addr.add_lit]
   simp only [Nat.mul_one, Nat.add_zero] at h1
   rw [h1]
   have h2 := (List.getElem?_eq_some_iff.1 hn).2
   rw [h2]
 · have h1 := h (w.setRow g (List.take 0 (L.map fun (n : Nat) => Value.int k (n : Int)).toArray.toList ++ ((l.map fun (n : Nat) => Value.int k (n : Int)) ++ List.drop (0 + (l.map fun (n : Nat) => Value.int k (n : Int)).length) (L.map fun (n : Nat) => Value.int k (n : Int)).toArray.toList)).toArray) ?_ ⟨rfl, rfl, rfl, by simp, fun q _ hq => setRow_other w g q _ (fun e => hq (by rw [e]))⟩
   · rw [hcl]
     rw [hcl] at h1
     exact h1
   · unfold NB
     rw [setRow_heap w g _ _ E (0, 0) hnb']
     simp [List.map_append, List.map_drop]
theorem clone_nums (b off c n : Nat) (l : List Nat) (hn : n = l.length) (w : World) (hA : Rd w w.heap.size 1 (some ⟨b, off, none⟩) (nums .u32 l)) (hl : l.length ≤ 1000) :
 Calls Try.prog 89 #[.slice (some ⟨b, off, none⟩) n c] w fun e w' => ∃ A' c', e = .returned (.slice A' n c') ∧ OwnS w' w.heap.size 34 1 A' c' (nums .u32 l) ∧ n ≤ c' ∧ Below w.heap.size w w' := by
 subst hn
 have heq := fun w => Go.Lib.run_eql_slice_nil (P := Try.prog) w 108 34 (some ⟨b, off, none⟩) l.length c 0 0 Try.underlying108
 have hb1 : Below w.heap.size w (w.alloc (Obj.cells #[] 34)) := (Below.refl _ _).alloc (Nat.le_refl _) _
 have HRD := Lib.hid ((hA.below hb1 (Nat.le_refl _)).more hb1.size)
 have HOW := Lib.hid (OwnS.empty_new w w.heap.size 34 1 (Nat.le_refl _))
 have HB1 := Lib.hid hb1
 clear hA hb1
 go_enter Try.func89, Try.ntmps89
 go_wp2_with (first
  | (at_builtin; go_loud (refine wpList_append_n rfl _ _ rfl u32_ei 0 rfl rfl HOW.out rfl _ HRD.out (by rw [nums_len]) (nums_ones _ l) (by unfold maxLen; simp; omega) (by simp; omega) HB1.out.size ?_); intro A4 c4 w4 hown4 hg4 hb4))
 go_ret
 have hcap := hown4.cap.1
 rw [List.nil_append, nums_len] at hcap
 exact ⟨A4, c4, by simp, by simpa using hown4, hcap, HB1.out.trans hb4⟩
theorem NB.nbx {w : World} {g E : Nat} {k : IntKind} {L : List Nat} (h : NB w g E k L) (n : Nat) : NBx w g E k (L.take n) := by
 refine ⟨numCells k (L.drop n), ?_⟩
 have e : numCells k (L.take n) ++ numCells k (L.drop n) = L.map fun (n : Nat) => Value.int k (n : Int) := by
  unfold numCells
  rw [← List.map_append, List.take_append_drop]
 rw [e]
 exact h
end Go.Proofs.Ytcdfnlgimbecgaa
