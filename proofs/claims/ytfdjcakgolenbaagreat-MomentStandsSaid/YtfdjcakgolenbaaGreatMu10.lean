/-
  What a law owns, in one list: rows that may grow and blocks of cells, each apart from the others; how calls, new blocks, appends and stores change the list.
-/
import Derived.Test.YtfdjcakgolenbaaGreatMu9
import Derived.Maps.Keyed
import Derived.Maps.RangeRun
set_option linter.unusedVariables false
set_option linter.unusedSimpArgs false
namespace Go.Proofs.YtfdjcakgolenbaaGreat
open Go.RowKit
inductive Ent where
 | row (T size : Nat) (A : Option Addr) (c : Nat) (css : List (List Value))
 | box (g T : Nat) (cs : List Value)
 | ro (size : Nat) (A : Option Addr) (css : List (List Value))
def Ent.ok (w : World) (base : Nat) : Ent → Prop
 | .row T size A c css => OwnS w base T size A c css
 | .box g T cs => base ≤ g ∧ w.heap[g]? = some (.cells cs.toArray T (0, 0))
 | .ro size A css => Rd w w.heap.size size A css ∧ ∀ a, A = some a → base ≤ a.block ∧ a.block < w.heap.size
def Ent.blk : Ent → Option Nat
 | .row _ _ A _ _ => A.map (·.block)
 | .box g _ _ => some g
 | .ro _ A _ => A.map (·.block)
theorem Ent.lt {w : World} {base b : Nat} {e : Ent} (h : e.ok w base) (hb : e.blk = some b) : base ≤ b ∧ b < w.heap.size := by
 cases e with
 | row T size A c css =>
  obtain ⟨a, ha, rfl⟩ := Option.map_eq_some_iff.1 hb
  exact OwnS.lt h ha
 | box g T cs =>
  injection hb with hb
  subst hb
  exact ⟨h.1, (Array.getElem?_eq_some_iff.1 h.2).1⟩
 | ro size A css =>
  obtain ⟨a, ha, rfl⟩ := Option.map_eq_some_iff.1 hb
  exact h.2 a ha
theorem cell_same {w w' : World} {g p : Nat} (h : w'.heap[g]? = w.heap[g]?) : w'.cell? ⟨g, p, .none⟩ = w.cell? ⟨g, p, .none⟩ := by simp only [World.cell?, h]
theorem Rd.keep {w w' : World} {size : Nat} {A : Option Addr} {css : List (List Value)} (h : Rd w w.heap.size size A css) (hk : ∀ a, A = some a → w'.heap[a.block]? = w.heap[a.block]?) : Rd w' w'.heap.size size A css := by
 intro k cs hkc
 obtain ⟨g, off, e, hlt, hl, hc⟩ := h k cs hkc
 have h1 := hk _ e
 have hlt' : g < w'.heap.size := by
  rcases Nat.lt_or_ge g w'.heap.size with h2 | h2
  · exact h2
  · rw [Array.getElem?_eq_none h2, Array.getElem?_eq_getElem hlt] at h1
    cases h1
 exact ⟨g, off, e, hlt', hl, fun j u hu => by rw [cell_same h1]; exact hc j u hu⟩
theorem Ent.keep {w w' : World} {base : Nat} {e : Ent} (h : e.ok w base) (hk : ∀ b, e.blk = some b → w'.heap[b]? = w.heap[b]?) : e.ok w' base := by
 cases e with
 | ro size A css =>
  refine ⟨Rd.keep h.1 fun a ha => hk _ (by simp [Ent.blk, ha]), fun a ha => ⟨(h.2 a ha).1, ?_⟩⟩
  have h1 := hk a.block (by simp [Ent.blk, ha])
  rcases Nat.lt_or_ge a.block w'.heap.size with h2 | h2
  · exact h2
  · rw [Array.getElem?_eq_none h2, Array.getElem?_eq_getElem (h.2 a ha).2] at h1
    cases h1
 | row T size A c css => exact OwnS.keep h fun a ha => hk _ (by simp [Ent.blk, ha])
 | box g T cs => exact ⟨h.1, (hk g rfl).trans h.2⟩
theorem Ent.less {w : World} {base b : Nat} {e : Ent} (h : e.ok w base) (hb : b ≤ base) : e.ok w b := by
 cases e with
 | row T size A c css => exact OwnS.base_le h hb
 | box g T cs => exact ⟨Nat.le_trans hb h.1, h.2⟩
 | ro size A css => exact ⟨h.1, fun a ha => ⟨Nat.le_trans hb (h.2 a ha).1, (h.2 a ha).2⟩⟩
def Ent.far (e f : Ent) : Prop := ∀ b, e.blk = some b → f.blk ≠ some b
theorem Ent.far.symm {e f : Ent} (h : e.far f) : f.far e := fun b hb hc => h b hc hb
structure Mem (w0 w : World) (M : List Ent) : Prop where
 from_ : From w0 w
 ok : ∀ e ∈ M, e.ok w w0.heap.size
 apart : M.Pairwise Ent.far
theorem Mem.nil (w : World) : Mem w w [] := ⟨Below.refl _ _, fun _ h => (by cases h), .nil⟩
theorem Mem.call {w0 w w' : World} {M : List Ent} (h : Mem w0 w M) (hb : From w w') : Mem w0 w' M :=
 ⟨h.from_.trans (hb.mono h.from_.size), fun e he => Ent.keep (h.ok e he) fun _ hb' => hb.block _ (Ent.lt (h.ok e he) hb').2, h.apart⟩
theorem Mem.sub {w0 w : World} {M M' : List Ent} (h : Mem w0 w M) (hs : M'.Sublist M) : Mem w0 w M' := ⟨h.from_, fun e he => h.ok e (hs.subset he), h.apart.sublist hs⟩
theorem Mem.add {w0 w w' : World} {M : List Ent} (h : Mem w0 w M) (hb : From w w') (e : Ent) (he : e.ok w' w.heap.size) : Mem w0 w' (e :: M) := by
 have h1 := h.call hb
 refine ⟨h1.from_, fun f hf => ?_, List.pairwise_cons.2 ⟨fun f hf b hb1 hb2 => ?_, h1.apart⟩⟩
 · rcases List.mem_cons.1 hf with rfl | hf
   · exact Ent.less he h.from_.size
   · exact h1.ok f hf
 · have h2 := (Ent.lt he hb1).1
   have h3 := (Ent.lt (h.ok f hf) hb2).2
   omega
theorem Mem.none {w0 w : World} {M : List Ent} (h : Mem w0 w M) (T size : Nat) : Mem w0 w (.row T size none 0 [] :: M) :=
 h.add (Below.refl _ _) _ (OwnS.nil _ _ _ _)
theorem Mem.alloc {w0 w : World} {M : List Ent} (h : Mem w0 w M) (T : Nat) (cs : List Value) : Mem w0 (w.alloc (.cells cs.toArray T)) (.box w.heap.size T cs :: M) :=
 h.add ((Below.refl _ _).alloc (Nat.le_refl _) _) _ ⟨Nat.le_refl _, heap_alloc_new w _⟩
theorem Mem.any {w0 w : World} {M : List Ent} (h : Mem w0 w M) (o : Obj) : Mem w0 (w.alloc o) M := h.call ((Below.refl _ _).alloc (Nat.le_refl _) _)
theorem set_pair {e : Ent} : ∀ {M : List Ent} {i : Nat}, i < M.length → M.Pairwise Ent.far → (∀ j f, j ≠ i → M[j]? = some f → e.far f) → (M.set i e).Pairwise Ent.far
 | [], _, hi, _, _ => by cases hi
 | f :: M, 0, _, hp, h => by
  rw [List.set_cons_zero]
  have h1 := List.pairwise_cons.1 hp
  refine List.pairwise_cons.2 ⟨fun g hg => ?_, h1.2⟩
  obtain ⟨j, hj⟩ := List.mem_iff_getElem?.1 hg
  exact h (j + 1) g (by omega) (by simpa using hj)
 | f :: M, i + 1, hi, hp, h => by
  rw [List.set_cons_succ]
  have h1 := List.pairwise_cons.1 hp
  refine List.pairwise_cons.2 ⟨fun g hg => ?_, set_pair (by simpa using hi) h1.2 fun j f' hj hf => h (j + 1) f' (by omega) (by simpa using hf)⟩
  rcases List.mem_or_eq_of_mem_set hg with hg | rfl
  · exact h1.1 g hg
  · exact (h 0 f (by omega) (by simp)).symm
theorem pair_ne {M : List Ent} (hp : M.Pairwise Ent.far) {i j : Nat} {e f : Ent} (hi : M[i]? = some e) (hj : M[j]? = some f) (hij : i ≠ j) : e.far f := by
 obtain ⟨hi1, hi2⟩ := List.getElem?_eq_some_iff.1 hi
 obtain ⟨hj1, hj2⟩ := List.getElem?_eq_some_iff.1 hj
 rw [List.pairwise_iff_getElem] at hp
 rcases Nat.lt_or_gt_of_ne hij with h | h
 · have := hp i j hi1 hj1 h
   rwa [hi2, hj2] at this
 · have := hp j i hj1 hi1 h
   rw [hi2, hj2] at this
   exact this.symm
theorem Mem.put {w0 w w' : World} {M : List Ent} (h : Mem w0 w M) (i : Nat) {e : Ent} (e' : Ent) (hi : M[i]? = some e) (hg : w.grownBy w' e.blk) (he : e'.ok w' w0.heap.size) (hbl : e'.blk = e.blk ∨ ∀ b, e'.blk = some b → w.heap.size ≤ b) : Mem w0 w' (M.set i e') := by
 have hlt : i < M.length := (List.getElem?_eq_some_iff.1 hi).1
 have hek := h.ok e (List.mem_of_getElem? hi)
 refine ⟨h.from_.grown hg h.from_.size fun k hk => (Ent.lt hek hk).1, fun f hf => ?_, set_pair hlt h.apart fun j f hj hf b hb1 hb2 => ?_⟩
 · obtain ⟨j, hj⟩ := List.mem_iff_getElem?.1 hf
   rw [List.getElem?_set] at hj
   split at hj
   · injection hj with hj
     subst hj
     exact he
   · rename_i hne
     have hfk := h.ok f (List.mem_of_getElem? hj)
     refine Ent.keep hfk fun b hb => hg.block b (Ent.lt hfk hb).2 fun hc => ?_
     exact pair_ne h.apart hi hj hne b hc.symm hb
 · have hfk := h.ok f (List.mem_of_getElem? hf)
   rcases hbl with hbl | hbl
   · rw [hbl] at hb1
     exact pair_ne h.apart hi hf (fun e => hj e.symm) b hb1 hb2
   · have h1 := hbl b hb1
     have h2 := (Ent.lt hfk hb2).2
     omega
theorem Mem.own {w0 w : World} {M : List Ent} (h : Mem w0 w M) {i : Nat} {T size : Nat} {A : Option Addr} {c : Nat} {css : List (List Value)} (hi : M[i]? = some (.row T size A c css)) : OwnS w w0.heap.size T size A c css := h.ok _ (List.mem_of_getElem? hi)
theorem Mem.cells {w0 w : World} {M : List Ent} (h : Mem w0 w M) {i g T : Nat} {cs : List Value} (hi : M[i]? = some (.box g T cs)) : w.heap[g]? = some (.cells cs.toArray T (0, 0)) := (h.ok _ (List.mem_of_getElem? hi)).2
theorem Mem.boxlt {w0 w : World} {M : List Ent} (h : Mem w0 w M) {i g T : Nat} {cs : List Value} (hi : M[i]? = some (.box g T cs)) : w0.heap.size ≤ g ∧ g < w.heap.size := Ent.lt (h.ok _ (List.mem_of_getElem? hi)) rfl
theorem Mem.ldb {w0 w : World} {M : List Ent} (h : Mem w0 w M) {i g T n : Nat} {cs : List Value} (hT : IsRow Tryz.prog T n) (hn : cs.length = n) (hi : M[i]? = some (.box g T cs)) (w1 : World) (hb : From w w1) : (loadVar T ⟨g, 0, .none⟩).run Tryz.prog w1 = .ok (.agg cs.toArray) w1 := by
 have h1 := own_box (base := 0) (h.cells hi) hn (Nat.zero_le _)
 exact own_row hT h1 (i := 0) (cs := cs) rfl (p := 0) (by omega) w1 hb
def cellT (P : Program) (T : Nat) : Bool :=
 match P.underlying T with
 | some (.struct _) => false
 | some (.array _ _) => false
 | some _ => true
 | _ => false
theorem run_load_one {P : Program} {w : World} {T : Nat} {ad : Addr} {v : Value} (hT : cellT P T = true) (h : w.cell? ad = some v) : (loadVar T ad).run P w = .ok v w := by
 unfold cellT at hT
 cases hd : P.underlying T with
 | none => rw [hd] at hT; cases hT
 | some d => exact run_load_cell hd (by rw [hd] at hT; cases d <;> first | rfl | cases hT) h
theorem Mem.ldc {w0 w : World} {M : List Ent} (h : Mem w0 w M) {i g T j T1 : Nat} {cs : List Value} {v : Value} (hT : cellT Tryz.prog T1 = true) (hi : M[i]? = some (.box g T cs)) (hj : cs[j]? = some v) (w1 : World) (hb : From w w1) : (loadVar T1 ⟨g, j, .none⟩).run Tryz.prog w1 = .ok v w1 := by
 have h1 := h.cells hi
 have h2 : w1.heap[g]? = some (.cells cs.toArray T (0, 0)) := (hb.block g (h.boxlt hi).2).trans h1
 refine run_load_one hT ?_
 rw [cell_of_row w1 g j _ _ _ h2]
 simpa using hj
theorem Rd.cell {P : Program} {w w1 : World} {B g off size k j T1 : Nat} {css : List (List Value)} {cs : List Value} {v : Value} (h : Rd w B size (some ⟨g, off, none⟩) css) (hb : Below B w w1) (hT : cellT P T1 = true) (hk : css[k]? = some cs) (hj : cs[j]? = some v) {p : Nat} (hp : p = off + k * size + j) : (loadVar T1 ⟨g, p, none⟩).run P w1 = .ok v w1 := by
 subst hp
 obtain ⟨b, off', e, hlt, _, hc⟩ := h k cs hk
 simp only [Option.some.injEq, Addr.mk.injEq, and_true] at e
 obtain ⟨rfl, rfl⟩ := e
 refine run_load_one hT ?_
 rw [cell_same (hb.block _ hlt)]
 exact hc j _ hj
theorem Rd.row {P : Program} {w w1 : World} {B g off size k T : Nat} {css : List (List Value)} {cs : List Value} (h : Rd w B size (some ⟨g, off, none⟩) css) (hb : Below B w w1) (hT : IsRow P T size) (hk : css[k]? = some cs) {p : Nat} (hp : p = off + k * size) : (loadVar T ⟨g, p, none⟩).run P w1 = .ok (.agg cs.toArray) w1 := by
 subst hp
 obtain ⟨b, o, e, _, hl⟩ := h.ld hT hk
 simp only [Option.some.injEq, Addr.mk.injEq, and_true] at e
 obtain ⟨rfl, rfl⟩ := e
 exact hl w1 hb
theorem Rd.bound {w : World} {B size : Nat} {A : Option Addr} {css : List (List Value)} (h : Rd w B size A css) (hn : css ≠ []) : ∀ a, A = some a → a.block < B := by
 intro a ha
 obtain ⟨cs, css', rfl⟩ := List.exists_cons_of_ne_nil hn
 obtain ⟨g, off, e, hlt, _, _⟩ := h 0 cs rfl
 rw [ha] at e
 injection e with e
 subst e
 exact hlt
theorem wpList_stB {w0 w : World} {M : List Ent} {ops : Array Oper} {rest : List Oper} {o : Oper} {a : Act} {Q : Exit → Act → World → Prop} {T g n : Nat} {cs cs' : List Value} {v : Value} (hgd : o.guard = none) (x y : Operand) (ho : o.op = .store T x y) (H : Mem w0 w M) (i : Nat) (hi : M[i]? = some (.box g T cs))
 (hx : a.eval x = .pointer (some ⟨g, 0, .none⟩)) (hy : a.eval y = v) (hsz : (Tryz.prog.info? T).map (·.size) = some n) (hv : v.cells.toList = cs') (hl' : cs'.length = n) (hl : cs.length = n) (h1 : ∀ u ∈ cs', u.oneCell' = true)
 (h : ∀ w', Mem w0 w' (M.set i (.box g T cs')) → wpList Tryz.prog ops Q rest (a.put o.dst undef) w') : wpList Tryz.prog ops Q (o :: rest) a w := by
 refine wpList_st (cs := cs') hgd x y ho hx hy hsz hv hl' (H.cells hi) (by simp [hl]) h1 fun cur' w' hc hs hg' hgr => h w' (H.put i (.box g T cs') hi hgr ⟨(H.boxlt hi).1, ?_⟩ (.inl rfl))
 have : cur' = cs'.toArray := by
  apply Array.ext'
  rw [hc]
  simp [hl]
 rw [← this]
 exact hg'
theorem Mem.tail {w0 w : World} {e : Ent} {M : List Ent} (h : Mem w0 w (e :: M)) : Mem w0 w M := h.sub (List.sublist_cons_self _ _)
theorem g_bld {P : Program} {w : World} {ops : Array Oper} {rest : List Oper} {a : Act} {Q : Exit → Act → World → Prop} (T : Nat) {ps : Array (Nat × Operand)} {d : Option Nat} {ty : TypeId} {pos : String} {aft : Array Edge} {gd : Option (Nat × Bool)}
 (h : wpList P ops Q (⟨d, .build T ps, ty, pos, aft, gd⟩ :: rest) a w) : wpList P ops Q (⟨d, .build T ps, ty, pos, aft, gd⟩ :: rest) a w := h
theorem wpList_val {P : Program} {w : World} {ops : Array Oper} {rest : List Oper} {o : Oper} {a : Act} {Q : Exit → Act → World → Prop} (hgd : o.guard = none) (v : Value) (hr : (execOp a.eval o).run P w = .ok (.value v) w) (h : wpList P ops Q rest (a.put o.dst v) w) : wpList P ops Q (o :: rest) a w := by
 refine wpList_plain hgd fun K hK => ?_
 unfold Oper.wp
 rw [hr]
 exact hK _ _ h
end Go.Proofs.YtfdjcakgolenbaaGreat
namespace Go.Proofs.YtfdjcakgolenbaaGreat
open Go.MapKept
inductive Kx where
 | i (k : IntKind) (n : Int)
 | f (p : Bool)
 | s (x : ByteArray)
deriving DecidableEq
def Kx.val : Kx → Value
 | .i k n => .int k n
 | .f p => .bool p
 | .s x => .string x
inductive Lk where
 | int (k : IntKind) | bool | str
deriving DecidableEq
def Lk.desc : Lk → TypeDesc
 | .int k => .int k
 | .bool => .bool
 | .str => .string
def Lk.fits : Lk → Kx → Bool
 | .int k, .i k' _ => decide (k = k')
 | .bool, .f _ => true
 | .str, .s _ => true
 | _, _ => false
def fitsL : List Lk → List Kx → Bool
 | [], [] => true
 | l :: ls, x :: xs => l.fits x && fitsL ls xs
 | _, _ => false
inductive Kc where
 | one (l : Lk)
 | arr (n : Nat) (l : Lk)
 | st (ls : List Lk)
deriving DecidableEq
def Kc.ls : Kc → List Lk
 | .one l => [l]
 | .arr n l => List.replicate n l
 | .st ls => ls
def Kc.val (c : Kc) (l : List Kx) : Value := match c, l with
 | .one _, [x] => x.val
 | _, l => .agg (l.map Kx.val).toArray
def leafB (P : Program) (e : TypeId) (l : Lk) : Bool := match P.underlying e, l with
 | some (.int k), .int k' => decide (k = k')
 | some .bool, .bool => true
 | some .string, .str => true
 | _, _ => false
def kfB (P : Program) : Nat → List Field → List Lk → Bool
 | _, [], [] => true
 | n, f :: fs, l :: ls => f.offset == n && f.name != "_" && leafB P f.type l && kfB P (n + 1) fs ls
 | _, _, _ => false
def kcB (P : Program) (kt : TypeId) : Kc → Bool
 | .one l => leafB P kt l
 | .arr n l => match P.underlying kt with
  | some (.array n' e) => n == n' && leafB P e l && (match P.info? e with | some i => i.size == 1 && P.cellsOf e == 1 | none => false)
  | _ => false
 | .st ls => match P.underlying kt with
  | some (.struct fs) => kfB P 0 fs.toList ls && !P.stoodInHeld kt
  | _ => false
section
variable {P : Program} {w : World}
theorem kc_arr {kt : TypeId} {n : Nat} {l : Lk} (h : kcB P kt (.arr n l) = true) : ∃ e i, P.underlying kt = some (.array n e) ∧ leafB P e l = true ∧ P.info? e = some i ∧ P.cellsOf e = 1 := by
 simp only [kcB] at h
 split at h
 · rename_i n' e hu
   simp only [Bool.and_eq_true, beq_iff_eq] at h
   obtain ⟨⟨rfl, hl⟩, h⟩ := h
   split at h
   · rename_i i hi
     simp only [Bool.and_eq_true, beq_iff_eq] at h
     exact ⟨e, i, hu, hl, hi, h.2⟩
   · cases h
 · cases h
theorem kc_st {kt : TypeId} {ls : List Lk} (h : kcB P kt (.st ls) = true) : ∃ fs, P.underlying kt = some (.struct fs) ∧ kfB P 0 fs.toList ls = true ∧ P.stoodInHeld kt = false := by
 simp only [kcB] at h
 split at h
 · rename_i fs hu
   simp only [Bool.and_eq_true, Bool.not_eq_true'] at h
   exact ⟨fs, hu, h⟩
 · cases h
theorem leaf_desc {e : TypeId} {l : Lk} (h : leafB P e l = true) : P.underlying e = some l.desc := by
 unfold leafB at h
 split at h <;> simp_all [Lk.desc]
theorem leaf_plain {e : TypeId} {l : Lk} (h : leafB P e l = true) : P.plainKey e = true := by
 have := leaf_desc h
 unfold Program.plainKey
 rw [this]
 cases l <;> rfl
theorem leaf_eq {e : TypeId} {l : Lk} {x y : Kx} (h : leafB P e l = true) (hx : l.fits x = true) (hy : l.fits y = true) (d : Nat) : (Op.equalIn (d + 1) e x.val y.val).run P w = .ok (decide (x = y)) w := by
 have hd := leaf_desc h
 cases l <;> cases x <;> simp only [Lk.fits, Bool.false_eq_true, decide_eq_true_eq] at hx <;> cases y <;> simp only [Lk.fits, Bool.false_eq_true, decide_eq_true_eq] at hy
 · rename_i k _ m _ n
   subst hx; subst hy
   show (Op.equalIn (d + 1) e (.int _ m) (.int _ n)).run P w = _
   rw [run_equalIn_int w d e _ _ m n hd]
   congr 1
   rw [Bool.eq_iff_iff]
   simp
 · rename_i a b
   show (Op.equalIn (d + 1) e (.bool a) (.bool b)).run P w = _
   rw [run_equalIn_bool' w d e a b hd]
   congr 1
   rw [Bool.eq_iff_iff]
   simp
 · rename_i a b
   show (Op.equalIn (d + 1) e (.string a) (.string b)).run P w = _
   rw [run_equalIn_string w d e a b hd]
   congr 1
   rw [← beq_toListBytes, Bool.eq_iff_iff, bytes_beq]
   simp
theorem leaf_check {e : TypeId} {l : Lk} {x : Kx} (h : leafB P e l = true) (hx : l.fits x = true) (em : Bool) (n : Nat) : (Instr.checkKey em (n + 1) e x.val).run P w = .ok () w := by
 have hd := leaf_desc h
 cases l <;> cases x <;> simp only [Lk.fits, Bool.false_eq_true, decide_eq_true_eq] at hx <;> simp [Instr.checkKey, run_underlying hd, Lk.desc, Kx.val]
theorem getL {l : List Kx} {n : Nat} {x : Kx} (h : l[n]? = some x) : (l.map Kx.val).toArray[n]? = some x.val := by simp [h]
theorem drop_cons {l : List Kx} {n : Nat} {x : Kx} {r : List Kx} (h : l.drop n = x :: r) : l[n]? = some x ∧ l.drop (n + 1) = r := by
 refine ⟨?_, ?_⟩
 · have := congrArg (·[0]?) h
   simpa using this
 · have := congrArg (List.drop 1) h
   simpa [List.drop_drop, Nat.add_comm] using this
theorem fitsL_cons {l : Lk} {ls : List Lk} {xs : List Kx} (h : fitsL (l :: ls) xs = true) : ∃ x r, xs = x :: r ∧ l.fits x = true ∧ fitsL ls r = true := by
 cases xs with
 | nil => simp [fitsL] at h
 | cons x r =>
  simp only [fitsL, Bool.and_eq_true] at h
  exact ⟨x, r, rfl, h⟩
theorem fitsL_nil {xs : List Kx} (h : fitsL [] xs = true) : xs = [] := by
 cases xs with
 | nil => rfl
 | cons x r => simp [fitsL] at h
theorem eq_fields (d : Nat) (a b : List Kx) : ∀ (fs : List Field) (ls : List Lk) (n : Nat), kfB P n fs ls = true → fitsL ls (a.drop n) = true → fitsL ls (b.drop n) = true →
 (Op.eqFields (d + 1) (a.map Kx.val).toArray (b.map Kx.val).toArray fs).run P w = .ok (decide (a.drop n = b.drop n)) w
 | [], [], n, _, ha, hb => by
  rw [fitsL_nil ha, fitsL_nil hb]
  simp [Op.eqFields]
 | f :: fs, l :: ls, n, h, ha, hb => by
  simp only [kfB, Bool.and_eq_true, beq_iff_eq, bne_iff_ne, ne_eq] at h
  obtain ⟨⟨⟨h1, h2⟩, h3⟩, h4⟩ := h
  obtain ⟨x, r, ex, hx, hr⟩ := fitsL_cons ha
  obtain ⟨y, s, ey, hy, hs⟩ := fitsL_cons hb
  obtain ⟨gx, dx⟩ := drop_cons ex
  obtain ⟨gy, dy⟩ := drop_cons ey
  have p1 : (part f.type (a.map Kx.val).toArray f.offset).run P w = .ok x.val w := run_part_plain w (leaf_plain h3) (getL (by rw [h1]; exact gx))
  have p2 : (part f.type (b.map Kx.val).toArray f.offset).run P w = .ok y.val w := run_part_plain w (leaf_plain h3) (getL (by rw [h1]; exact gy))
  have ih := eq_fields d a b fs ls (n + 1) h4 (by rw [dx]; exact hr) (by rw [dy]; exact hs)
  simp only [Op.eqFields, h2, ne_eq, not_false_eq_true, if_true, Sem.run_bind, p1, p2, Result.andThen_ok, leaf_eq h3 hx hy d, ex, ey]
  rw [dx, dy] at ih
  by_cases hxy : x = y
  · subst hxy
    simp only [decide_true, Bool.not_true, Bool.false_eq_true, if_false, ih, List.cons.injEq, true_and]
  · simp [hxy]
 | [], _ :: _, _, h, _, _ => by simp [kfB] at h
 | _ :: _, [], _, h, _, _ => by simp [kfB] at h
theorem eq_items (d : Nat) {e : TypeId} {l : Lk} (hl : leafB P e l = true) (hc : P.cellsOf e = 1) (a b : List Kx) : ∀ (m n : Nat), fitsL (List.replicate m l) (a.drop n) = true → fitsL (List.replicate m l) (b.drop n) = true →
 (Op.eqItems (d + 1) e (P.cellsOf e) (a.map Kx.val).toArray (b.map Kx.val).toArray (List.range' n m)).run P w = .ok (decide (a.drop n = b.drop n)) w
 | 0, n, ha, hb => by
  rw [fitsL_nil ha, fitsL_nil hb]
  simp [Op.eqItems]
 | m + 1, n, ha, hb => by
  obtain ⟨x, r, ex, hx, hr⟩ := fitsL_cons ha
  obtain ⟨y, s, ey, hy, hs⟩ := fitsL_cons hb
  obtain ⟨gx, dx⟩ := drop_cons ex
  obtain ⟨gy, dy⟩ := drop_cons ey
  have p1 : (part e (a.map Kx.val).toArray (n * P.cellsOf e)).run P w = .ok x.val w := run_part_plain w (leaf_plain hl) (getL (by rw [hc, Nat.mul_one]; exact gx))
  have p2 : (part e (b.map Kx.val).toArray (n * P.cellsOf e)).run P w = .ok y.val w := run_part_plain w (leaf_plain hl) (getL (by rw [hc, Nat.mul_one]; exact gy))
  have ih := eq_items d hl hc a b m (n + 1) (by rw [dx]; exact hr) (by rw [dy]; exact hs)
  rw [List.range'_succ]
  simp only [Op.eqItems, Sem.run_bind, p1, p2, Result.andThen_ok, leaf_eq hl hx hy d, ex, ey]
  rw [dx, dy] at ih
  by_cases hxy : x = y
  · subst hxy
    simp only [decide_true, Bool.not_true, Bool.false_eq_true, if_false, ih, List.cons.injEq, true_and]
  · simp [hxy]
theorem check_fields (em : Bool) (d : Nat) (a : List Kx) : ∀ (fs : List Field) (ls : List Lk) (n : Nat), kfB P n fs ls = true → fitsL ls (a.drop n) = true →
 (forIn fs PUnit.unit fun f _ => (if f.name ≠ "_" then do
  let v ← part f.type (a.map Kx.val).toArray f.offset
  Instr.checkKey em (d + 1) f.type v
  pure (ForInStep.yield PUnit.unit)
  else pure (ForInStep.yield PUnit.unit) : Sem (ForInStep PUnit))).run P w = .ok PUnit.unit w
 | [], [], n, _, ha => by simp
 | f :: fs, l :: ls, n, h, ha => by
  simp only [kfB, Bool.and_eq_true, beq_iff_eq, bne_iff_ne, ne_eq] at h
  obtain ⟨⟨⟨h1, h2⟩, h3⟩, h4⟩ := h
  obtain ⟨x, r, ex, hx, hr⟩ := fitsL_cons ha
  obtain ⟨gx, dx⟩ := drop_cons ex
  have p1 : (part f.type (a.map Kx.val).toArray f.offset).run P w = .ok x.val w := run_part_plain w (leaf_plain h3) (getL (by rw [h1]; exact gx))
  have ih := check_fields em d a fs ls (n + 1) h4 (by rw [dx]; exact hr)
  simp only [List.forIn_cons, h2, ne_eq, not_false_eq_true, if_true, Sem.run_bind, p1, Result.andThen_ok, leaf_check h3 hx em d, Sem.run_pure]
  exact ih
 | [], _ :: _, _, h, _ => by simp [kfB] at h
 | _ :: _, [], _, h, _ => by simp [kfB] at h
theorem key_check {kt : TypeId} {c : Kc} {a : List Kx} (h : kcB P kt c = true) (ha : fitsL c.ls a = true) (em : Bool) : (Instr.checkKey em 10000 kt (c.val a)).run P w = .ok () w := by
 cases c with
 | one l =>
  obtain ⟨x, r, rfl, hx, hr⟩ := fitsL_cons ha
  cases fitsL_nil hr
  exact leaf_check h hx em 9999
 | arr n l =>
  obtain ⟨e, i, hu, hl, hi, hc⟩ := kc_arr h
  show (Instr.checkKey em (9999 + 1) kt (.agg (a.map Kx.val).toArray)).run P w = .ok () w
  rw [Instr.checkKey]
  simp only [Sem.run_bind, run_underlying hu, Result.andThen_ok]
  simp only [Std.Legacy.Range.forIn_eq_forIn_range', Std.Legacy.Range.size, Nat.sub_zero, Nat.add_one_sub_one, Nat.div_one]
  have H : ∀ (m k : Nat), fitsL (List.replicate m l) (a.drop k) = true → (forIn (List.range' k m) PUnit.unit fun j _ => (do
   let sz ← sizeOf e
   let v ← part e (a.map Kx.val).toArray (j * sz)
   Instr.checkKey em 9999 e v
   pure (ForInStep.yield PUnit.unit) : Sem (ForInStep PUnit))).run P w = .ok PUnit.unit w := by
   intro m
   induction m with
   | zero => intro k _; simp
   | succ m ih =>
    intro k hk
    obtain ⟨x, r, ex, hx, hr⟩ := fitsL_cons hk
    obtain ⟨gx, dx⟩ := drop_cons ex
    have p1 : (part e (a.map Kx.val).toArray (k * P.cellsOf e)).run P w = .ok x.val w := run_part_plain w (leaf_plain hl) (getL (by rw [hc, Nat.mul_one]; exact gx))
    rw [List.range'_succ]
    simp only [List.forIn_cons, Sem.run_bind, run_sizeOf w hi, Result.andThen_ok, p1, leaf_check hl hx em 9998, Sem.run_pure]
    exact ih (k + 1) (by rw [dx]; exact hr)
  rw [H n 0 (by simpa [Kc.ls] using ha)]
  rfl
 | st ls =>
  obtain ⟨fs, hu, hf, hst⟩ := kc_st h
  show (Instr.checkKey em (9999 + 1) kt (.agg (a.map Kx.val).toArray)).run P w = .ok () w
  rw [Instr.checkKey]
  simp only [Sem.run_bind, run_underlying hu, Result.andThen_ok]
  rw [← Array.forIn_toList]
  rw [check_fields em 9998 a fs.toList ls 0 hf (by simpa [Kc.ls] using ha)]
  rfl
theorem key_equal {kt : TypeId} {c : Kc} {a b : List Kx} (h : kcB P kt c = true) (ha : fitsL c.ls a = true) (hb : fitsL c.ls b = true) : (Op.equal kt (c.val a) (c.val b)).run P w = .ok (decide (a = b)) w := by
 cases c with
 | one l =>
  obtain ⟨x, r, rfl, hx, hr⟩ := fitsL_cons ha
  cases fitsL_nil hr
  obtain ⟨y, s, rfl, hy, hs⟩ := fitsL_cons hb
  cases fitsL_nil hs
  refine (leaf_eq h hx hy 9999).trans ?_
  simp
 | arr n l =>
  obtain ⟨e, i, hu, hl, hi, hc⟩ := kc_arr h
  refine (run_equalIn_array w 9999 _ _ hu hi).trans ?_
  rw [List.range_eq_range']
  exact eq_items 9998 hl hc a b n 0 (by simpa [Kc.ls] using ha) (by simpa [Kc.ls] using hb)
 | st ls =>
  obtain ⟨fs, hu, hf, hst⟩ := kc_st h
  have hfs : P.fieldsOf kt = fs := by simp [Program.fieldsOf, hu]
  refine (run_equalIn_struct w 9999 kt _ _ (by rw [hfs]; exact hu) hst).trans ?_
  rw [hfs]
  exact eq_fields 9998 a b fs.toList ls 0 hf (by simpa [Kc.ls] using ha) (by simpa [Kc.ls] using hb)
theorem kval_inj {x y : Kx} (h : x.val = y.val) : x = y := by cases x <;> cases y <;> simp_all [Kx.val]
theorem key_inj {c : Kc} {a b : List Kx} (ha : fitsL c.ls a = true) (hb : fitsL c.ls b = true) (h : c.val a = c.val b) : a = b := by
 have hm : ∀ {a b : List Kx}, a.map Kx.val = b.map Kx.val → a = b := by
  intro a
  induction a with
  | nil => intro b h; cases b with
   | nil => rfl
   | cons y b => simp at h
  | cons x a ih =>
   intro b h
   cases b with
   | nil => simp at h
   | cons y b =>
    simp only [List.map_cons, List.cons.injEq] at h
    rw [kval_inj h.1, ih h.2]
 cases c with
 | one l =>
  obtain ⟨x, r, rfl, hx, hr⟩ := fitsL_cons ha
  cases fitsL_nil hr
  obtain ⟨y, s, rfl, hy, hs⟩ := fitsL_cons hb
  cases fitsL_nil hs
  rw [kval_inj h]
 | arr n l =>
  simp only [Kc.val, Value.agg.injEq] at h
  exact hm (List.toArray_inj h)
 | st ls =>
  simp only [Kc.val, Value.agg.injEq] at h
  exact hm (List.toArray_inj h)
theorem bits_self (x : Kx) (n : Nat) : Instr.sameBits n x.val x.val = true := by
 have hb : ∀ y : ByteArray, (y == y) = true := fun y => (bytes_beq y y).2 rfl
 cases x <;> cases n <;> simp [Kx.val, Instr.sameBits, hb]
theorem key_stays {c : Kc} {a : List Kx} (ha : fitsL c.ls a = true) : (Instr.keyThatStays (c.val a) (c.val a)).run P w = .ok (c.val a) w := by
 have hb : Instr.sameBits (9999 + 1) (c.val a) (c.val a) = true := by
  have hg : Instr.sameBits (9999 + 1) (.agg (a.map Kx.val).toArray) (.agg (a.map Kx.val).toArray) = true := by
   simp only [Instr.sameBits, BEq.rfl, Bool.true_and, List.all_eq_true]
   intro p hp
   obtain ⟨i, hi⟩ := List.getElem?_of_mem hp
   simp only [List.getElem?_zip_eq_some] at hi
   obtain ⟨h1, h2⟩ := hi
   rw [h1] at h2
   injection h2 with h2
   have hm := List.mem_of_getElem? h1
   simp only [List.mem_map] at hm
   obtain ⟨x, _, hx⟩ := hm
   obtain ⟨p1, p2⟩ := p
   simp only at h2 hx ⊢
   subst h2; subst hx
   exact bits_self x 9999
  cases c with
  | one l =>
   obtain ⟨x, r, rfl, hx, hr⟩ := fitsL_cons ha
   cases fitsL_nil hr
   exact bits_self x _
  | arr n l => exact hg
  | st ls => exact hg
 unfold Instr.keyThatStays
 rw [if_pos hb]
 rfl
def keyIs (c : Kc) (v : Value) (a : List Kx) : Prop := v = c.val a ∧ fitsL c.ls a = true
theorem key_find {kt : TypeId} {c : Kc} {a : List Kx} (h : kcB P kt c = true) (ha : fitsL c.ls a = true) (es : List MapEntry) (hes : ∀ e ∈ es, ∃ b, keyIs c e.key b) :
 ((Instr.findKey kt (c.val a) es).run P w = .ok none w ∧ ∀ e ∈ es, ¬ keyIs c e.key a) ∨
 ∃ j e, (Instr.findKey kt (c.val a) es).run P w = .ok (some (j, e.val)) w ∧ es[j]? = some e ∧ keyIs c e.key a := by
 have ask : ∀ (es : List MapEntry) (i : Nat), (∀ e ∈ es, ∃ b, keyIs c e.key b) → ((Instr.findAsking kt (c.val a) es i).run P w = .ok none w ∧ ∀ e ∈ es, ¬ keyIs c e.key a) ∨
  ∃ j e, (Instr.findAsking kt (c.val a) es i).run P w = .ok (some (i + j, e.val)) w ∧ es[j]? = some e ∧ keyIs c e.key a := by
  intro es
  induction es with
  | nil => intro i _; exact .inl ⟨by simp [Instr.findAsking], by simp⟩
  | cons e es ih =>
   intro i hes
   obtain ⟨b, hb, hfb⟩ := hes e (by simp)
   have hr := key_equal (w := w) h ha hfb
   by_cases hab : a = b
   · subst hab
     refine .inr ⟨0, e, ?_, rfl, hb, hfb⟩
     simp only [Instr.findAsking, Sem.run_bind, hb, hr, Result.andThen_ok, decide_true, if_true, Sem.run_pure, Nat.add_zero]
   · have hne : ¬ keyIs c e.key a := fun h2 => hab (key_inj ha hfb (h2.1.symm.trans hb))
     have hdec : decide (a = b) = false := by simp [hab]
     rcases ih (i + 1) (fun y hy => hes y (by simp [hy])) with ⟨h1, h2⟩ | ⟨j, e', h1, h2, h3⟩
     · refine .inl ⟨?_, fun y hy => ?_⟩
       · simp only [Instr.findAsking, Sem.run_bind, hb, hr, Result.andThen_ok, hdec, Bool.false_eq_true, if_false, h1]
       · rcases List.mem_cons.1 hy with rfl | hy
         · exact hne
         · exact h2 y hy
     · refine .inr ⟨j + 1, e', ?_, by simpa using h2, h3⟩
       simp only [Instr.findAsking, Sem.run_bind, hb, hr, Result.andThen_ok, hdec, Bool.false_eq_true, if_false, h1]
       rw [Nat.add_assoc, Nat.add_comm 1 j]
 have hu : ∃ d, P.underlying kt = some d := by
  cases c with
  | one l => exact ⟨_, leaf_desc h⟩
  | arr n l => obtain ⟨e, i, hu, _⟩ := kc_arr h; exact ⟨_, hu⟩
  | st ls => obtain ⟨fs, hu, _⟩ := kc_st h; exact ⟨_, hu⟩
 obtain ⟨d, hd⟩ := hu
 have hs : ∀ b, fitsL c.ls b = true → Instr.sameNow d (c.val a) (c.val b) = none ∨ Instr.sameNow d (c.val a) (c.val b) = some (decide (a = b)) := by
  intro b hb
  cases c with
  | one l =>
   obtain ⟨x, r, rfl, hx, hr⟩ := fitsL_cons ha
   cases fitsL_nil hr
   obtain ⟨y, s, rfl, hy, hs⟩ := fitsL_cons hb
   cases fitsL_nil hs
   right
   have := leaf_desc (P := P) (e := kt) (l := l) h
   rw [hd] at this
   cases this
   cases l <;> cases x <;> simp only [Lk.fits, Bool.false_eq_true, decide_eq_true_eq] at hx <;> cases y <;> simp only [Lk.fits, Bool.false_eq_true, decide_eq_true_eq] at hy
   · subst hx; subst hy
     simp only [Lk.desc, Kc.val, Kx.val, Instr.sameNow, if_true, Option.some.injEq]
     rw [Bool.eq_iff_iff]
     simp
   · simp only [Lk.desc, Kc.val, Kx.val, Instr.sameNow, Option.some.injEq]
     rw [Bool.eq_iff_iff]
     simp
   · simp only [Lk.desc, Kc.val, Kx.val, Instr.sameNow, Option.some.injEq]
     rw [Bool.eq_iff_iff, bytes_beq]
     simp
  | arr n l => left; simp only [Kc.val]; unfold Instr.sameNow; split <;> simp_all
  | st ls => left; simp only [Kc.val]; unfold Instr.sameNow; split <;> simp_all
 have now : ∀ (es : List MapEntry) (i : Nat), (∀ e ∈ es, ∃ b, keyIs c e.key b) → Instr.findNow d (c.val a) es i = none ∨ (Instr.findNow d (c.val a) es i = some none ∧ ∀ e ∈ es, ¬ keyIs c e.key a) ∨
  ∃ j e, Instr.findNow d (c.val a) es i = some (some (i + j, e.val)) ∧ es[j]? = some e ∧ keyIs c e.key a := by
  intro es
  induction es with
  | nil => intro i _; exact .inr (.inl ⟨rfl, by simp⟩)
  | cons e es ih =>
   intro i hes
   obtain ⟨b, hb, hfb⟩ := hes e (by simp)
   rcases hs b hfb with h1 | h1
   · left
     simp only [Instr.findNow, hb, h1]
   · by_cases hab : a = b
     · subst hab
       refine .inr (.inr ⟨0, e, ?_, rfl, hb, hfb⟩)
       simp only [Instr.findNow, hb, h1, decide_true, Nat.add_zero]
     · have hne : ¬ keyIs c e.key a := fun h2 => hab (key_inj ha hfb (h2.1.symm.trans hb))
       have hdec : decide (a = b) = false := by simp [hab]
       rw [hdec] at h1
       rcases ih (i + 1) (fun y hy => hes y (by simp [hy])) with h2 | ⟨h2, h3⟩ | ⟨j, e', h2, h3, h4⟩
       · left
         simp only [Instr.findNow, hb, h1, h2]
       · refine .inr (.inl ⟨?_, fun y hy => ?_⟩)
         · simp only [Instr.findNow, hb, h1, h2]
         · rcases List.mem_cons.1 hy with rfl | hy
           · exact hne
           · exact h3 y hy
       · refine .inr (.inr ⟨j + 1, e', ?_, by simpa using h3, h4⟩)
         simp only [Instr.findNow, hb, h1, h2]
         rw [Nat.add_assoc, Nat.add_comm 1 j]
 unfold Instr.findKey
 simp only [Sem.run_bind, run_underlying hd, Result.andThen_ok]
 rcases now es 0 hes with h1 | ⟨h1, h2⟩ | ⟨j, e, h1, h2, h3⟩
 · rw [h1]
   rcases ask es 0 hes with h2 | ⟨j, e, h2, h3, h4⟩
   · exact .inl h2
   · exact .inr ⟨j, e, by rw [Nat.zero_add] at h2; exact h2, h3, h4⟩
 · rw [h1]
   exact .inl ⟨rfl, h2⟩
 · rw [h1]
   exact .inr ⟨j, e, by rw [Nat.zero_add]; rfl, h2, h3⟩
end
end Go.Proofs.YtfdjcakgolenbaaGreat
