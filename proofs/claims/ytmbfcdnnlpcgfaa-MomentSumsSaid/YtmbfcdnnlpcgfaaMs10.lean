/-
  Keys of maps: flat ones (a number, a text, an array or a struct of numbers and bools); they are found by what they hold.
-/
import Derived.Test.YtmbfcdnnlpcgfaaMs9
import Derived.Maps.Keyed
import Derived.Maps.RangeRun
set_option linter.unusedVariables false
set_option linter.unusedSimpArgs false
namespace Go.Proofs.Ytmbfcdnnlpcgfaa
open Go.MapKept
inductive Kx where
 | i (k : IntKind) (n : Int)
 | f (p : Bool)
 | s (x : ByteArray)
deriving DecidableEq
def Kx.val : Kx → Value
 | .i k n => .int k n
 | .f p => .bool p
 | .s x => .string x
inductive Lk where
 | int (k : IntKind) | bool | str
deriving DecidableEq
def Lk.desc : Lk → TypeDesc
 | .int k => .int k
 | .bool => .bool
 | .str => .string
def Lk.fits : Lk → Kx → Bool
 | .int k, .i k' _ => decide (k = k')
 | .bool, .f _ => true
 | .str, .s _ => true
 | _, _ => false
def fitsL : List Lk → List Kx → Bool
 | [], [] => true
 | l :: ls, x :: xs => l.fits x && fitsL ls xs
 | _, _ => false
inductive Kc where
 | one (l : Lk)
 | arr (n : Nat) (l : Lk)
 | st (ls : List Lk)
deriving DecidableEq
def Kc.ls : Kc → List Lk
 | .one l => [l]
 | .arr n l => List.replicate n l
 | .st ls => ls
def Kc.val (c : Kc) (l : List Kx) : Value := match c, l with
 | .one _, [x] => x.val
 | _, l => .agg (l.map Kx.val).toArray
def leafB (P : Program) (e : TypeId) (l : Lk) : Bool := match P.underlying e, l with
 | some (.int k), .int k' => decide (k = k')
 | some .bool, .bool => true
 | some .string, .str => true
 | _, _ => false
def kfB (P : Program) : Nat → List Field → List Lk → Bool
 | _, [], [] => true
 | n, f :: fs, l :: ls => f.offset == n && f.name != "_" && leafB P f.type l && kfB P (n + 1) fs ls
 | _, _, _ => false
def kcB (P : Program) (kt : TypeId) : Kc → Bool
 | .one l => leafB P kt l
 | .arr n l => match P.underlying kt with
  | some (.array n' e) => n == n' && leafB P e l && (match P.info? e with | some i => i.size == 1 && P.cellsOf e == 1 | none => false)
  | _ => false
 | .st ls => match P.underlying kt with
  | some (.struct fs) => kfB P 0 fs.toList ls && !P.stoodInHeld kt
  | _ => false
section
variable {P : Program} {w : World}
theorem kc_arr {kt : TypeId} {n : Nat} {l : Lk} (h : kcB P kt (.arr n l) = true) : ∃ e i, P.underlying kt = some (.array n e) ∧ leafB P e l = true ∧ P.info? e = some i ∧ P.cellsOf e = 1 := by
 simp only [kcB] at h
 split at h
 · rename_i n' e hu
   simp only [Bool.and_eq_true, beq_iff_eq] at h
   obtain ⟨⟨rfl, hl⟩, h⟩ := h
   split at h
   · rename_i i hi
     simp only [Bool.and_eq_true, beq_iff_eq] at h
     exact ⟨e, i, hu, hl, hi, h.2⟩
   · cases h
 · cases h
theorem kc_st {kt : TypeId} {ls : List Lk} (h : kcB P kt (.st ls) = true) : ∃ fs, P.underlying kt = some (.struct fs) ∧ kfB P 0 fs.toList ls = true ∧ P.stoodInHeld kt = false := by
 simp only [kcB] at h
 split at h
 · rename_i fs hu
   simp only [Bool.and_eq_true, Bool.not_eq_true'] at h
   exact ⟨fs, hu, h⟩
 · cases h
theorem leaf_desc {e : TypeId} {l : Lk} (h : leafB P e l = true) : P.underlying e = some l.desc := by
 unfold leafB at h
 split at h <;> simp_all [Lk.desc]
theorem leaf_plain {e : TypeId} {l : Lk} (h : leafB P e l = true) : P.plainKey e = true := by
 have := leaf_desc h
 unfold Program.plainKey
 rw [this]
 cases l <;> rfl
theorem leaf_eq {e : TypeId} {l : Lk} {x y : Kx} (h : leafB P e l = true) (hx : l.fits x = true) (hy : l.fits y = true) (d : Nat) : (Op.equalIn (d + 1) e x.val y.val).run P w = .ok (decide (x = y)) w := by
 have hd := leaf_desc h
 cases l <;> cases x <;> simp only [Lk.fits, Bool.false_eq_true, decide_eq_true_eq] at hx <;> cases y <;> simp only [Lk.fits, Bool.false_eq_true, decide_eq_true_eq] at hy
 · rename_i k _ m _ n
   subst hx; subst hy
   show (Op.equalIn (d + 1) e (.int _ m) (.int _ n)).run P w = _
   rw [run_equalIn_int w d e _ _ m n hd]
   congr 1
   rw [Bool.eq_iff_iff]
   simp
 · rename_i a b
   show (Op.equalIn (d + 1) e (.bool a) (.bool b)).run P w = _
   rw [run_equalIn_bool' w d e a b hd]
   congr 1
   rw [Bool.eq_iff_iff]
   simp
 · rename_i a b
   show (Op.equalIn (d + 1) e (.string a) (.string b)).run P w = _
   rw [run_equalIn_string w d e a b hd]
   congr 1
   rw [← beq_toListBytes, Bool.eq_iff_iff, bytes_beq]
   simp
theorem leaf_check {e : TypeId} {l : Lk} {x : Kx} (h : leafB P e l = true) (hx : l.fits x = true) (em : Bool) (n : Nat) : (Instr.checkKey em (n + 1) e x.val).run P w = .ok () w := by
 have hd := leaf_desc h
 cases l <;> cases x <;> simp only [Lk.fits, Bool.false_eq_true, decide_eq_true_eq] at hx <;> simp [Instr.checkKey, run_underlying hd, Lk.desc, Kx.val]
theorem getL {l : List Kx} {n : Nat} {x : Kx} (h : l[n]? = some x) : (l.map Kx.val).toArray[n]? = some x.val := by simp [h]
theorem drop_cons {l : List Kx} {n : Nat} {x : Kx} {r : List Kx} (h : l.drop n = x :: r) : l[n]? = some x ∧ l.drop (n + 1) = r := by
 refine ⟨?_, ?_⟩
 · have := congrArg (·[0]?) h
   simpa using this
 · have := congrArg (List.drop 1) h
   simpa [List.drop_drop, Nat.add_comm] using this
theorem fitsL_cons {l : Lk} {ls : List Lk} {xs : List Kx} (h : fitsL (l :: ls) xs = true) : ∃ x r, xs = x :: r ∧ l.fits x = true ∧ fitsL ls r = true := by
 cases xs with
 | nil => simp [fitsL] at h
 | cons x r =>
  simp only [fitsL, Bool.and_eq_true] at h
  exact ⟨x, r, rfl, h⟩
theorem fitsL_nil {xs : List Kx} (h : fitsL [] xs = true) : xs = [] := by
 cases xs with
 | nil => rfl
 | cons x r => simp [fitsL] at h
theorem eq_fields (d : Nat) (a b : List Kx) : ∀ (fs : List Field) (ls : List Lk) (n : Nat), kfB P n fs ls = true → fitsL ls (a.drop n) = true → fitsL ls (b.drop n) = true →
 (Op.eqFields (d + 1) (a.map Kx.val).toArray (b.map Kx.val).toArray fs).run P w = .ok (decide (a.drop n = b.drop n)) w
 | [], [], n, _, ha, hb => by
  rw [fitsL_nil ha, fitsL_nil hb]
  simp [Op.eqFields]
 | f :: fs, l :: ls, n, h, ha, hb => by
  simp only [kfB, Bool.and_eq_true, beq_iff_eq, bne_iff_ne, ne_eq] at h
  obtain ⟨⟨⟨h1, h2⟩, h3⟩, h4⟩ := h
  obtain ⟨x, r, ex, hx, hr⟩ := fitsL_cons ha
  obtain ⟨y, s, ey, hy, hs⟩ := fitsL_cons hb
  obtain ⟨gx, dx⟩ := drop_cons ex
  obtain ⟨gy, dy⟩ := drop_cons ey
  have p1 : (part f.type (a.map Kx.val).toArray f.offset).run P w = .ok x.val w := run_part_plain w (leaf_plain h3) (getL (by rw [h1]; exact gx))
  have p2 : (part f.type (b.map Kx.val).toArray f.offset).run P w = .ok y.val w := run_part_plain w (leaf_plain h3) (getL (by rw [h1]; exact gy))
  have ih := eq_fields d a b fs ls (n + 1) h4 (by rw [dx]; exact hr) (by rw [dy]; exact hs)
  simp only [Op.eqFields, h2, ne_eq, not_false_eq_true, if_true, Sem.run_bind, p1, p2, Result.andThen_ok, leaf_eq h3 hx hy d, ex, ey]
  rw [dx, dy] at ih
  by_cases hxy : x = y
  · subst hxy
    simp only [decide_true, Bool.not_true, Bool.false_eq_true, if_false, ih, List.cons.injEq, true_and]
  · simp [hxy]
 | [], _ :: _, _, h, _, _ => by simp [kfB] at h
 | _ :: _, [], _, h, _, _ => by simp [kfB] at h
theorem eq_items (d : Nat) {e : TypeId} {l : Lk} (hl : leafB P e l = true) (hc : P.cellsOf e = 1) (a b : List Kx) : ∀ (m n : Nat), fitsL (List.replicate m l) (a.drop n) = true → fitsL (List.replicate m l) (b.drop n) = true →
 (Op.eqItems (d + 1) e (P.cellsOf e) (a.map Kx.val).toArray (b.map Kx.val).toArray (List.range' n m)).run P w = .ok (decide (a.drop n = b.drop n)) w
 | 0, n, ha, hb => by
  rw [fitsL_nil ha, fitsL_nil hb]
  simp [Op.eqItems]
 | m + 1, n, ha, hb => by
  obtain ⟨x, r, ex, hx, hr⟩ := fitsL_cons ha
  obtain ⟨y, s, ey, hy, hs⟩ := fitsL_cons hb
  obtain ⟨gx, dx⟩ := drop_cons ex
  obtain ⟨gy, dy⟩ := drop_cons ey
  have p1 : (part e (a.map Kx.val).toArray (n * P.cellsOf e)).run P w = .ok x.val w := run_part_plain w (leaf_plain hl) (getL (by rw [hc, Nat.mul_one]; exact gx))
  have p2 : (part e (b.map Kx.val).toArray (n * P.cellsOf e)).run P w = .ok y.val w := run_part_plain w (leaf_plain hl) (getL (by rw [hc, Nat.mul_one]; exact gy))
  have ih := eq_items d hl hc a b m (n + 1) (by rw [dx]; exact hr) (by rw [dy]; exact hs)
  rw [List.range'_succ]
  simp only [Op.eqItems, Sem.run_bind, p1, p2, Result.andThen_ok, leaf_eq hl hx hy d, ex, ey]
  rw [dx, dy] at ih
  by_cases hxy : x = y
  · subst hxy
    simp only [decide_true, Bool.not_true, Bool.false_eq_true, if_false, ih, List.cons.injEq, true_and]
  · simp [hxy]
theorem check_fields (em : Bool) (d : Nat) (a : List Kx) : ∀ (fs : List Field) (ls : List Lk) (n : Nat), kfB P n fs ls = true → fitsL ls (a.drop n) = true →
 (forIn fs PUnit.unit fun f _ => (if f.name ≠ "_" then do
  let v ← part f.type (a.map Kx.val).toArray f.offset
  Instr.checkKey em (d + 1) f.type v
  pure (ForInStep.yield PUnit.unit)
  else pure (ForInStep.yield PUnit.unit) : Sem (ForInStep PUnit))).run P w = .ok PUnit.unit w
 | [], [], n, _, ha => by simp
 | f :: fs, l :: ls, n, h, ha => by
  simp only [kfB, Bool.and_eq_true, beq_iff_eq, bne_iff_ne, ne_eq] at h
  obtain ⟨⟨⟨h1, h2⟩, h3⟩, h4⟩ := h
  obtain ⟨x, r, ex, hx, hr⟩ := fitsL_cons ha
  obtain ⟨gx, dx⟩ := drop_cons ex
  have p1 : (part f.type (a.map Kx.val).toArray f.offset).run P w = .ok x.val w := run_part_plain w (leaf_plain h3) (getL (by rw [h1]; exact gx))
  have ih := check_fields em d a fs ls (n + 1) h4 (by rw [dx]; exact hr)
  simp only [List.forIn_cons, h2, ne_eq, not_false_eq_true, if_true, Sem.run_bind, p1, Result.andThen_ok, leaf_check h3 hx em d, Sem.run_pure]
  exact ih
 | [], _ :: _, _, h, _ => by simp [kfB] at h
 | _ :: _, [], _, h, _ => by simp [kfB] at h
theorem key_check {kt : TypeId} {c : Kc} {a : List Kx} (h : kcB P kt c = true) (ha : fitsL c.ls a = true) (em : Bool) : (Instr.checkKey em 10000 kt (c.val a)).run P w = .ok () w := by
 cases c with
 | one l =>
  obtain ⟨x, r, rfl, hx, hr⟩ := fitsL_cons ha
  cases fitsL_nil hr
  exact leaf_check h hx em 9999
 | arr n l =>
  obtain ⟨e, i, hu, hl, hi, hc⟩ := kc_arr h
  show (Instr.checkKey em (9999 + 1) kt (.agg (a.map Kx.val).toArray)).run P w = .ok () w
  rw [Instr.checkKey]
  simp only [Sem.run_bind, run_underlying hu, Result.andThen_ok]
  simp only [Std.Legacy.Range.forIn_eq_forIn_range', Std.Legacy.Range.size, Nat.sub_zero, Nat.add_one_sub_one, Nat.div_one]
  have H : ∀ (m k : Nat), fitsL (List.replicate m l) (a.drop k) = true → (forIn (List.range' k m) PUnit.unit fun j _ => (do
   let sz ← sizeOf e
   let v ← part e (a.map Kx.val).toArray (j * sz)
   Instr.checkKey em 9999 e v
   pure (ForInStep.yield PUnit.unit) : Sem (ForInStep PUnit))).run P w = .ok PUnit.unit w := by
   intro m
   induction m with
   | zero => intro k _; simp
   | succ m ih =>
    intro k hk
    obtain ⟨x, r, ex, hx, hr⟩ := fitsL_cons hk
    obtain ⟨gx, dx⟩ := drop_cons ex
    have p1 : (part e (a.map Kx.val).toArray (k * P.cellsOf e)).run P w = .ok x.val w := run_part_plain w (leaf_plain hl) (getL (by rw [hc, Nat.mul_one]; exact gx))
    rw [List.range'_succ]
    simp only [List.forIn_cons, Sem.run_bind, run_sizeOf w hi, Result.andThen_ok, p1, leaf_check hl hx em 9998, Sem.run_pure]
    exact ih (k + 1) (by rw [dx]; exact hr)
  rw [H n 0 (by simpa [Kc.ls] using ha)]
  rfl
 | st ls =>
  obtain ⟨fs, hu, hf, hst⟩ := kc_st h
  show (Instr.checkKey em (9999 + 1) kt (.agg (a.map Kx.val).toArray)).run P w = .ok () w
  rw [Instr.checkKey]
  simp only [Sem.run_bind, run_underlying hu, Result.andThen_ok]
  rw [← Array.forIn_toList]
  rw [check_fields em 9998 a fs.toList ls 0 hf (by simpa [Kc.ls] using ha)]
  rfl
theorem key_equal {kt : TypeId} {c : Kc} {a b : List Kx} (h : kcB P kt c = true) (ha : fitsL c.ls a = true) (hb : fitsL c.ls b = true) : (Op.equal kt (c.val a) (c.val b)).run P w = .ok (decide (a = b)) w := by
 cases c with
 | one l =>
  obtain ⟨x, r, rfl, hx, hr⟩ := fitsL_cons ha
  cases fitsL_nil hr
  obtain ⟨y, s, rfl, hy, hs⟩ := fitsL_cons hb
  cases fitsL_nil hs
  refine (leaf_eq h hx hy 9999).trans ?_
  simp
 | arr n l =>
  obtain ⟨e, i, hu, hl, hi, hc⟩ := kc_arr h
  refine (run_equalIn_array w 9999 _ _ hu hi).trans ?_
  rw [List.range_eq_range']
  exact eq_items 9998 hl hc a b n 0 (by simpa [Kc.ls] using ha) (by simpa [Kc.ls] using hb)
 | st ls =>
  obtain ⟨fs, hu, hf, hst⟩ := kc_st h
  have hfs : P.fieldsOf kt = fs := by simp [Program.fieldsOf, hu]
  refine (run_equalIn_struct w 9999 kt _ _ (by rw [hfs]; exact hu) hst).trans ?_
  rw [hfs]
  exact eq_fields 9998 a b fs.toList ls 0 hf (by simpa [Kc.ls] using ha) (by simpa [Kc.ls] using hb)
theorem kval_inj {x y : Kx} (h : x.val = y.val) : x = y := by cases x <;> cases y <;> simp_all [Kx.val]
theorem key_inj {c : Kc} {a b : List Kx} (ha : fitsL c.ls a = true) (hb : fitsL c.ls b = true) (h : c.val a = c.val b) : a = b := by
 have hm : ∀ {a b : List Kx}, a.map Kx.val = b.map Kx.val → a = b := by
  intro a
  induction a with
  | nil => intro b h; cases b with
   | nil => rfl
   | cons y b => simp at h
  | cons x a ih =>
   intro b h
   cases b with
   | nil => simp at h
   | cons y b =>
    simp only [List.map_cons, List.cons.injEq] at h
    rw [kval_inj h.1, ih h.2]
 cases c with
 | one l =>
  obtain ⟨x, r, rfl, hx, hr⟩ := fitsL_cons ha
  cases fitsL_nil hr
  obtain ⟨y, s, rfl, hy, hs⟩ := fitsL_cons hb
  cases fitsL_nil hs
  rw [kval_inj h]
 | arr n l =>
  simp only [Kc.val, Value.agg.injEq] at h
  exact hm (List.toArray_inj h)
 | st ls =>
  simp only [Kc.val, Value.agg.injEq] at h
  exact hm (List.toArray_inj h)
theorem bits_self (x : Kx) (n : Nat) : Instr.sameBits n x.val x.val = true := by
 have hb : ∀ y : ByteArray, (y == y) = true := fun y => (bytes_beq y y).2 rfl
 cases x <;> cases n <;> simp [Kx.val, Instr.sameBits, hb]
theorem key_stays {c : Kc} {a : List Kx} (ha : fitsL c.ls a = true) : (Instr.keyThatStays (c.val a) (c.val a)).run P w = .ok (c.val a) w := by
 have hb : Instr.sameBits (9999 + 1) (c.val a) (c.val a) = true := by
  have hg : Instr.sameBits (9999 + 1) (.agg (a.map Kx.val).toArray) (.agg (a.map Kx.val).toArray) = true := by
   simp only [Instr.sameBits, BEq.rfl, Bool.true_and, List.all_eq_true]
   intro p hp
   obtain ⟨i, hi⟩ := List.getElem?_of_mem hp
   simp only [List.getElem?_zip_eq_some] at hi
   obtain ⟨h1, h2⟩ := hi
   rw [h1] at h2
   injection h2 with h2
   have hm := List.mem_of_getElem? h1
   simp only [List.mem_map] at hm
   obtain ⟨x, _, hx⟩ := hm
   obtain ⟨p1, p2⟩ := p
   simp only at h2 hx ⊢
   subst h2; subst hx
   exact bits_self x 9999
  cases c with
  | one l =>
   obtain ⟨x, r, rfl, hx, hr⟩ := fitsL_cons ha
   cases fitsL_nil hr
   exact bits_self x _
  | arr n l => exact hg
  | st ls => exact hg
 unfold Instr.keyThatStays
 rw [if_pos hb]
 rfl
def keyIs (c : Kc) (v : Value) (a : List Kx) : Prop := v = c.val a ∧ fitsL c.ls a = true
theorem key_find {kt : TypeId} {c : Kc} {a : List Kx} (h : kcB P kt c = true) (ha : fitsL c.ls a = true) (es : List MapEntry) (hes : ∀ e ∈ es, ∃ b, keyIs c e.key b) :
 ((Instr.findKey kt (c.val a) es).run P w = .ok none w ∧ ∀ e ∈ es, ¬ keyIs c e.key a) ∨
 ∃ j e, (Instr.findKey kt (c.val a) es).run P w = .ok (some (j, e.val)) w ∧ es[j]? = some e ∧ keyIs c e.key a := by
 have ask : ∀ (es : List MapEntry) (i : Nat), (∀ e ∈ es, ∃ b, keyIs c e.key b) → ((Instr.findAsking kt (c.val a) es i).run P w = .ok none w ∧ ∀ e ∈ es, ¬ keyIs c e.key a) ∨
  ∃ j e, (Instr.findAsking kt (c.val a) es i).run P w = .ok (some (i + j, e.val)) w ∧ es[j]? = some e ∧ keyIs c e.key a := by
  intro es
  induction es with
  | nil => intro i _; exact .inl ⟨by simp [Instr.findAsking], by simp⟩
  | cons e es ih =>
   intro i hes
   obtain ⟨b, hb, hfb⟩ := hes e (by simp)
   have hr := key_equal (w := w) h ha hfb
   by_cases hab : a = b
   · subst hab
     refine .inr ⟨0, e, ?_, rfl, hb, hfb⟩
     simp only [Instr.findAsking, Sem.run_bind, hb, hr, Result.andThen_ok, decide_true, if_true, Sem.run_pure, Nat.add_zero]
   · have hne : ¬ keyIs c e.key a := fun h2 => hab (key_inj ha hfb (h2.1.symm.trans hb))
     have hdec : decide (a = b) = false := by simp [hab]
     rcases ih (i + 1) (fun y hy => hes y (by simp [hy])) with ⟨h1, h2⟩ | ⟨j, e', h1, h2, h3⟩
     · refine .inl ⟨?_, fun y hy => ?_⟩
       · simp only [Instr.findAsking, Sem.run_bind, hb, hr, Result.andThen_ok, hdec, Bool.false_eq_true, if_false, h1]
       · rcases List.mem_cons.1 hy with rfl | hy
         · exact hne
         · exact h2 y hy
     · refine .inr ⟨j + 1, e', ?_, by simpa using h2, h3⟩
       simp only [Instr.findAsking, Sem.run_bind, hb, hr, Result.andThen_ok, hdec, Bool.false_eq_true, if_false, h1]
       rw [Nat.add_assoc, Nat.add_comm 1 j]
 have hu : ∃ d, P.underlying kt = some d := by
  cases c with
  | one l => exact ⟨_, leaf_desc h⟩
  | arr n l => obtain ⟨e, i, hu, _⟩ := kc_arr h; exact ⟨_, hu⟩
  | st ls => obtain ⟨fs, hu, _⟩ := kc_st h; exact ⟨_, hu⟩
 obtain ⟨d, hd⟩ := hu
 have hs : ∀ b, fitsL c.ls b = true → Instr.sameNow d (c.val a) (c.val b) = none ∨ Instr.sameNow d (c.val a) (c.val b) = some (decide (a = b)) := by
  intro b hb
  cases c with
  | one l =>
   obtain ⟨x, r, rfl, hx, hr⟩ := fitsL_cons ha
   cases fitsL_nil hr
   obtain ⟨y, s, rfl, hy, hs⟩ := fitsL_cons hb
   cases fitsL_nil hs
   right
   have := leaf_desc (P := P) (e := kt) (l := l) h
   rw [hd] at this
   cases this
   cases l <;> cases x <;> simp only [Lk.fits, Bool.false_eq_true, decide_eq_true_eq] at hx <;> cases y <;> simp only [Lk.fits, Bool.false_eq_true, decide_eq_true_eq] at hy
   · subst hx; subst hy
     simp only [Lk.desc, Kc.val, Kx.val, Instr.sameNow, if_true, Option.some.injEq]
     rw [Bool.eq_iff_iff]
     simp
   · simp only [Lk.desc, Kc.val, Kx.val, Instr.sameNow, Option.some.injEq]
     rw [Bool.eq_iff_iff]
     simp
   · simp only [Lk.desc, Kc.val, Kx.val, Instr.sameNow, Option.some.injEq]
     rw [Bool.eq_iff_iff, bytes_beq]
     simp
  | arr n l => left; simp only [Kc.val]; unfold Instr.sameNow; split <;> simp_all
  | st ls => left; simp only [Kc.val]; unfold Instr.sameNow; split <;> simp_all
 have now : ∀ (es : List MapEntry) (i : Nat), (∀ e ∈ es, ∃ b, keyIs c e.key b) → Instr.findNow d (c.val a) es i = none ∨ (Instr.findNow d (c.val a) es i = some none ∧ ∀ e ∈ es, ¬ keyIs c e.key a) ∨
  ∃ j e, Instr.findNow d (c.val a) es i = some (some (i + j, e.val)) ∧ es[j]? = some e ∧ keyIs c e.key a := by
  intro es
  induction es with
  | nil => intro i _; exact .inr (.inl ⟨rfl, by simp⟩)
  | cons e es ih =>
   intro i hes
   obtain ⟨b, hb, hfb⟩ := hes e (by simp)
   rcases hs b hfb with h1 | h1
   · left
     simp only [Instr.findNow, hb, h1]
   · by_cases hab : a = b
     · subst hab
       refine .inr (.inr ⟨0, e, ?_, rfl, hb, hfb⟩)
       simp only [Instr.findNow, hb, h1, decide_true, Nat.add_zero]
     · have hne : ¬ keyIs c e.key a := fun h2 => hab (key_inj ha hfb (h2.1.symm.trans hb))
       have hdec : decide (a = b) = false := by simp [hab]
       rw [hdec] at h1
       rcases ih (i + 1) (fun y hy => hes y (by simp [hy])) with h2 | ⟨h2, h3⟩ | ⟨j, e', h2, h3, h4⟩
       · left
         simp only [Instr.findNow, hb, h1, h2]
       · refine .inr (.inl ⟨?_, fun y hy => ?_⟩)
         · simp only [Instr.findNow, hb, h1, h2]
         · rcases List.mem_cons.1 hy with rfl | hy
           · exact hne
           · exact h3 y hy
       · refine .inr (.inr ⟨j + 1, e', ?_, by simpa using h3, h4⟩)
         simp only [Instr.findNow, hb, h1, h2]
         rw [Nat.add_assoc, Nat.add_comm 1 j]
 unfold Instr.findKey
 simp only [Sem.run_bind, run_underlying hd, Result.andThen_ok]
 rcases now es 0 hes with h1 | ⟨h1, h2⟩ | ⟨j, e, h1, h2, h3⟩
 · rw [h1]
   rcases ask es 0 hes with h2 | ⟨j, e, h2, h3, h4⟩
   · exact .inl h2
   · exact .inr ⟨j, e, by rw [Nat.zero_add] at h2; exact h2, h3, h4⟩
 · rw [h1]
   exact .inl ⟨rfl, h2⟩
 · rw [h1]
   exact .inr ⟨j, e, by rw [Nat.zero_add]; rfl, h2, h3⟩
end
end Go.Proofs.Ytmbfcdnnlpcgfaa
