/-
  The abstract run: operations on the run's own memory are sound: places that are made, boxes that are written.
-/
import Derived.Test.YtfdjcakgolenbaaGreatMu19
set_option linter.unusedVariables false
set_option linter.unusedSimpArgs false
namespace Go.Proofs.YtfdjcakgolenbaaGreat
open Go.RowKit
def OpM (P : Program) (o : Oper) (a : Act) (w : World) (K : Act → World → Prop) : Prop :=
 (∃ v w', (execOp a.eval o).run P w = .ok (.value v) w' ∧ K (a.put o.dst v) w') ∨
 (∃ w', (execOp a.eval o).run P w = .ok .skip w' ∧ K (a.put o.dst undef) w') ∨
 ∃ f args, (execOp a.eval o).run P w = .ok (.enter f args) w ∧ Calls P f args w fun e w' => ∃ v, e = .returned v ∧ K (a.put o.dst v) w'
theorem OpM.wp {P : Program} {o : Oper} {a : Act} {w : World} {K K' : Act → World → Prop} {Q : Exit → Act → World → Prop} (h : OpM P o a w K) (hK : ∀ a w, K a w → K' a w) : o.wp P a w K' Q := by
 unfold Oper.wp
 rcases h with ⟨v, w', h1, h2⟩ | ⟨w', h1, h2⟩ | ⟨f, args, h1, h2⟩
 · rw [h1]; exact hK _ _ h2
 · rw [h1]; exact hK _ _ h2
 · rw [h1]
   refine h2.mono fun e w' h3 => ?_
   obtain ⟨v, rfl, h4⟩ := h3
   exact hK _ _ h4
section
variable {P : Program} {w w' w0 : World} {ρ ρ' : Nat → Option Rl} {base : Nat} {ro ro' : Nat → Prop} {S0 : Pm} {N : Nat} {B : Bs} {S : Sx} {a : Act}
theorem cellsOf_ok {x : AV} {v : Value} {cs : List AV} (h : cellsOf x = some cs) (hx : AVR w ρ base ro x v) : ∃ vs : List Value, v.cells = vs.toArray ∧ Each w ρ base ro cs vs := by
 unfold cellsOf at h
 split at h
 · cases h
   obtain ⟨vs, rfl, hE⟩ := hx.agg_
   exact ⟨vs, rfl, hE⟩
 · cases h
 · cases h
 · rename_i h1 h2 h3
   cases h
   exact ⟨[v], cells_one hx (fun l e => h1 l e) (fun e => h2 e), .cons hx .nil⟩
theorem one_ok {x : AV} {v : Value} (h : AV.one x = true) (hx : AVR w ρ base ro x v) : v.oneCell' = true := by
 cases hx <;> first | rfl | cases h
theorem cellsAV_one (fr : Bool) (t : Tc) (x : Unit → t.el) : (cellsAV fr t x).all AV.one = true := by cases t <;> rfl
theorem all_one {l : List AV} {vs : List Value} (h : l.all AV.one = true) (hE : Each w ρ base ro l vs) : ∀ u ∈ vs, u.oneCell' = true := by
 intro u hu
 obtain ⟨j, hj⟩ := List.mem_iff_getElem?.1 hu
 have hlt := (List.getElem?_eq_some_iff.1 hj).1
 have hl : j < l.length := by rw [hE.1]; exact hlt
 exact one_ok (List.all_eq_true.1 h _ (List.getElem_mem hl)) (hE.2 j _ u (List.getElem?_eq_getElem hl) hj)
theorem norm_ok {s : Sg} {x y : AV} {v : Value} (h : norm s x = some y) (hx : AVR w ρ base ro x v) : AVR w ρ base ro y v := by
 unfold norm at h
 split at h
 · split at h <;> cases h; exact hx
 · split at h <;> cases h
   rw [hx.lit_]
   exact .int _ _
 · cases h; exact hx
 · cases h
   rw [hx.blit_]
   exact .bool _
 · cases h; exact hx
 · split at h <;> cases h; exact hx
 · cases h
   rw [hx.nil_]
   exact .sl true _ _ none 0 [] rfl (Nat.le_refl _) (Rd.nil _ _ _ _) (fun _ h => by cases h) (fun _ _ h => by cases h) (fun k cs j x v h => by simp at h)
 · split at h <;> cases h
   exact wide_take hx
 · split at h <;> cases h
   exact hx
 · split at h <;> cases h
   obtain ⟨A, c, css, _, _, _, _, _, _, hrx⟩ := hx.sl_
   rw [hrx] at hx ⊢
   exact .wide _ _ _ _ A c (Nat.le_refl _) hx
 · cases h
   rw [hx.nil_]
   exact .wide true _ (fun _ => []) (fun _ => 0) none 0 (Nat.le_refl _) (.sl true _ _ none 0 [] rfl (Nat.le_refl _) (Rd.nil _ _ _ _) (fun _ h => by cases h) (fun _ _ h => by cases h) (fun k cs j x v h => by simp at h))
 · cases h
theorem normL_ok : ∀ {ss : List Sg} {xs ys : List AV} {vs : List Value}, normL ss xs = some ys → Each w ρ base ro xs vs → Each w ρ base ro ys vs
 | [], [], ys, vs, h, hE => by cases h; exact hE
 | s :: ss, x :: xs, ys, vs, h, hE => by
  unfold normL at h
  split at h
  · rename_i y ys' h1 h2
    cases h
    obtain ⟨v, us, rfl, hx, hE'⟩ := hE.head
    exact .cons (norm_ok h1 hx) (normL_ok h2 hE')
  · cases h
 | [], _ :: _, _, _, h, _ => by cases h
 | _ :: _, [], _, _, h, _ => by cases h
theorem each_loose {l : List AV} {vs : List Value} (h : Each w ρ base ro l vs) : Each w ρ base ro (l.map AV.loose) vs := by
 refine ⟨by simp [h.1], fun j x v hx hv => ?_⟩
 rw [List.getElem?_map] at hx
 cases hj : l[j]? with
 | none => rw [hj] at hx; cases hx
 | some y =>
  rw [hj] at hx
  simp only [Option.map_some, Option.some.injEq] at hx
  subst hx
  exact (h.2 j y v hj hv).loose_
theorem elOf_ok {t : Tc} {x : AV} {v : Value} {f : Bool} {e : Unit → t.el} (h : elOf t x = some (f, e)) (hx : AVR w ρ base ro x v) : ∃ vs : List Value, v.cells = vs.toArray ∧ vs.length = t.size ∧ Each w ρ base ro (cellsAV f t e) vs := by
 unfold elOf at h
 split at h
 · rename_i cs hc
   split at h
   · rename_i ys hn
     cases hm : mkEl t ys with
     | none => rw [hm] at h; cases h
     | some e' =>
      rw [hm] at h
      simp only [Option.map_some, Option.some.injEq, Prod.mk.injEq] at h
      obtain ⟨rfl, rfl⟩ := h
      obtain ⟨vs, h1, hE⟩ := cellsOf_ok hc hx
      have hE2 := normL_ok hn hE
      have hmc := mkEl_cells hm
      have h3 : Each w ρ base ro (cellsAV (AV.plainL true ys) t e') vs := by
       cases hp : AV.plainL true ys with
       | true => rw [hmc.2 hp]; exact hE2
       | false => rw [hmc.1]; exact each_loose hE2
      exact ⟨vs, h1, by rw [← h3.1, cellsAV_len], h3⟩
   · cases h
 · cases h
theorem each_less {f g : Bool} {t : Tc} {x : Unit → t.el} {vs : List Value} (h : Each w ρ base ro (cellsAV f t x) vs) (hfg : g = true → f = true) : Each w ρ base ro (cellsAV g t x) vs := by
 cases g with
 | true => rw [hfg rfl] at h; exact h
 | false => rw [cellsAV_loose f]; exact each_loose h
theorem elsOf_ok {t : Tc} : ∀ {xs : List AV} {us : List Value} {f : Bool} {es : List (Unit → t.el)}, elsOf t xs = some (f, es) → Each w ρ base ro xs us → ∃ css : List (List Value), us.map Value.cells = css.map List.toArray ∧ css.length = es.length ∧ ∀ (k : Nat) cs e, css[k]? = some cs → es[k]? = some e → cs.length = t.size ∧ Each w ρ base ro (cellsAV f t e) cs
 | [], us, f, es, h, hE => by
  simp only [elsOf, Option.some.injEq, Prod.mk.injEq] at h
  obtain ⟨rfl, rfl⟩ := h
  rw [hE.none]
  exact ⟨[], rfl, rfl, fun k cs e hk => by simp at hk⟩
 | x :: xs, us, f, es, h, hE => by
  unfold elsOf at h
  split at h
  · rename_i f1 e1 f2 es2 h1 h2
    simp only [Option.some.injEq, Prod.mk.injEq] at h
    obtain ⟨rfl, rfl⟩ := h
    obtain ⟨v, us', rfl, hx, hE'⟩ := hE.head
    obtain ⟨vs, k1, k2, k3⟩ := elOf_ok h1 hx
    obtain ⟨css, q1, q2, q3⟩ := elsOf_ok h2 hE'
    refine ⟨vs :: css, by simp [k1, q1], by simp [q2], fun k cs e hk he => ?_⟩
    cases k with
    | zero =>
     simp only [List.getElem?_cons_zero, Option.some.injEq] at hk he
     subst hk; subst he
     exact ⟨k2, each_less k3 (by simp only [Bool.and_eq_true]; exact fun h => h.1)⟩
    | succ k =>
     obtain ⟨r1, r2⟩ := q3 k cs e (by simpa using hk) (by simpa using he)
     exact ⟨r1, each_less r2 (by simp only [Bool.and_eq_true]; exact fun h => h.2)⟩
  · cases h
theorem updR_self (ρ : Nat → Option Rl) (loc : Nat) (r : Rl) : updR ρ loc r loc = some r := by unfold updR; rw [if_pos rfl]
theorem ext_new {loc : Nat} {r : Rl} (h : ρ loc = none) : Ext ρ (updR ρ loc r) := by
 intro l r' hl
 unfold updR
 split
 · rename_i e; subst e; rw [h] at hl; cases hl
 · exact hl
theorem updR_same {loc : Nat} {r : Rl} (h : ρ loc = some r) : updR ρ loc r = ρ := by
 funext l
 unfold updR
 split
 · rename_i e; subst e; exact h.symm
 · rfl
theorem SimR.alloc (H : SimR w0 S0 N B S a w ρ ro) {T : Nat} {cells : List AV} {cs : List Value} (hB : alook B.e S.n = none) (hE : Each w ρ w0.heap.size ro cells cs) :
 SimR w0 S0 N B ⟨S.t, (S.n, .box T cells) :: S.e, S.n + 1⟩ a (w.alloc (.cells cs.toArray T)) (updR ρ S.n (.box w.heap.size)) ro := by
 have hnone := H.fresh S.n (Nat.le_refl _)
 have hkeep : ∀ b, b < w.heap.size → (w.alloc (.cells cs.toArray T)).heap[b]? = w.heap[b]? := fun b hb => Below.heap_alloc w _ b hb
 refine H.upd (H.from_.alloc _) (by simp) (fun b hb _ => hkeep b hb) (fun b hb => ?_) hB (Nat.le_succ _) (Nat.lt_succ_self _) (.inl (ext_new hnone)) (.inl fun b hb => by rw [hnone] at hb; cases hb) ⟨w.heap.size, cs, updR_self _ _ _, heap_alloc_new w _, ?_⟩
 · injection hb with hb
   subst hb
   exact .inr ⟨Nat.le_refl _, by simp⟩
 · exact hE.mono (fun b _ hb => hkeep b hb) (ext_new hnone) (Nat.le_refl _) fun _ h => h
theorem AVR.ptr_new {loc b : Nat} : AVR w (updR ρ loc (.box b)) base ro (.ptr loc 0) (.pointer (some ⟨b, 0, none⟩)) := .ptr _ _ _ (updR_self _ _ _)
theorem run_zeroValue {T : Nat} {j : TypeInfo} {z : Value} (hj : P.info? T = some j) (hz : j.zero = some z) : (zeroValue T).run P w = .ok z w := by
 unfold zeroValue
 simp only [typeInfo, Sem.run_bind, Sem.run_pure, Result.andThen_ok, run_program, hj, hz]
theorem alloc_ok {C : Cx} (hty : TyOk P C.ty) (H : Sim w0 S0 N B S a w) {T : Nat} {i : TInf} {d : Nat} {S' : Sx} {ty : TypeId} {pos : String} {aft : Array Edge} {gd : Option (Nat × Bool)} (hi : alook C.ty T = some i) (hz : i.z.isEmpty = false) (hB : alook B.e S.n = none) (hp : putT B ⟨S.t, (S.n, .box T i.z) :: S.e, S.n + 1⟩ N d (.ptr S.n 0) = some S') :
 OpM P ⟨some d, .alloc T, ty, pos, aft, gd⟩ a w (Sim w0 S0 N B S') := by
 obtain ⟨ρ, ro, H⟩ := H
 obtain ⟨j, z, hj, hjz, hE⟩ := tyB_zero (w := w) (ρ := ρ) (base := w0.heap.size) (ro := ro) (hty T i hi) hz
 have H2 := H.alloc (T := T) hB hE
 refine .inl ⟨.pointer (some ⟨w.heap.size, 0, none⟩), _, ?_, _, _, H2.put hp .ptr_new⟩
 unfold execOp
 simp only [Instr.alloc, Sem.run_bind, run_zeroValue hj hjz, Result.andThen_ok, newVar, newRow, Sem.run_pure]
 rfl
theorem box_ok (H : Sim w0 S0 N B S a w) {T : Nat} {x : Operand} {cells : List AV} {d : Nat} {S' : Sx} {ty : TypeId} {pos : String} {aft : Array Edge} {gd : Option (Nat × Bool)} (hc : cellsOf (getO B S x) = some cells) (hB : alook B.e S.n = none) (hp : putT B ⟨S.t, (S.n, .box T cells) :: S.e, S.n + 1⟩ N d (.ptr S.n 0) = some S') :
 OpM P ⟨some d, .box T x, ty, pos, aft, gd⟩ a w (Sim w0 S0 N B S') := by
 obtain ⟨ρ, ro, H⟩ := H
 obtain ⟨vs, hv, hE⟩ := cellsOf_ok hc (H.get x)
 have H2 := H.alloc (T := T) hB hE
 refine .inl ⟨.pointer (some ⟨w.heap.size, 0, none⟩), _, ?_, _, _, H2.put hp .ptr_new⟩
 unfold execOp
 simp only [Instr.box, Sem.run_bind, newVar, newRow, Sem.run_pure, hv]
 rfl
theorem cells_toList {v : Value} {vs : List Value} (h : v.cells = vs.toArray) : v.cells.toList = vs := by rw [h]
theorem setRow_size (w : World) (g : Nat) (cs : Array Value) : (w.setRow g cs).heap.size = w.heap.size := by simp [World.setRow]
theorem setRow_grown (w : World) (g : Nat) (cs : Array Value) : w.grownBy (w.setRow g cs) (some g) :=
 ⟨rfl, rfl, rfl, by rw [setRow_size]; exact Nat.le_refl _, fun k _ hk => setRow_other w g k cs fun e => hk (by rw [e])⟩
theorem SimR.mine (H : SimR w0 S0 N B S a w ρ ro) {l g : Nat} {r : Rl} (h : ρ l = some r) (hb : r.blk = some g) : ∀ k, some g = some k → w0.heap.size ≤ k ∨ ∃ l r, S0.pl l = some r ∧ r.blk = some k := by
 intro k hk
 injection hk with hk
 subst hk
 rcases (H.own l r g h hb).2.2 with h1 | ⟨r0, h1, h2⟩
 · exact .inl h1
 · exact .inr ⟨l, r0, h1, h2⟩
theorem storeB_ok {C : Cx} (hty : TyOk P C.ty) (H : Sim w0 S0 N B S a w) {T : Nat} {i : TInf} {x y : Operand} {loc off T' : Nat} {cells cs : List AV} {ty : TypeId} {pos : String} {aft : Array Edge} {gd : Option (Nat × Bool)} (hi : alook C.ty T = some i) (hc : cellsOf (getO B S y) = some cs) (hx : getO B S x = .ptr loc off) (he : lookE B S loc = some (.box T' cells)) (hl : cs.length = i.sz) (hfit : off + i.sz ≤ cells.length) (h1 : cs.all AV.one = true) (hB : alook B.e loc = none) :
 OpM P ⟨none, .store T x y, ty, pos, aft, gd⟩ a w (Sim w0 S0 N B ⟨S.t, (loc, .box T' (cells.take off ++ cs ++ cells.drop (off + i.sz))) :: S.e, S.n⟩) := by
 obtain ⟨ρ, ro, H⟩ := H
 have hax := H.get x
 rw [hx] at hax
 obtain ⟨b, hb, hxe⟩ := hax.ptr_
 obtain ⟨b', us, hb', hh, hE⟩ := H.en _ _ he
 rw [hb] at hb'
 injection hb' with hb'
 injection hb' with hb'
 subst hb'
 obtain ⟨vs, hv, hE2⟩ := cellsOf_ok hc (H.get y)
 obtain ⟨j, hj, hjs, _⟩ := tyB_info (hty T i hi)
 have hvl : vs.length = i.sz := by rw [← hE2.1]; exact hl
 have hul : us.length = cells.length := hE.1.symm
 have hrun := run_store_cells (P := P) (w := w) (T := T) (n := i.sz) (g := b) (off := off) (t := T') (cur := us.toArray) (v := a.eval y) (cs := vs) (by rw [hj]; simp [hjs]) (cells_toList hv) hvl hh (by simp [hul]; exact hfit) (all_one h1 hE2)
 have hlt := (Array.getElem?_eq_some_iff.1 hh).1
 have hln : loc < S.n := by
  rcases Nat.lt_or_ge loc S.n with h | h
  · exact h
  · have := H.fresh loc h; rw [hb] at this; cases this
 have hexec : (execOp a.eval ⟨none, .store T x y, ty, pos, aft, gd⟩).run P w = .ok .skip (w.setRow b (us.toArray.toList.take off ++ vs ++ us.toArray.toList.drop (off + i.sz)).toArray) := by
  unfold execOp
  simp only [Instr.storeAt, Instr.sureAddr, hxe, Sem.run_bind, Sem.run_pure, Result.andThen_ok, hrun]
 have hro : ¬ ro b := (H.own loc _ b hb rfl).2.1
 have hw : ∀ b', ro b' → b' < w.heap.size → (w.setRow b (us.toArray.toList.take off ++ vs ++ us.toArray.toList.drop (off + i.sz)).toArray).heap[b']? = w.heap[b']? := fun b' hb' _ => setRow_other _ _ _ _ (fun e => hro (e ▸ hb'))
 have H2 := H.upd (w' := w.setRow b (us.toArray.toList.take off ++ vs ++ us.toArray.toList.drop (off + i.sz)).toArray) (loc := loc) (n := S.n) (r := .box b) (e := .box T' (cells.take off ++ cs ++ cells.drop (off + i.sz))) (H.from_.grown (setRow_grown _ _ _) (H.mine hb rfl)) (by rw [setRow_size]; exact Nat.le_refl _) (fun b' hb' hne => setRow_other _ _ _ _ (fun e => hne _ hb (by rw [e]; rfl))) (fun b' hb' => .inl ⟨_, hb, hb'⟩) hB (Nat.le_refl _) hln (.inl (by rw [updR_same hb]; exact Ext.refl _)) (.inl fun b' hb' => by rw [hb] at hb'; cases hb') (by
  refine ⟨b, _, updR_self _ _ _, setRow_heap w b _ _ T' _ hh, ?_⟩
  rw [updR_same hb]
  exact (((hE.take off).append hE2).append (hE.drop (off + i.sz))).mono hw (Ext.refl _) (Nat.le_refl _) fun _ h => h)
 exact .inr (.inl ⟨_, hexec, _, _, H2⟩)
end
theorem set_flatN {size : Nat} : ∀ (css : List (List Value)), (∀ cs ∈ css, cs.length = size) → ∀ (k off n : Nat) (vs : List Value) (hk : k < css.length), off + n ≤ size → vs.length = n →
 css.flatten.take (k * size + off) ++ vs ++ css.flatten.drop (k * size + off + n) = (css.set k ((css[k]).take off ++ vs ++ (css[k]).drop (off + n))).flatten
 | [], _, k, _, _, _, hk, _, _ => by cases hk
 | cs :: css, h, 0, off, n, vs, _, hfit, hl => by
  have hc : cs.length = size := h cs (by simp)
  simp only [Nat.zero_mul, Nat.zero_add, List.flatten_cons, List.set_cons_zero, List.getElem_cons_zero]
  rw [List.take_append_of_le_length (by omega), List.drop_append_of_le_length (by omega), List.append_assoc, List.append_assoc, List.append_assoc]
 | cs :: css, h, k + 1, off, n, vs, hk, hfit, hl => by
  have hc : cs.length = size := h cs (by simp)
  have ih := set_flatN css (fun c hc => h c (by simp [hc])) k off n vs (by simpa using hk) hfit hl
  simp only [List.flatten_cons, List.set_cons_succ, List.getElem_cons_succ]
  rw [← ih]
  have e1 : (k + 1) * size + off = cs.length + (k * size + off) := by rw [hc, Nat.add_mul]; omega
  rw [e1, Nat.add_assoc cs.length, List.take_length_add_append, List.drop_length_add_append]
  simp
theorem own_rows {w : World} {base e size g : Nat} {css : List (List Value)} (h : w.heap[g]? = some (.cells css.flatten.toArray e (0, 0))) (hl : ∀ cs ∈ css, cs.length = size) (hb : base ≤ g) (hm : css.length ≤ maxLen) : OwnS w base e size (some ⟨g, 0, none⟩) css.length css := by
 have hf := flat_len css hl
 refine ⟨⟨hf, .inr ⟨g, css.length, css.flatten.toArray, rfl, hb, h, Nat.le_refl _, hm, by simpa using hf, ?_⟩⟩, hl⟩
 rw [← hf]
 exact List.take_length
theorem inOrder_ok : ∀ {l : List (Nat × AV)} {k : Nat} {xs : List AV}, inOrder k l = some xs → l.map (·.2) = xs ∧ l.map (·.1) = List.range' k l.length
 | [], k, xs, h => by
  simp only [inOrder, Option.some.injEq] at h
  subst h
  exact ⟨rfl, rfl⟩
 | (i, x) :: l, k, xs, h => by
  unfold inOrder at h
  split at h
  · rename_i hi
    cases hr : inOrder (k + 1) l with
    | none => rw [hr] at h; cases h
    | some ys =>
     rw [hr] at h
     simp only [Option.map_some, Option.some.injEq] at h
     subst h
     obtain ⟨h1, h2⟩ := inOrder_ok hr
     exact ⟨by simp [h1], by simp [h2, eq_of_beq hi, List.range'_succ]⟩
  · cases h
theorem fill_rows {size : Nat} : ∀ (qs : List (Nat × Value)) (css : List (List Value)) (k : Nat) (pre z : List Value), (qs.map (·.2)).map Value.cells = css.map List.toArray → qs.map (·.1) = List.range' k qs.length → (∀ cs ∈ css, cs.length = size) → pre.length = k * size → z.length = qs.length * size →
 Instr.fill (fun i => some (i * size, size)) (pre ++ z).toArray qs = some (pre ++ css.flatten).toArray
 | [], [], k, pre, z, _, _, _, _, hz => by
  have : z = [] := List.eq_nil_of_length_eq_zero (by simpa using hz)
  subst this
  rfl
 | (i, v) :: qs, cs :: css, k, pre, z, hc, hi, hl, hp, hz => by
  simp only [List.map_cons, List.cons.injEq, List.length_cons, List.range'_succ] at hc hi
  obtain ⟨rfl, hi⟩ := hi
  have hcl : cs.length = size := hl cs (by simp)
  have hz' : z.length = qs.length * size + size := by rw [hz, List.length_cons, Nat.add_mul]; omega
  rw [fill_put (vs := cs) (by rw [hcl]) hc.1 (by rw [List.length_append]; omega)]
  have e : (pre ++ z).take (i * size) ++ cs ++ (pre ++ z).drop (i * size + cs.length) = (pre ++ cs) ++ z.drop size := by
   rw [← hp, List.take_left, List.drop_length_add_append, hcl]
  rw [e]
  have := fill_rows qs css (i + 1) (pre ++ cs) (z.drop size) hc.2 hi (fun c h => hl c (by simp [h])) (by rw [List.length_append, hp, hcl, Nat.add_mul]; omega) (by rw [List.length_drop]; omega)
  rw [this]
  simp
 | [], _ :: _, _, _, _, hc, _, _, _, _ => by simp at hc
 | _ :: _, [], _, _, _, hc, _, _, _, _ => by simp at hc
theorem run_append_at {P : Program} {w : World} {t e size bytes base c m cn ty : Nat} {A X : Option Addr} {css news : List (List Value)} (hE : EI P t e size bytes) (hown : OwnS w base e size A c css) (B : Nat) (hr : Rd w B size X news) (hm : m = news.length)
 (h1 : ∀ cs ∈ news, ∀ u ∈ cs, u.oneCell' = true) (h63 : css.length + m ≤ maxLen) (hbytes : (css.length + m) * bytes ≤ 140737488355328) (hbase : base ≤ w.heap.size) :
 ∃ A' c' w', (Builtin.append_ #[t, t] ty #[.slice A css.length c, .slice X m cn]).run P w = .ok (.slice A' (css ++ news).length c') w' ∧ OwnS w' base e size A' c' (css ++ news) ∧ w.grownBy w' (A.map (·.block)) ∧ (A'.map (·.block) = A.map (·.block) ∨ (A'.map (·.block) = some w.heap.size ∧ w.heap.size < w'.heap.size)) := by
 rcases X with _ | ad
 · have hn : news = [] := by
    rcases news with _ | ⟨x, l⟩
    · rfl
    · obtain ⟨_, _, h, _⟩ := hr 0 x rfl
      cases h
   subst hn
   subst hm
   obtain ⟨ht, i, z, hi, hz, hs, hb, hzs, h0⟩ := hE
   refine ⟨A, c, w, ?_, by simpa using hown, World.grownBy.refl w _, .inl rfl⟩
   rw [List.append_nil]
   rcases hown.1.2 with ⟨h2, h3⟩ | ⟨g, cap, cur, h2, _, _, hnc, _⟩
   · rw [h2]
     simp [Builtin.append_, run_underlying ht, sizeOf, typeInfo, hi, Builtin.lenOf, Builtin.firstCells]
   · rw [h2]
     simp [Builtin.append_, run_underlying ht, sizeOf, typeInfo, hi, Builtin.lenOf, Builtin.firstCells, hnc, storeCells]
 · subst hm
   obtain ⟨ht, i, z, hi, hz, hs', hb, hzs, h0⟩ := hE
   have hlen : ∀ cs ∈ css ++ news, cs.length = size := fun cs hc => by
    rcases List.mem_append.1 hc with h | h
    · exact hown.2 cs h
    · exact hr.len cs h
   obtain ⟨v', w', hrun, h2, h3, _, h5⟩ := run_append_own_at (P := P) w base t ty e i z size bytes ht hi hz hs' hb hzs h0 (.slice A css.length c) css.length css.flatten hown.1 ad news.length cn news.flatten (flat_len news hr.len)
    (fun j u hu => by obtain ⟨ad', h, hc⟩ := hr.flat j u hu; injection h with h; rw [h]; exact hc)
    (fun u hu => by obtain ⟨cs, hcs, hu'⟩ := List.mem_flatten.1 hu; exact h1 cs hcs u hu') h63 hbytes hbase
   obtain ⟨A', c', rfl, h4⟩ := OwnS.of (css := css ++ news) (by rw [List.flatten_append]; exact h2) (by simp) hlen
   rw [ownBlock_slice, ownBlock_slice] at h5
   rw [ownBlock_slice] at h3
   refine ⟨A', c', w', hrun, h4, h3, h5.imp id fun h => ⟨h, ?_⟩⟩
   obtain ⟨ad2, h6, h7⟩ := Option.map_eq_some_iff.1 h
   have := (h4.lt h6).2
   omega
theorem ei_of {P : Program} {T e sz b : Nat} {i : TInf} (ht : tyB P T i = true) (hi : i.ti = .slice e sz b) : EI P T e sz b ∧ 0 < b := by
 obtain ⟨ds, hd, hm⟩ := tyB_desc ht
 rw [hi] at hm
 cases ds <;> first | (simp [descB] at hm; done) | skip
 rename_i e'
 simp only [descB, Bool.and_eq_true, beq_iff_eq, decide_eq_true_eq] at hm
 obtain ⟨⟨he, h0, hb⟩, h3⟩ := hm
 subst he
 cases hj : P.info? e' with
 | none => rw [hj] at h3; simp at h3
 | some j =>
  rw [hj] at h3
  simp only [Bool.and_eq_true, beq_iff_eq] at h3
  cases hz : j.zero with
  | none => rw [hz] at h3; simp at h3
  | some z =>
   rw [hz] at h3
   exact ⟨⟨hd, j, z, hj, hz, h3.1.1, h3.1.2, by simpa using h3.2, h0⟩, hb⟩
theorem room_of {n m b : Nat} (hb : 0 < b) (h : (n + m) * b ≤ 140737488355328) : n + m ≤ maxLen := by
 have : (n + m) * 1 ≤ (n + m) * b := Nat.mul_le_mul_left _ hb
 unfold maxLen
 omega
section
variable {P : Program} {w w' w0 : World} {ρ ρ' : Nat → Option Rl} {base : Nat} {ro ro' : Nat → Prop} {S0 : Pm} {N : Nat} {B : Bs} {S : Sx} {a : Act}
theorem newsOf_ok (H : SimR w0 S0 N B S a w ρ ro) {t : Tc} {x : AV} {v : Value} {f : Bool} {m : Unit → List t.el} (h : newsOf B S t x = some (f, m)) (hx : AVR w ρ w0.heap.size ro x v) :
 ∃ X c, ∃ news : List (List Value), v = .slice X (m ()).length c ∧ news.length = (m ()).length ∧ Rd w w.heap.size t.size X news ∧ ∀ (k : Nat) (cs : List Value) (j : Nat) (y : AV) (u : Value), news[k]? = some cs → (cellsAV f t fun _ => (m ()).getD k t.dflt)[j]? = some y → cs[j]? = some u → AVR w ρ w0.heap.size ro y u := by
 unfold newsOf at h
 split at h
 · simp only [Option.some.injEq, Prod.mk.injEq] at h
   obtain ⟨rfl, rfl⟩ := h
   exact ⟨none, 0, [], hx.nil_, rfl, Rd.nil _ _ _ _, fun k cs j y u h => by simp at h⟩
 · split at h
   · rename_i ht
     subst ht
     simp only [Option.some.injEq, Prod.mk.injEq] at h
     obtain ⟨rfl, rfl⟩ := h
     obtain ⟨A, c, css, hl, hc, hr, _, _, hcell, rfl⟩ := hx.sl_
     exact ⟨A, c, css, rfl, hl, hr, hcell⟩
   · cases h
 · split at h
   · rename_i ht
     subst ht
     simp only [Option.some.injEq, Prod.mk.injEq] at h
     obtain ⟨rfl, rfl⟩ := h
     obtain ⟨A, c, css, hl, hc, hr, _, _, hcell, rfl⟩ := (wide_take hx).sl_
     exact ⟨A, c, css, rfl, hl, hr, hcell⟩
   · cases h
 · split at h
   · rename_i fr t' T l he
     split at h
     · rename_i ht
       subst ht
       simp only [Option.some.injEq, Prod.mk.injEq] at h
       obtain ⟨rfl, rfl⟩ := h
       obtain ⟨A, c, css, hA, hown, hlen, hcell⟩ := H.en _ _ he
       obtain ⟨A', n, c', hA', rfl⟩ := hx.own_
       rw [hA] at hA'
       injection hA' with hA'
       injection hA' with e1 e2 e3
       subst e1; subst e2; subst e3
       exact ⟨A, c, css, rfl, hlen, hown.rd, hcell⟩
     · cases h
   · cases h
 · cases h
theorem news_one {f : Bool} {t : Tc} {m : Unit → List t.el} {news : List (List Value)} {B0 : Nat} {X : Option Addr} (hr : Rd w B0 t.size X news) (hc : ∀ (k : Nat) (cs : List Value) (j : Nat) (y : AV) (u : Value), news[k]? = some cs → (cellsAV f t fun _ => (m ()).getD k t.dflt)[j]? = some y → cs[j]? = some u → AVR w ρ base ro y u) : ∀ cs ∈ news, ∀ u ∈ cs, u.oneCell' = true := by
 intro cs hcs
 obtain ⟨k, hk⟩ := List.mem_iff_getElem?.1 hcs
 exact all_one (cellsAV_one f t _) (row_each (hr.len cs hcs) fun j y v h1 h2 => hc k cs j y v hk h1 h2)
theorem cells_app {f g : Bool} {t : Tc} {l m : List t.el} {css news : List (List Value)} (hl : css.length = l.length) (hlen : ∀ cs ∈ css ++ news, cs.length = t.size) (h1 : ∀ (k : Nat) (cs : List Value) (j : Nat) (y : AV) (u : Value), css[k]? = some cs → (cellsAV f t fun _ => l.getD k t.dflt)[j]? = some y → cs[j]? = some u → AVR w ρ base ro y u) (h2 : ∀ (k : Nat) (cs : List Value) (j : Nat) (y : AV) (u : Value), news[k]? = some cs → (cellsAV g t fun _ => m.getD k t.dflt)[j]? = some y → cs[j]? = some u → AVR w ρ base ro y u) :
 ∀ (k : Nat) (cs : List Value) (j : Nat) (y : AV) (u : Value), (css ++ news)[k]? = some cs → (cellsAV (f && g) t fun _ => (l ++ m).getD k t.dflt)[j]? = some y → cs[j]? = some u → AVR w ρ base ro y u := by
 intro k cs j y u hk hy hu
 have hsz := hlen cs (List.mem_of_getElem? hk)
 rcases Nat.lt_or_ge k css.length with h | h
 · rw [List.getElem?_append_left h] at hk
   rw [show (l ++ m).getD k t.dflt = l.getD k t.dflt by simp [List.getD_eq_getElem?_getD, List.getElem?_append_left (show k < l.length by omega)]] at hy
   exact (each_less (g := f && g) (row_each hsz fun j y v q1 q2 => h1 k cs j y v hk q1 q2) (by simp only [Bool.and_eq_true]; exact fun h => h.1)).2 j y u hy hu
 · rw [List.getElem?_append_right h] at hk
   rw [show (l ++ m).getD k t.dflt = m.getD (k - css.length) t.dflt by simp [List.getD_eq_getElem?_getD, List.getElem?_append_right (show l.length ≤ k by omega), hl]] at hy
   exact (each_less (g := f && g) (row_each hsz fun j y v q1 q2 => h2 _ cs j y v hk q1 q2) (by simp only [Bool.and_eq_true]; exact fun h => h.2)).2 j y u hy hu
theorem exec_append {T d : Nat} {s x : Operand} {ty : TypeId} {pos : String} {aft : Array Edge} {gd : Option (Nat × Bool)} (v : Value) (h : (Builtin.append_ #[T, T] ty #[a.eval s, a.eval x]).run P w = .ok v w') : (execOp a.eval ⟨some d, .call { callee := .builtin .append, args := #[s, x], argTypes := #[T, T] }, ty, pos, aft, gd⟩).run P w = .ok (.value v) w' := by
 unfold execOp
 simp only [resolve, invoke, builtin, Sem.run_bind, Sem.run_pure, Result.andThen_ok, List.map_toArray, List.map_cons, List.map_nil, h]
theorem append_ok {C : Cx} (hty : TyOk P C.ty) (H : Sim w0 S0 N B S a w) {T e sz b loc d : Nat} {s x : Operand} {fr f : Bool} {t : Tc} {l m : Unit → List t.el} {S' : Sx} {ty : TypeId} {pos : String} {aft : Array Edge} {gd : Option (Nat × Bool)} (hT : tiOf C.ty T = some (.slice e sz b)) (hs : getO B S s = .own loc) (he : lookE B S loc = some (.row fr t e l)) (hsz : t.size = sz) (hB : alook B.e loc = none) (hq : quiet loc B = true) (hn : newsOf B S t (getO B S x) = some (f, m)) (hp : putT B ⟨(kill loc S).t, (loc, .row (fr && f) t e fun _ => l () ++ m ()) :: (kill loc S).e, S.n⟩ N d (.own loc) = some S') (hroom : ((l ()).length + (m ()).length) * b ≤ 140737488355328) (hfx : S0.fx = false) :
 OpM P ⟨some d, .call { callee := .builtin .append, args := #[s, x], argTypes := #[T, T] }, ty, pos, aft, gd⟩ a w (Sim w0 S0 N B S') := by
 obtain ⟨ρ, ro, H⟩ := H
 obtain ⟨i, _, hi, htb⟩ := tiOf_ hty hT
 obtain ⟨hE, hb0⟩ := ei_of htb hi
 subst hsz
 have has := H.get s
 rw [hs] at has
 obtain ⟨A, c, css, hA, hown, hlen, hcell⟩ := H.en _ _ he
 obtain ⟨A', n, c', hA', hv⟩ := has.own_
 rw [hA] at hA'
 injection hA' with hA'
 injection hA' with e1 e2 e3
 subst e1; subst e2; subst e3
 obtain ⟨X, cn, news, hx, hnl, hr, hnc⟩ := newsOf_ok H hn (H.get x)
 obtain ⟨A2, c2, w2, hrun, h2, h3, h4⟩ := run_append_at (P := P) (ty := ty) (cn := cn) hE hown _ hr hnl.symm (news_one hr hnc) (by rw [hlen]; exact room_of hb0 hroom) (by rw [hlen]; exact hroom) (Nat.le_trans (rb_le _ _) H.from_.size)
 have hlen2 : (css ++ news).length = (l () ++ m ()).length := by simp [hlen, hnl]
 rw [hlen] at hrun
 have hexec : (execOp a.eval ⟨some d, .call { callee := .builtin .append, args := #[s, x], argTypes := #[T, T] }, ty, pos, aft, gd⟩).run P w = .ok (.value (.slice A2 (l () ++ m ()).length c2)) w2 := by
  refine exec_append _ ?_
  rw [hv, hx, hrun, hlen2]
 have hold : ∀ r', ρ loc = some r' → r' = .row A (l ()).length c := fun r' h => by rw [hA] at h; injection h with h; exact h.symm
 have hf : FromG S0.pl w0 w2 := H.from_.grown h3 fun k hk => H.mine hA hk k rfl
 have hkeep : ∀ q, q < w.heap.size → (∀ r', ρ loc = some r' → r'.blk ≠ some q) → w2.heap[q]? = w.heap[q]? := fun q hq hne => h3.block q hq fun hc => hne _ hA hc.symm
 have hro2 : ∀ q, ro q → q < w.heap.size → w2.heap[q]? = w.heap[q]? := fun q hq hlt => hkeep q hlt fun r' h1 h2 => (H.own loc r' q h1 h2).2.1 hq
 have hk := kill_quiet (S := S) hq
 have hln : loc < S.n := by
  rcases Nat.lt_or_ge loc S.n with h | h
  · exact h
  · have := H.fresh loc h; rw [hA] at this; cases this
 have hmv : ∀ y u, AVR w ρ w0.heap.size ro y u → AV.has loc y = false → AVR w2 (updR ρ loc (.row A2 (l () ++ m ()).length c2)) w0.heap.size ro y u := fun y u hyu hh => (hyu.move (ρ' := updR ρ loc (.row A2 (l () ++ m ()).length c2)) hh fun l' r' hl' hc => by
  unfold updR
  split
  · rename_i e0
    subst e0
    rcases hc with hc | hc
    · exact absurd rfl hc
    · rw [hold _ hl'] at hc; cases hc
  · exact hl').mono hro2 (Ext.refl _) (Nat.le_refl _) fun _ h => h
 have hrows := cells_app (w := w) (ρ := ρ) (base := w0.heap.size) (ro := ro) (f := fr) (g := f) (l := l ()) (m := m ()) hlen (fun cs hc => h2.2 cs hc) hcell hnc
 have H2 := (H.killed loc).upd (loc := loc) (n := S.n) (r := .row A2 (l () ++ m ()).length c2) (e := .row (fr && f) t e fun _ => l () ++ m ()) hf h3.size hkeep (fun q hq2 => by
  rcases h4 with h4 | ⟨h4, h5⟩
  · exact .inl ⟨_, hA, by rw [← hq2]; exact h4.symm⟩
  · have hq3 : A2.map (·.block) = some q := hq2
    rw [h4] at hq3
    injection hq3 with hq3
    subst hq3
    exact .inr ⟨Nat.le_refl _, h5⟩) hB (Nat.le_refl _) hln (.inr ⟨hk.1, hk.2, fun r' hr' => by rw [hold _ hr', hfx]; rfl⟩) (.inl fun b' hb' => by cases hold _ hb') (by
  exact ⟨A2, c2, css ++ news, updR_self _ _ _, h2.base_le (rb_and _ _ _), hlen2, fun k cs j y u q1 q2 q3 => hmv y u (hrows k cs j y u q1 q2 q3) (hasL_get (cellsAV_has _ t _ loc) q2)⟩)
 exact .inl ⟨_, _, hexec, _, _, H2.put hp (.own _ _ _ _ (updR_self _ _ _))⟩
theorem append0_ok {C : Cx} (hty : TyOk P C.ty) (H : Sim w0 S0 N B S a w) {T e sz b d : Nat} {s x : Operand} {f : Bool} {t : Tc} {m : Unit → List t.el} {S' : Sx} {ty : TypeId} {pos : String} {aft : Array Edge} {gd : Option (Nat × Bool)} (hT : tiOf C.ty T = some (.slice e sz b)) (hs : getO B S s = .nil) (hsz : t.size = sz) (hB : alook B.e S.n = none) (hn : newsOf B S t (getO B S x) = some (f, m)) (hp : putT B ⟨S.t, (S.n, .row f t e m) :: S.e, S.n + 1⟩ N d (.own S.n) = some S') (hroom : (0 + (m ()).length) * b ≤ 140737488355328) :
 OpM P ⟨some d, .call { callee := .builtin .append, args := #[s, x], argTypes := #[T, T] }, ty, pos, aft, gd⟩ a w (Sim w0 S0 N B S') := by
 obtain ⟨ρ, ro, H⟩ := H
 obtain ⟨i, _, hi, htb⟩ := tiOf_ hty hT
 obtain ⟨hE, hb0⟩ := ei_of htb hi
 subst hsz
 have has := H.get s
 rw [hs] at has
 obtain ⟨X, cn, news, hx, hnl, hr, hnc⟩ := newsOf_ok H hn (H.get x)
 obtain ⟨A2, c2, w2, hrun, h2, h3, h4⟩ := run_append_at (P := P) (ty := ty) (cn := cn) hE (OwnS.nil w (rb f w0.heap.size) e t.size) _ hr hnl.symm (news_one hr hnc) (by simpa using room_of hb0 hroom) (by simpa using hroom) (Nat.le_trans (rb_le _ _) H.from_.size)
 have hexec : (execOp a.eval ⟨some d, .call { callee := .builtin .append, args := #[s, x], argTypes := #[T, T] }, ty, pos, aft, gd⟩).run P w = .ok (.value (.slice A2 (m ()).length c2)) w2 := by
  refine exec_append _ ?_
  rw [has.nil_, hx]
  refine Eq.trans hrun ?_
  rw [List.nil_append, hnl]
 have hnone := H.fresh S.n (Nat.le_refl _)
 have hkeep : ∀ q, q < w.heap.size → w2.heap[q]? = w.heap[q]? := fun q hq => h3.block q hq (by simp)
 have hf : FromG S0.pl w0 w2 := H.from_.grown h3 fun k hk => by cases hk
 have H2 := H.upd (loc := S.n) (n := S.n + 1) (r := .row A2 (m ()).length c2) (e := .row f t e m) hf h3.size (fun q hq _ => hkeep q hq) (fun q hq2 => by
  have hq3 : A2.map (·.block) = some q := hq2
  rcases h4 with h4 | ⟨h4, h5⟩
  · rw [h4] at hq3; cases hq3
  · rw [h4] at hq3
    injection hq3 with hq3
    subst hq3
    exact .inr ⟨Nat.le_refl _, h5⟩) hB (Nat.le_succ _) (Nat.lt_succ_self _) (.inl (ext_new hnone)) (.inl fun b hb => by rw [hnone] at hb; cases hb) (by
  exact ⟨A2, c2, news, updR_self _ _ _, by simpa using h2, hnl, fun k cs j y u q1 q2 q3 => (hnc k cs j y u q1 q2 q3).mono (fun q _ hlt => hkeep q hlt) (ext_new hnone) (Nat.le_refl _) fun _ h => h⟩)
 exact .inl ⟨_, _, hexec, _, _, H2.put hp (.own _ _ _ _ (updR_self _ _ _))⟩
end
end Go.Proofs.YtfdjcakgolenbaaGreat
