/-
  What single operations give is as the abstract run says: calls by their contracts; all operations that make no place and store nothing.
-/
import Derived.Test.YtfdjcakgolenbaaGreatMu15
set_option linter.unusedVariables false
set_option linter.unusedSimpArgs false
namespace Go.Proofs.YtfdjcakgolenbaaGreat
open Go.RowKit
section
variable {P : Program} {r : Operand → Value} {d : Option Nat} {ty : TypeId} {pos : String} {aft : Array Edge} {gd : Option (Nat × Bool)} {u v : Value} {w : World}
variable {ρ : Nat → Option Rl} {base : Nat} {ro ra : Nat → Prop} {ge : Nat → Option En}
theorem AVR.give {x : AV} {v : Value} (h : AVR w ρ base ro x v) (hx : AV.plain false x = true) (hro : ∀ b, ro b → ra b) : AVR w (fun _ => none) 0 ra x v :=
 (h.plain (ρ' := fun _ => none) hx fun b _ hb => hro b hb).mono (fun _ _ _ => rfl) (Ext.refl _) (Nat.zero_le _) fun _ h => h
mutual
theorem coerce_ok (hge : ∀ loc e, ge loc = some e → EnR w ρ base ro loc e) (hro : ∀ b, ro b → ra b) : ∀ (s : Sg) (x y : AV) (v : Value), coerce ge s x = some y → AVR w ρ base ro x v → (AV.plain false x = true ∨ ∀ b, b < w.heap.size → ra b) → AVR w (fun _ => none) 0 ra y v := by
 intro s x y v h hx hp
 unfold coerce at h
 split at h
 · split at h <;> cases h
   rename_i hk
   subst hk
   exact hx.give rfl hro
 · split at h <;> cases h
   rename_i hk
   subst hk
   rw [hx.lit_]
   exact .int _ _
 · cases h
   exact hx.give rfl hro
 · cases h
   rw [hx.blit_]
   exact .bool _
 · cases h
   exact hx.give rfl hro
 · split at h <;> cases h
   exact hx.loose_.give rfl hro
 · cases h
   rw [hx.nil_]
   exact .sl false _ _ none 0 [] rfl (Nat.le_refl _) (Rd.nil _ _ _ _) (fun _ h => by cases h) (fun h => by cases h) (fun k cs j x v h => by simp at h)
 · split at h
   · cases h
     exact (wide_take hx).loose_.give rfl hro
   · have h1 := cvW_ok h hx
     exact h1.1.give h1.2 hro
 · split at h <;> cases h
   exact hx.loose_.give rfl hro
 · split at h
   · rename_i fr t' T l he
     split at h <;> cases h
     obtain ⟨A, c, css, hA, hown, hlen, hcell⟩ := hge _ _ he
     obtain ⟨A', n, c', hA', hv⟩ := hx.own_
     rw [hA] at hA'
     injection hA' with hA'
     injection hA' with e1 e2 e3
     subst e1; subst e2; subst e3
     have hall : ∀ b, b < w.heap.size → ra b := by
      rcases hp with hp | hp
      · cases hp
      · exact hp
     rw [hv]
     refine .sl false t' l A c css hlen (hown.cap.1) hown.rd (fun a ha hn => hall _ (hown.lt ha).2) (fun h => by cases h) fun k cs j x v h1 h2 h3 => ?_
     rw [cellsAV_loose fr, List.getElem?_map] at h2
     cases hj : (cellsAV fr t' fun _ => (l ()).getD k t'.dflt)[j]? with
     | none => rw [hj] at h2; cases h2
     | some y =>
      rw [hj] at h2
      simp only [Option.map_some, Option.some.injEq] at h2
      subst h2
      have h4 := (hcell k cs j y v h1 hj h3).loose_
      refine h4.give ?_ hro
      exact plainL_get (cellsAV_plain0 false t' fun _ => (l ()).getD k t'.dflt) (j := j) (by rw [cellsAV_loose fr, List.getElem?_map, hj]; rfl)
   · cases h
 · rename_i l cs
   cases hc : coerceL ge l cs with
   | none => rw [hc] at h; cases h
   | some ys =>
    rw [hc] at h
    cases h
    obtain ⟨vs, rfl, hE⟩ := hx.agg_
    have h1 := coerceL_ok hge hro l cs ys vs hc hE (hp.imp (fun h => by simpa only [AV.plain] using h) id)
    exact .agg _ _ h1.1 h1.2
 · rename_i l cs
   cases hc : coerceL ge l cs with
   | none => rw [hc] at h; cases h
   | some ys =>
    rw [hc] at h
    cases h
    obtain ⟨b, o, vs, h1, h2, h3, hE, rfl⟩ := hx.pto_
    have h4 := coerceL_ok hge hro l cs ys vs hc hE (hp.imp (fun h => by simpa [AV.plain] using h) id)
    exact .pto _ 0 b o vs (hro _ h1) h2 h4.1 h3 h4.2
 · rename_i l loc
   split at h
   · rename_i T cs he
     cases hc : coerceL ge l cs with
     | none => rw [hc] at h; cases h
     | some ys =>
      rw [hc] at h
      cases h
      obtain ⟨b, vs, hb, hh, hE⟩ := hge _ _ he
      obtain ⟨b', hb', rfl⟩ := hx.ptr_
      rw [hb] at hb'
      injection hb' with hb'
      injection hb' with hb'
      subst hb'
      have hall : ∀ b, b < w.heap.size → ra b := by
       rcases hp with hp | hp
       · cases hp
       · exact hp
      have hlt := (Array.getElem?_eq_some_iff.1 hh).1
      have h4 := coerceL_ok hge hro l cs ys vs hc hE (.inr hall)
      exact .pto _ 0 b 0 vs (hall _ hlt) hlt h4.1 (heap_cells hh) h4.2
   · cases h
 · rename_i l f cs
   cases hc : coerceL ge l cs with
   | none => rw [hc] at h; cases h
   | some ys =>
    rw [hc] at h
    cases h
    obtain ⟨vs, rfl, hE⟩ := hx.fn_
    have h1 := coerceL_ok hge hro l cs ys vs hc hE (hp.imp (fun h => by simpa only [AV.plain] using h) id)
    exact .fn _ _ _ h1.1 h1.2
 · cases h
   exact .un _
 · cases h
theorem coerceL_ok (hge : ∀ loc e, ge loc = some e → EnR w ρ base ro loc e) (hro : ∀ b, ro b → ra b) : ∀ (ss : List Sg) (xs ys : List AV) (vs : List Value), coerceL ge ss xs = some ys → Each w ρ base ro xs vs → (AV.plainL false xs = true ∨ ∀ b, b < w.heap.size → ra b) → Each w (fun _ => none) 0 ra ys vs := by
 intro ss xs ys vs h hE hp
 unfold coerceL at h
 split at h
 · cases h
   rw [hE.none]
   exact .nil
 · rename_i s ss x xs
   split at h
   · rename_i y ys' h1 h2
     cases h
     obtain ⟨v, us, rfl, hx, hE'⟩ := hE.head
     refine .cons (coerce_ok hge hro s x y v h1 hx (hp.imp (fun h => ?_) id)) (coerceL_ok hge hro ss xs ys' us h2 hE' (hp.imp (fun h => ?_) id))
     · simp only [AV.plainL, Bool.and_eq_true] at h
       exact h.1
     · simp only [AV.plainL, Bool.and_eq_true] at h
       exact h.2
   · cases h
 · cases h
end
theorem findCon_ok {cs : List Con} {f : FuncId} {c : Con} (hcs : ∀ c ∈ cs, ConOk P c) (h : findCon cs f = some c) : ConOk P c ∧ c.f = f := by
 induction cs with
 | nil => cases h
 | cons c' cs ih =>
  unfold findCon at h
  split at h
  · rename_i hf
    injection h with h
    subst h
    exact ⟨hcs _ (.head _), eq_of_beq hf⟩
  · exact ih (fun c hc => hcs c (.tail _ hc)) h
theorem ok_callC {F : FuncId} {c : Operand} {xs : Array Operand} {ts : Array TypeId} {vs : List Value} (hf : r c = .func (.func F) #[] vs.toArray) (hcf : ∀ args w, (callFunc F args).run P w = .ok (.enter F args) w) :
 (execOp r ⟨d, .call { callee := .value c, args := xs, argTypes := ts }, ty, pos, aft, gd⟩).run P w = .ok (.enter F (xs.toList.map r ++ vs).toArray) w := by
 unfold execOp
 simp only [resolve, hf, Deferred.ofValue, Sem.run_bind, Sem.run_pure, Result.andThen_ok, invoke, hcf]
 congr 2
 apply Array.ext'
 simp
def OpR (P : Program) (r : Operand → Value) (o : Oper) (w : World) (ρ : Nat → Option Rl) (base : Nat) (ro : Nat → Prop) (av : AV) : Prop :=
 runsIn P r o w fun v w' => AVR w' ρ base (fun b => ro b ∨ w.heap.size ≤ b) av v
theorem OpR.of {o : Oper} {av : AV} (h : ∃ v, (execOp r o).run P w = .ok (.value v) w ∧ AVR w ρ base ro av v) : OpR P r o w ρ base ro av := by
 obtain ⟨v, h1, h2⟩ := h
 exact .inl ⟨v, w, h1, Below.refl _ _, h2.mono (fun _ _ _ => rfl) (Ext.refl _) (Nat.le_refl _) fun _ h => .inl h⟩
theorem ok_lenS {t : Nat} {s : ByteArray} {x : Operand} (hx : r x = .string s) (ht : P.underlying t = some .string) : (execOp r ⟨d, .call { callee := .builtin .len, args := #[x], argTypes := #[t] }, ty, pos, aft, gd⟩).run P w = .ok (.value (.int .i64 (s.size : Int))) w := by
 unfold execOp
 simp only [resolve, invoke, builtin, Builtin.len_, List.map_toArray, List.map_cons, List.map_nil, hx, underlying, Sem.run_bind, Sem.run_pure, Result.andThen_ok]
 simp only [ht, List.getElem?_toArray, List.getElem?_cons_zero, Sem.run_bind, Sem.run_pure, Result.andThen_ok, run_program]
 rfl
theorem lenAV_ok {a av : AV} (hge : ∀ loc e, ge loc = some e → EnR w ρ base ro loc e) (hs : ∀ s, a ≠ .str s) (h : lenAV ge a = some av) (ha : AVR w ρ base ro a u) : ∃ A n c, u = .slice A n c ∧ AVR w ρ base ro av (.int .i64 (n : Int)) := by
 unfold lenAV at h
 split at h
 · cases h
   exact ⟨none, 0, 0, ha.nil_, .lit _ _⟩
 · cases h
   obtain ⟨A, c, css, _, _, _, _, _, _, rfl⟩ := ha.sl_
   exact ⟨A, _, c, rfl, .int _ _⟩
 · cases h
   obtain ⟨A, c, _, _, rfl⟩ := ha.wide_
   exact ⟨A, _, c, rfl, .int _ _⟩
 · split at h
   · rename_i loc fr t T l he
     cases h
     obtain ⟨A, c, css, hA, _, _, _⟩ := hge _ _ he
     obtain ⟨A', n, c', hA', rfl⟩ := ha.own_
     rw [hA] at hA'
     injection hA' with hA'
     injection hA' with e1 e2 e3
     subst e1; subst e2; subst e3
     exact ⟨A, _, c, rfl, .int _ _⟩
   · cases h
 · rename_i s
   exact absurd rfl (hs s)
 · cases h
theorem ok_minmax {x y : Operand} {ts : Array TypeId} {k : IntKind} {m n : Int} (hx : r x = .int k m) (hy : r y = .int k n) :
 (execOp r ⟨d, .call { callee := .builtin .min, args := #[x, y], argTypes := ts }, ty, pos, aft, gd⟩).run P w = .ok (.value (.int k (cond (decide (n < m)) n m))) w ∧ (execOp r ⟨d, .call { callee := .builtin .max, args := #[x, y], argTypes := ts }, ty, pos, aft, gd⟩).run P w = .ok (.value (.int k (cond (decide (m < n)) n m))) w := by
 have e : ∀ (p : Prop) [Decidable p] (a b : Int), (if p then a else b) = cond (decide p) a b := fun p _ a b => by by_cases h : p <;> simp [h]
 constructor
 · unfold execOp
   simp only [resolve, invoke, builtin, List.map_toArray, List.map_cons, List.map_nil, hx, hy, Sem.run_bind, run_min_int2, Result.andThen_ok, Sem.run_pure, e]
 · unfold execOp
   simp only [resolve, invoke, builtin, List.map_toArray, List.map_cons, List.map_nil, hx, hy, Sem.run_bind, run_max_int2, Result.andThen_ok, Sem.run_pure, e]
theorem pureOp_ok {tb : Tab} {cs : List Con} {g : Operand → AV} {op : Op} {av : AV} {vcs : List VC} (hty : TyOk P tb) (hcs : ∀ c ∈ cs, ConOk P c) (hge : ∀ loc e, ge loc = some e → EnR w ρ base ro loc e) (hg : ∀ x ∈ op.operands, AVR w ρ base ro (g x) (r x)) (hroB : ∀ b, ro b → b < w.heap.size) (hbase : base ≤ w.heap.size)
 (h : pureOp tb cs ge g op = some (av, vcs)) (hv : ∀ c ∈ vcs, c ()) : OpR P r ⟨d, op, ty, pos, aft, gd⟩ w ρ base ro av := by
 unfold pureOp at h
 split at h
 · cases h
   exact .of ⟨_, ok_move rfl, hg _ (by simp [Op.operands])⟩
 · cases h
   exact .of ⟨_, ok_assign rfl, hg _ (by simp [Op.operands])⟩
 · rename_i c a b
   cases hp : pickAV (g c) (g a) (g b) with
   | none => rw [hp] at h; cases h
   | some av' =>
    rw [hp] at h
    cases h
    exact .of (pickAV_ok hp (hg _ (by simp [Op.operands])) (hg _ (by simp [Op.operands])) (hg _ (by simp [Op.operands])))
 · rename_i x
   have hx := hg x (by simp [Op.operands])
   have hp : ∀ ad, r x = .pointer (some ad) → (execOp r ⟨d, .nilCheck x, ty, pos, aft, gd⟩).run P w = .ok (.value (.pointer (some ad))) w := by
    intro ad he
    unfold execOp
    simp only [he, Sem.run_pure]
   split at h
   · rename_i l o he
     cases h
     rw [he] at hx
     obtain ⟨b, _, hr⟩ := hx.ptr_
     exact .of ⟨_, hp _ hr, hr ▸ hx⟩
   · rename_i l o he
     cases h
     rw [he] at hx
     obtain ⟨b, o', cs', _, _, _, _, hr⟩ := hx.pto_
     exact .of ⟨_, hp _ hr, hr ▸ hx⟩
   · rename_i t l k o he
     cases h
     rw [he] at hx
     obtain ⟨A, n, c, b, _, _, _, _, hr⟩ := hx.orp_
     exact .of ⟨_, hp _ hr, hr ▸ hx⟩
   · cases h
 · rename_i op T x y _
   have hx := hg x (by simp [Op.operands])
   have hy := hg y (by simp [Op.operands])
   generalize g x = a at *
   generalize g y = b at *
   by_cases hag : (∃ cs, a = .agg cs) ∧ ∃ ds, b = .agg ds
   · obtain ⟨⟨cs, rfl⟩, ds, rfl⟩ := hag
     obtain ⟨v, h1, h2⟩ := eqlAV_agg (d := d) (ty := ty) (pos := pos) (aft := aft) (gd := gd) hty h hx hy
     exact .of ⟨v, h1 w, h2⟩
   · have h' : binAV (tiOf tb T) op a b = some (av, vcs) := by
      unfold eqlAV at h
      split at h
      · exact (hag ⟨⟨_, rfl⟩, _, rfl⟩).elim
      · exact h
     exact .of (binAV_ok hty h' hv hx hy)
 · rename_i t x
   have hx := hg x (by simp [Op.operands])
   split at h
   · rename_i b he
     cases h
     rw [he] at hx
     exact .of ⟨_, ok_not hx.blit_ rfl, .blit _⟩
   · rename_i b he
     cases h
     rw [he] at hx
     exact .of ⟨_, ok_not hx.bool_ rfl, .bool _⟩
   · cases h
 · rename_i t x
   have hx := hg x (by simp [Op.operands])
   have hn : ∀ k n, r x = .int k n → (execOp r ⟨d, .unOp .neg t x, ty, pos, aft, gd⟩).run P w = .ok (.value (.int k (k.wrap (-n)))) w := by
    intro k n he
    unfold execOp
    simp only [he, Op.unary, Op.intArith, Sem.run_bind, Sem.run_pure, Result.andThen_ok, Int.zero_sub]
   split at h
   · rename_i k n he
     cases h
     rw [he] at hx
     exact .of ⟨_, hn _ _ hx.lit_, .lit _ _⟩
   · rename_i n he
     cases h
     rw [he] at hx
     refine .of ⟨_, hn _ _ hx.int_, ?_⟩
     rw [wrap_in64 (hv _ (.head _))]
     exact .int _ fun _ => -n ()
   · cases h
 · rename_i s t x
   have hx := hg x (by simp [Op.operands])
   split at h
   · rename_i k0 k kk n e1 e2 he
     cases h
     rw [he] at hx
     obtain ⟨i1, _, h1, h2⟩ := tiOf_ hty e1
     obtain ⟨i2, _, h3, h4⟩ := tiOf_ hty e2
     obtain ⟨ds1, hd1, _⟩ := tyB_desc h2
     exact .of ⟨_, ok_conv hx.lit_ hd1 (tyB_int h4 h3) rfl rfl, .lit _ _⟩
   · rename_i k0 k kk n e1 e2 he
     rw [he] at hx
     obtain ⟨i1, _, h1, h2⟩ := tiOf_ hty e1
     obtain ⟨i2, _, h3, h4⟩ := tiOf_ hty e2
     obtain ⟨ds1, hd1, _⟩ := tyB_desc h2
     split at h
     · rename_i hk
       subst hk
       cases h
       exact .of ⟨_, ok_conv hx.int_ hd1 (tyB_int h4 h3) (wrap_in64 (hv _ (.head _))) rfl, .int _ _⟩
     · cases h
       exact .of ⟨_, ok_conv hx.int_ hd1 (tyB_int h4 h3) rfl rfl, .int _ fun _ => k.wrap (n ())⟩
   · cases h
 · rename_i T x f
   have hx := hg x (by simp [Op.operands])
   cases hT : alook tb T with
   | none => rw [hT] at h; cases h
   | some i =>
    rw [hT] at h
    simp only [Option.bind_some] at h
    split at h
    · rename_i off sz a hf
      split at h
      · cases h
      · rename_i hsz
        cases ha : addOff (g x) off with
        | none => rw [ha] at h; cases h
        | some av' =>
         rw [ha] at h
         cases h
         obtain ⟨b, o, h1, h2⟩ := addOff_ok ha hx
         exact .of ⟨_, ok_field h1 (fieldOff_of (hty T i hT) hf (by simpa using hsz)) rfl, h2⟩
    · cases h
 · rename_i T x f
   have hx := hg x (by simp [Op.operands])
   cases hT : alook tb T with
   | none => rw [hT] at h; cases h
   | some i =>
    rw [hT] at h
    simp only [Option.bind_some] at h
    split at h
    · rename_i off sz a cells hf hc
      cases hcut : cut a off sz cells with
      | none => rw [hcut] at h; cases h
      | some av' =>
       rw [hcut] at h
       cases h
       rw [hc] at hx
       exact .of (field_ok (hty T i hT) hf hcut hx)
    · cases h
 · rename_i T x y
   have hx := hg x (by simp [Op.operands])
   have hy := hg y (by simp [Op.operands])
   split at h
   · rename_i e sz b fr t l kk k e1 e2 e3
     split at h
     · rename_i hs
       cases h
       rw [e2] at hx
       obtain ⟨i, _, h1, h2⟩ := tiOf_ hty e1
       obtain ⟨v, k1, k2⟩ := index_ok (d := d) (ty := ty) (pos := pos) (aft := aft) (gd := gd) h2 h1 (eq_of_beq hs) hx (asInt_ e3 hy) (hv _ (.head _))
       exact .of ⟨v, k1 w, k2⟩
     · cases h
   · rename_i e sz b fr t l n kk k e1 e2 e3
     split at h
     · rename_i hs
       cases h
       rw [e2] at hx
       obtain ⟨i, _, h1, h2⟩ := tiOf_ hty e1
       obtain ⟨v, k1, k2⟩ := indexW_ok (d := d) (ty := ty) (pos := pos) (aft := aft) (gd := gd) h2 h1 (eq_of_beq hs) hx (asInt_ e3 hy) (hv _ (.head _))
       exact .of ⟨v, k1 w, k2⟩
     · cases h
   · rename_i e sz b loc kk k e1 e2 e3
     split at h
     · rename_i fr t T' l he
       split at h
       · rename_i hs
         cases h
         rw [e2] at hx
         obtain ⟨i, _, h1, h2⟩ := tiOf_ hty e1
         obtain ⟨v, k1, k2⟩ := indexO_ok (d := d) (ty := ty) (pos := pos) (aft := aft) (gd := gd) hge h2 h1 (eq_of_beq hs) he hx (asInt_ e3 hy) (hv _ (.head _))
         exact .of ⟨v, k1 w, k2⟩
       · cases h
     · cases h
   · obtain ⟨v, k1, k2⟩ := arrAddr_ok (d := d) (ty := ty) (pos := pos) (aft := aft) (gd := gd) hty h hx hy
     exact .of ⟨v, k1 w, k2⟩
 · rename_i T x i
   exact .of (indexAV_ok hty h hv (hg x (by simp [Op.operands])) (hg i (by simp [Op.operands])))
 · rename_i T x i ok
   have hx := hg x (by simp [Op.operands])
   have hi := hg i (by simp [Op.operands])
   split at h
   · rename_i kt et c t ag loc e1 e2
     split at h
     · rename_i fr ag' c' t' T' m k e3 e4
       split at h
       · rename_i hc
         obtain ⟨rfl, rfl, rfl⟩ := hc
         cases h
         rw [e2] at hx
         obtain ⟨ti, _, h1, h2⟩ := tiOf_ hty e1
         exact .of (lookup_ok h2 h1 (hge _ _ e3) hx (keyAV_ok e4 hi))
       · cases h
     · cases h
   · cases h
 · rename_i x
   have hx := hg x (by simp [Op.operands])
   split at h
   · rename_i ml l2 e1
     split at h
     · rename_i fr ag c t T m ml' c' seen left e2 e3
       split at h
       · rename_i hc
         obtain ⟨rfl, rfl⟩ := hc
         cases h
         rw [e1] at hx
         exact .of (entry_ok (hge _ _ e2) (hge _ _ e3) hx (hv _ (.head _)))
       · cases h
     · cases h
   · cases h
 · rename_i T x hi
   have hx := hg x (by simp [Op.operands])
   have hhi := hg hi (by simp [Op.operands])
   split at h
   · rename_i e sz b fr t l e1 e2
     split at h
     · rename_i hs
       split at h
       · rename_i kk bb eb
         cases h
         rw [e2] at hx
         obtain ⟨i, hT, h1, h2⟩ := tiOf_ hty e1
         obtain ⟨A, c, css, _, _, _, _, _, _, hrx⟩ := hx.sl_
         rw [hrx] at hx
         exact .of (sliceH_ok hty hT h1 (eq_of_beq hs) hrx hx (asInt_ eb hhi) (hv _ (.head _)))
       · cases h
     · cases h
   · rename_i e sz b fr t l n e1 e2
     split at h
     · rename_i hs
       split at h
       · rename_i kk bb eb
         cases h
         rw [e2] at hx
         obtain ⟨i, hT, h1, h2⟩ := tiOf_ hty e1
         obtain ⟨A, c, _, hl, hrx⟩ := hx.wide_
         exact .of (sliceH_ok hty hT h1 (eq_of_beq hs) hrx hl (asInt_ eb hhi) (hv _ (.head _)))
       · cases h
     · cases h
   · cases h
 · rename_i T x lo hi hno
   have hx := hg x (by simp [Op.operands])
   split at h
   · rename_i e sz b fr t l e1 e2
     split at h
     · rename_i hs
       split at h
       · rename_i fa fb ha hb
         cases h
         rw [e2] at hx
         obtain ⟨i, hT, h1, h2⟩ := tiOf_ hty e1
         exact .of (sliceOp_ok hty hT h1 (eq_of_beq hs) hx ha hb (fun y hy => hg y (by subst hy; simp [Op.operands])) (fun y hy => hg y (by subst hy; simp [Op.operands])) (hv _ (.head _)))
       · cases h
     · cases h
   · cases h
 · rename_i x i
   have hx := hg x (by simp [Op.operands])
   split at h
   · rename_i l he
     cases hl : l[i]? with
     | none => rw [hl] at h; cases h
     | some av' =>
      rw [hl] at h
      cases h
      rw [he] at hx
      obtain ⟨vs, h1, hE⟩ := hx.tup_
      obtain ⟨v, h2, h3⟩ := hE.get hl
      exact .of ⟨v, ok_extract h1 (by simpa using h2), h3⟩
   · cases h
 · rename_i f first caps
   split at h
   · rename_i hf
     cases h
     have hf' : first = #[] := by simpa using hf
     subst hf'
     have hE : Each w ρ base ro (caps.toList.map g) (caps.toList.map r) := each_map fun x hx => hg x (by simpa [Op.operands] using hx)
     refine .of ⟨.func (.func f) #[] (caps.toList.map r).toArray, ?_, .fn _ _ _ hE.1 hE.2⟩
     unfold execOp
     simp only [Instr.makeFunc, Sem.run_bind, Sem.run_pure, Result.andThen_ok]
     rw [show caps.map r = (caps.toList.map r).toArray by apply Array.ext'; simp, show (#[] : Array Operand).map r = #[] by simp]
   · cases h
 · rename_i T x
   have hx := hg x (by simp [Op.operands])
   split at h
   · rename_i i hT
     cases hl : loadAV ge i.ti.agg i.sz (g x) with
     | none => rw [hl] at h; cases h
     | some av' =>
      rw [hl] at h
      cases h
      obtain ⟨ad, v, h1, h2, h3⟩ := load_ok hge (hty T i hT) hl hx
      exact .of ⟨v, ok_load h1 h2, h3⟩
   · cases h
 · rename_i T parts
   have hp : ∀ p ∈ parts.toList, AVR w ρ base ro (g p.2) (r p.2) := fun p hp => hg _ (by simp only [Op.operands]; simpa using ⟨p.1, by simpa using hp⟩)
   split at h
   · rename_i i hT
     split at h
     · rename_i fs hti
       split at h
       · cases h
       · rename_i hz
         cases hf : fillAV (fun k => (fs[k]?).map fun f => (f.1, f.2.1)) i.z (parts.toList.map fun p => (p.1, g p.2)) with
         | none => rw [hf] at h; cases h
         | some out =>
          rw [hf] at h
          cases h
          exact .of (build_ok (hty T i hT) hp (by simpa using hz) (.inl ⟨fs, hti, rfl⟩) hf rfl)
     · rename_i n e esz a hti
       split at h
       · cases h
       · rename_i hz
         cases hf : fillAV (fun k => some (k * esz, esz)) i.z (parts.toList.map fun p => (p.1, g p.2)) with
         | none => rw [hf] at h; cases h
         | some out =>
          rw [hf] at h
          cases h
          exact .of (build_ok (hty T i hT) hp (by simpa using hz) (.inr ⟨n, e, esz, a, hti, rfl⟩) hf rfl)
     · cases h
   · cases h
 · rename_i c
   obtain ⟨callee, cargs, cts⟩ := c
   dsimp only at h
   split at h
   · split at h
     · rename_i x y e1
       have ha : cargs = #[x, y] := by simpa using congrArg List.toArray e1
       subst ha
       have hx := hg x (by simp [Op.operands, Call.operands])
       have hy := hg y (by simp [Op.operands, Call.operands])
       split at h
       · rename_i k fa k' fb e2 e3
         split at h
         · rename_i hk
           subst hk
           cases h
           exact .of ⟨_, (ok_minmax (asInt_ e2 hx) (asInt_ e3 hy)).1, .int k fun _ => cond (decide (fb () < fa ())) (fb ()) (fa ())⟩
         · cases h
       · cases h
     · cases h
   · split at h
     · rename_i x y e1
       have ha : cargs = #[x, y] := by simpa using congrArg List.toArray e1
       subst ha
       have hx := hg x (by simp [Op.operands, Call.operands])
       have hy := hg y (by simp [Op.operands, Call.operands])
       split at h
       · rename_i k fa k' fb e2 e3
         split at h
         · rename_i hk
           subst hk
           cases h
           exact .of ⟨_, (ok_minmax (asInt_ e2 hx) (asInt_ e3 hy)).2, .int k fun _ => cond (decide (fa () < fb ())) (fb ()) (fa ())⟩
         · cases h
       · cases h
     · cases h
   · split at h
     · rename_i x T e1 e2
       have ha : cargs = #[x] := by simpa using congrArg List.toArray e1
       have ht : cts = #[T] := by simpa using congrArg List.toArray e2
       subst ha; subst ht
       have hx := hg x (by simp [Op.operands, Call.operands])
       split at h
       · cases h
       · rename_i e sz b y e3 hy
         cases hl : lenAV ge (g x) with
         | none => rw [hl] at h; cases h
         | some av' =>
          rw [hl] at h
          cases h
          obtain ⟨i, _, h1, h2⟩ := tiOf_ hty e3
          obtain ⟨A, n, c, h3, h4⟩ := lenAV_ok hge (fun s hs => by first | exact hy s hs | exact hy _ _ _ s rfl hs | simp_all) hl hx
          exact .of ⟨_, ok_len h3 (elemOf_spec (elemOf_of h2 h1)).1 rfl, h4⟩
       · rename_i s e3 he
         cases h
         rw [he] at hx
         obtain ⟨i, _, h1, h2⟩ := tiOf_ hty e3
         exact .of ⟨_, ok_lenS hx.str_ (tyB_str h2 h1), .int _ fun _ => ((s ()).size : Int)⟩
       · cases h
     · cases h
   · rename_i fo
     split at h
     · rename_i f caps hfo
       split at h
       · rename_i con hcon
         split at h
         · rename_i avs havs
           split at h
           · rename_i res hres
             split at h
             · rename_i hcond
               cases h
               obtain ⟨hok, rfl⟩ := findCon_ok hcs hcon
               have hx := hg fo (by simp [Op.operands, Call.operands])
               rw [hfo] at hx
               obtain ⟨vs, hvs, hE⟩ := hx.fn_
               have hA : Each w ρ base ro (cargs.toList.map g ++ caps) (cargs.toList.map r ++ vs) := (each_map fun x hx => hg x (by simp only [Op.operands, Call.operands]; simpa using .inr (by simpa using hx))).append hE
               have hpre := hv _ (.head _)
               cases hfr : AV.plain true res.av with
               | true =>
                have h1 := hok.2 avs res hres w (fun b => b < w.heap.size) _ (fun _ h => h) (coerceL_ok hge hroB _ _ _ _ havs hA (.inr fun _ h => h)) hpre
                refine .inr ⟨_, _, ok_callC hvs hok.1, h1.mono fun e w' ⟨v, h2, h3, h4⟩ => ⟨v, h2, h3, ?_⟩⟩
                exact (h4.plain (ρ' := ρ) (ro' := fun b => ro b ∨ w.heap.size ≤ b) hfr fun b h5 _ => .inr (h5 rfl)).mono (fun _ _ _ => rfl) (Ext.refl _) hbase fun _ h => h
               | false =>
                rw [hfr, Bool.false_or, Bool.and_eq_true] at hcond
                have h1 := hok.2 avs res hres w ro _ hroB (coerceL_ok hge (fun _ h => h) _ _ _ _ havs hA (.inl hcond.1)) hpre
                refine .inr ⟨_, _, ok_callC hvs hok.1, h1.mono fun e w' ⟨v, h2, h3, h4⟩ => ⟨v, h2, h3, ?_⟩⟩
                exact (h4.plain (ρ' := ρ) (ro' := fun b => ro b ∨ w.heap.size ≤ b) hcond.2 fun b _ h5 => h5).mono (fun _ _ _ => rfl) (Ext.refl _) hbase fun _ h => h
             · cases h
           · cases h
         · cases h
       · cases h
     · cases h
   · cases h
 · cases h
end
end Go.Proofs.YtfdjcakgolenbaaGreat
