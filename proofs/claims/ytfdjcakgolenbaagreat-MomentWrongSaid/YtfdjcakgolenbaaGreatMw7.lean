/-
  What single operations give is as the abstract run says: calls by their contracts; all operations that make no place and store nothing.
-/
import Derived.Test.YtfdjcakgolenbaaGreatMw6
set_option linter.unusedVariables false
set_option linter.unusedSimpArgs false
namespace Go.Proofs.YtfdjcakgolenbaaGreat
open Go.RowKit
section
variable {P : Program} {r : Operand -> Value} {d : Option Nat} {ty : TypeId} {pos : String} {aft : Array Edge} {gd : Option (Nat × Bool)} {u v : Value} {w : World}
variable {ρ : Nat -> Option Rl} {base : Nat} {ro ra : Nat -> Prop} {ge : Nat -> Option En}
theorem AVR.give {x : AV} {v : Value} (h : AVR w ρ base ro x v) (hx : AV.plain false x = true) (hro : ∀ b, ro b -> ra b) : AVR w (fun _ => none) 0 ra x v :=
 (h.plain (ρ' := fun _ => none) hx fun b _ hb => hro b hb).mono (fun _ _ _ => rfl) (Ext.refl _) (Nat.zero_le _) fun _ h => h
mutual
theorem coerce_ok (hge : ∀ loc e, ge loc = some e -> EnR w ρ base ro loc e) (hro : ∀ b, ro b -> ra b) : ∀ (s : Sg) (x y : AV) (v : Value), coerce ge s x = some y -> AVR w ρ base ro x v -> (AV.plain false x = true \/ ∀ b, b < w.heap.size -> ra b) -> AVR w (fun _ => none) 0 ra y v := by
 intro s x y v h hx hp;unfold coerce at h;split at h
 . split at h <;> cases h
   rename_i hk;subst hk;exact hx.give rfl hro
 . split at h <;> cases h
   rename_i hk;subst hk;rw [hx.lit_];exact .int _ _
 . cases h;exact hx.give rfl hro
 . cases h;rw [hx.blit_];exact .bool _
 . cases h;exact hx.give rfl hro
 . split at h <;> cases h
   exact hx.loose_.give rfl hro
 . cases h;rw [hx.nil_];exact .sl false _ _ none 0 [] rfl (Nat.le_refl _) (Rd.nil _ _ _ _) (fun _ h => by cases h) (fun h => by cases h) (fun k cs j x v h => by simp at h)
 . split at h
   . cases h;exact (wide_take hx).loose_.give rfl hro
   . have h1 := cvW_ok h hx;exact h1.1.give h1.2 hro
 . split at h <;> cases h
   exact hx.loose_.give rfl hro
 . split at h
   . rename_i fr t' T l he;split at h <;> cases h
     obtain ⟨A, c, css, hA, hown, hlen, hcell⟩ := hge _ _ he;obtain ⟨A', n, c', hA', hv⟩ := hx.own_;rw [hA] at hA';injection hA' with hA';injection hA' with e1 e2 e3;subst e1; subst e2; subst e3;have hall : ∀ b, b < w.heap.size -> ra b := by
      rcases hp with hp | hp
      . cases hp
      . exact hp
     rw [hv];refine .sl false t' l A c css hlen (hown.cap.1) hown.rd (fun a ha hn => hall _ (hown.lt ha).2) (fun h => by cases h) fun k cs j x v h1 h2 h3 => ?_;rw [cellsAV_loose fr, List.getElem?_map] at h2
     cases hj : (cellsAV fr t' fun _ => (l ()).getD k t'.dflt)[j]? with
     | none => rw [hj] at h2; cases h2
     | some y =>
      rw [hj] at h2;simp only [Option.map_some, Option.some.injEq] at h2;subst h2;have h4 := (hcell k cs j y v h1 hj h3).loose_;refine h4.give ?_ hro;exact plainL_get (cellsAV_plain0 false t' fun _ => (l ()).getD k t'.dflt) (j := j) (by rw [cellsAV_loose fr, List.getElem?_map, hj]; rfl)
   . cases h
 . rename_i l cs
   cases hc : coerceL ge l cs with
   | none => rw [hc] at h; cases h
   | some ys =>
    rw [hc] at h;cases h;obtain ⟨vs, rfl, hE⟩ := hx.agg_;have h1 := coerceL_ok hge hro l cs ys vs hc hE (hp.imp (fun h => by simpa only [AV.plain] using h) id);exact .agg _ _ h1.1 h1.2
 . rename_i l cs
   cases hc : coerceL ge l cs with
   | none => rw [hc] at h; cases h
   | some ys =>
    rw [hc] at h;cases h;obtain ⟨b, o, vs, h1, h2, h3, hE, rfl⟩ := hx.pto_;have h4 := coerceL_ok hge hro l cs ys vs hc hE (hp.imp (fun h => by simpa [AV.plain] using h) id);exact .pto _ 0 b o vs (hro _ h1) h2 h4.1 h3 h4.2
 . rename_i l loc;split at h
   . rename_i T cs he
     cases hc : coerceL ge l cs with
     | none => rw [hc] at h; cases h
     | some ys =>
      rw [hc] at h;cases h;obtain ⟨b, vs, hb, hh, hE⟩ := hge _ _ he;obtain ⟨b', hb', rfl⟩ := hx.ptr_;rw [hb] at hb';injection hb' with hb';injection hb' with hb';subst hb';have hall : ∀ b, b < w.heap.size -> ra b := by
       rcases hp with hp | hp
       . cases hp
       . exact hp
      have hlt := (Array.getElem?_eq_some_iff.1 hh).1;have h4 := coerceL_ok hge hro l cs ys vs hc hE (.inr hall);exact .pto _ 0 b 0 vs (hall _ hlt) hlt h4.1 (heap_cells hh) h4.2
   . cases h
 . rename_i l f cs
   cases hc : coerceL ge l cs with
   | none => rw [hc] at h; cases h
   | some ys =>
    rw [hc] at h;cases h;obtain ⟨vs, rfl, hE⟩ := hx.fn_;have h1 := coerceL_ok hge hro l cs ys vs hc hE (hp.imp (fun h => by simpa only [AV.plain] using h) id);exact .fn _ _ _ h1.1 h1.2
 . cases h;exact .un _
 . cases h
theorem coerceL_ok (hge : ∀ loc e, ge loc = some e -> EnR w ρ base ro loc e) (hro : ∀ b, ro b -> ra b) : ∀ (ss : List Sg) (xs ys : List AV) (vs : List Value), coerceL ge ss xs = some ys -> Each w ρ base ro xs vs -> (AV.plainL false xs = true \/ ∀ b, b < w.heap.size -> ra b) -> Each w (fun _ => none) 0 ra ys vs := by
 intro ss xs ys vs h hE hp;unfold coerceL at h;split at h
 . cases h;rw [hE.none];exact .nil
 . rename_i s ss x xs;split at h
   . rename_i y ys' h1 h2;cases h;obtain ⟨v, us, rfl, hx, hE'⟩ := hE.head;refine .cons (coerce_ok hge hro s x y v h1 hx (hp.imp (fun h => ?_) id)) (coerceL_ok hge hro ss xs ys' us h2 hE' (hp.imp (fun h => ?_) id))
     . simp only [AV.plainL, Bool.and_eq_true] at h;exact h.1
     . simp only [AV.plainL, Bool.and_eq_true] at h;exact h.2
   . cases h
 . cases h
end
theorem findCon_ok {cs : List Con} {f : FuncId} {c : Con} (hcs : ∀ c ∈ cs, ConOk P c) (h : findCon cs f = some c) : ConOk P c /\ c.f = f := by
 induction cs with
 | nil => cases h
 | cons c' cs ih =>
  unfold findCon at h;split at h
  . rename_i hf;injection h with h;subst h;exact ⟨hcs _ (.head _), eq_of_beq hf⟩
  . exact ih (fun c hc => hcs c (.tail _ hc)) h
theorem ok_callC {F : FuncId} {c : Operand} {xs : Array Operand} {ts : Array TypeId} {vs : List Value} (hf : r c = .func (.func F) #[] vs.toArray) (hcf : ∀ args w, (callFunc F args).run P w = .ok (.enter F args) w) :
 (execOp r ⟨d, .call { callee := .value c, args := xs, argTypes := ts }, ty, pos, aft, gd⟩).run P w = .ok (.enter F (xs.toList.map r ++ vs).toArray) w := by
 unfold execOp;simp only [resolve, hf, Deferred.ofValue, Sem.run_bind, Sem.run_pure, Result.andThen_ok, invoke, hcf];congr 2;apply Array.ext';simp
def OpR (P : Program) (r : Operand -> Value) (o : Oper) (w : World) (ρ : Nat -> Option Rl) (base : Nat) (ro : Nat -> Prop) (av : AV) : Prop :=
 runsIn P r o w fun v w' => AVR w' ρ base (fun b => ro b \/ w.heap.size <= b) av v
theorem OpR.of {o : Oper} {av : AV} (h : ∃ v, (execOp r o).run P w = .ok (.value v) w /\ AVR w ρ base ro av v) : OpR P r o w ρ base ro av := by
 obtain ⟨v, h1, h2⟩ := h;exact .inl ⟨v, w, h1, Below.refl _ _, h2.mono (fun _ _ _ => rfl) (Ext.refl _) (Nat.le_refl _) fun _ h => .inl h⟩
theorem ok_lenS {t : Nat} {s : ByteArray} {x : Operand} (hx : r x = .string s) (ht : P.underlying t = some .string) : (execOp r ⟨d, .call { callee := .builtin .len, args := #[x], argTypes := #[t] }, ty, pos, aft, gd⟩).run P w = .ok (.value (.int .i64 (s.size : Int))) w := by
 unfold execOp;simp only [resolve, invoke, builtin, Builtin.len_, List.map_toArray, List.map_cons, List.map_nil, hx, underlying, Sem.run_bind, Sem.run_pure, Result.andThen_ok];simp only [ht, List.getElem?_toArray, List.getElem?_cons_zero, Sem.run_bind, Sem.run_pure, Result.andThen_ok, run_program];rfl
theorem lenAV_ok {a av : AV} (hge : ∀ loc e, ge loc = some e -> EnR w ρ base ro loc e) (hs : ∀ s, a ≠ .str s) (h : lenAV ge a = some av) (ha : AVR w ρ base ro a u) : ∃ A n c, u = .slice A n c /\ AVR w ρ base ro av (.int .i64 (n : Int)) := by
 unfold lenAV at h;split at h
 . cases h;exact ⟨none, 0, 0, ha.nil_, .lit _ _⟩
 . cases h;obtain ⟨A, c, css, _, _, _, _, _, _, rfl⟩ := ha.sl_;exact ⟨A, _, c, rfl, .int _ _⟩
 . cases h;obtain ⟨A, c, _, _, rfl⟩ := ha.wide_;exact ⟨A, _, c, rfl, .int _ _⟩
 . split at h
   . rename_i loc fr t T l he;cases h;obtain ⟨A, c, css, hA, _, _, _⟩ := hge _ _ he;obtain ⟨A', n, c', hA', rfl⟩ := ha.own_;rw [hA] at hA';injection hA' with hA';injection hA' with e1 e2 e3;subst e1; subst e2; subst e3;exact ⟨A, _, c, rfl, .int _ _⟩
   . cases h
 . rename_i s;exact absurd rfl (hs s)
 . cases h
theorem ok_minmax {x y : Operand} {ts : Array TypeId} {k : IntKind} {m n : Int} (hx : r x = .int k m) (hy : r y = .int k n) :
 (execOp r ⟨d, .call { callee := .builtin .min, args := #[x, y], argTypes := ts }, ty, pos, aft, gd⟩).run P w = .ok (.value (.int k (cond (decide (n < m)) n m))) w /\ (execOp r ⟨d, .call { callee := .builtin .max, args := #[x, y], argTypes := ts }, ty, pos, aft, gd⟩).run P w = .ok (.value (.int k (cond (decide (m < n)) n m))) w := by
 have e : ∀ (p : Prop) [Decidable p] (a b : Int), (if p then a else b) = cond (decide p) a b := fun p _ a b => by by_cases h : p <;> simp [h]
 constructor
 . unfold execOp;simp only [resolve, invoke, builtin, List.map_toArray, List.map_cons, List.map_nil, hx, hy, Sem.run_bind, run_min_int2, Result.andThen_ok, Sem.run_pure, e]
 . unfold execOp;simp only [resolve, invoke, builtin, List.map_toArray, List.map_cons, List.map_nil, hx, hy, Sem.run_bind, run_max_int2, Result.andThen_ok, Sem.run_pure, e]
theorem pureOp_ok {tb : Tab} {cs : List Con} {g : Operand -> AV} {op : Op} {av : AV} {vcs : List VC} (hty : TyOk P tb) (hcs : ∀ c ∈ cs, ConOk P c) (hge : ∀ loc e, ge loc = some e -> EnR w ρ base ro loc e) (hg : ∀ x ∈ op.operands, AVR w ρ base ro (g x) (r x)) (hroB : ∀ b, ro b -> b < w.heap.size) (hbase : base <= w.heap.size)
 (h : pureOp tb cs ge g op = some (av, vcs)) (hv : ∀ c ∈ vcs, c ()) : OpR P r ⟨d, op, ty, pos, aft, gd⟩ w ρ base ro av := by
 unfold pureOp at h;split at h
 . cases h;exact .of ⟨_, ok_move rfl, hg _ (by simp [Op.operands])⟩
 . cases h;exact .of ⟨_, ok_assign rfl, hg _ (by simp [Op.operands])⟩
 . rename_i c a b
   cases hp : pickAV (g c) (g a) (g b) with
   | none => rw [hp] at h; cases h
   | some av' =>
    rw [hp] at h;cases h;exact .of (pickAV_ok hp (hg _ (by simp [Op.operands])) (hg _ (by simp [Op.operands])) (hg _ (by simp [Op.operands])))
 . rename_i x;have hx := hg x (by simp [Op.operands]);have hp : ∀ ad, r x = .pointer (some ad) -> (execOp r ⟨d, .nilCheck x, ty, pos, aft, gd⟩).run P w = .ok (.value (.pointer (some ad))) w := by
    intro ad he;unfold execOp;simp only [he, Sem.run_pure]
   split at h
   . rename_i l o he;cases h;rw [he] at hx;obtain ⟨b, _, hr⟩ := hx.ptr_;exact .of ⟨_, hp _ hr, hr ▸ hx⟩
   . rename_i l o he;cases h;rw [he] at hx;obtain ⟨b, o', cs', _, _, _, _, hr⟩ := hx.pto_;exact .of ⟨_, hp _ hr, hr ▸ hx⟩
   . rename_i t l k o he;cases h;rw [he] at hx;obtain ⟨A, n, c, b, _, _, _, _, hr⟩ := hx.orp_;exact .of ⟨_, hp _ hr, hr ▸ hx⟩
   . cases h
 . rename_i op T x y _;have hx := hg x (by simp [Op.operands]);have hy := hg y (by simp [Op.operands]);generalize g x = a at *
   generalize g y = b at *
   by_cases hag : (∃ cs, a = .agg cs) /\ ∃ ds, b = .agg ds
   . obtain ⟨⟨cs, rfl⟩, ds, rfl⟩ := hag;obtain ⟨v, h1, h2⟩ := eqlAV_agg (d := d) (ty := ty) (pos := pos) (aft := aft) (gd := gd) hty h hx hy;exact .of ⟨v, h1 w, h2⟩
   . have h' : binAV (tiOf tb T) op a b = some (av, vcs) := by
      unfold eqlAV at h;split at h
      . exact (hag ⟨⟨_, rfl⟩, _, rfl⟩).elim
      . exact h
     exact .of (binAV_ok hty h' hv hx hy)
 . rename_i t x;have hx := hg x (by simp [Op.operands]);split at h
   . rename_i b he;cases h;rw [he] at hx;exact .of ⟨_, ok_not hx.blit_ rfl, .blit _⟩
   . rename_i b he;cases h;rw [he] at hx;exact .of ⟨_, ok_not hx.bool_ rfl, .bool _⟩
   . cases h
 . rename_i t x;have hx := hg x (by simp [Op.operands]);have hn : ∀ k n, r x = .int k n -> (execOp r ⟨d, .unOp .neg t x, ty, pos, aft, gd⟩).run P w = .ok (.value (.int k (k.wrap (-n)))) w := by
    intro k n he;unfold execOp;simp only [he, Op.unary, Op.intArith, Sem.run_bind, Sem.run_pure, Result.andThen_ok, Int.zero_sub]
   split at h
   . rename_i k n he;cases h;rw [he] at hx;exact .of ⟨_, hn _ _ hx.lit_, .lit _ _⟩
   . rename_i n he;cases h;rw [he] at hx;refine .of ⟨_, hn _ _ hx.int_, ?_⟩;rw [wrap_in64 (hv _ (.head _))];exact .int _ fun _ => -n ()
   . cases h
 . rename_i s t x;have hx := hg x (by simp [Op.operands]);split at h
   . rename_i k0 k kk n e1 e2 he;cases h;rw [he] at hx;obtain ⟨i1, _, h1, h2⟩ := tiOf_ hty e1;obtain ⟨i2, _, h3, h4⟩ := tiOf_ hty e2;obtain ⟨ds1, hd1, _⟩ := tyB_desc h2;exact .of ⟨_, ok_conv hx.lit_ hd1 (tyB_int h4 h3) rfl rfl, .lit _ _⟩
   . rename_i k0 k kk n e1 e2 he;rw [he] at hx;obtain ⟨i1, _, h1, h2⟩ := tiOf_ hty e1;obtain ⟨i2, _, h3, h4⟩ := tiOf_ hty e2;obtain ⟨ds1, hd1, _⟩ := tyB_desc h2;split at h
     . rename_i hk;subst hk;cases h;exact .of ⟨_, ok_conv hx.int_ hd1 (tyB_int h4 h3) (wrap_in64 (hv _ (.head _))) rfl, .int _ _⟩
     . cases h;exact .of ⟨_, ok_conv hx.int_ hd1 (tyB_int h4 h3) rfl rfl, .int _ fun _ => k.wrap (n ())⟩
   . cases h
 . rename_i T x f;have hx := hg x (by simp [Op.operands])
   cases hT : alook tb T with
   | none => rw [hT] at h; cases h
   | some i =>
    rw [hT] at h;simp only [Option.bind_some] at h;split at h
    . rename_i off sz a hf;split at h
      . cases h
      . rename_i hsz
        cases ha : addOff (g x) off with
        | none => rw [ha] at h; cases h
        | some av' =>
         rw [ha] at h;cases h;obtain ⟨b, o, h1, h2⟩ := addOff_ok ha hx;exact .of ⟨_, ok_field h1 (fieldOff_of (hty T i hT) hf (by simpa using hsz)) rfl, h2⟩
    . cases h
 . rename_i T x f;have hx := hg x (by simp [Op.operands])
   cases hT : alook tb T with
   | none => rw [hT] at h; cases h
   | some i =>
    rw [hT] at h;simp only [Option.bind_some] at h;split at h
    . rename_i off sz a cells hf hc
      cases hcut : cut a off sz cells with
      | none => rw [hcut] at h; cases h
      | some av' =>
       rw [hcut] at h;cases h;rw [hc] at hx;exact .of (field_ok (hty T i hT) hf hcut hx)
    . cases h
 . rename_i T x y;have hx := hg x (by simp [Op.operands]);have hy := hg y (by simp [Op.operands]);split at h
   . rename_i e sz b fr t l kk k e1 e2 e3;split at h
     . rename_i hs;cases h;rw [e2] at hx;obtain ⟨i, _, h1, h2⟩ := tiOf_ hty e1;obtain ⟨v, k1, k2⟩ := index_ok (d := d) (ty := ty) (pos := pos) (aft := aft) (gd := gd) h2 h1 (eq_of_beq hs) hx (asInt_ e3 hy) (hv _ (.head _));exact .of ⟨v, k1 w, k2⟩
     . cases h
   . rename_i e sz b fr t l n kk k e1 e2 e3;split at h
     . rename_i hs;cases h;rw [e2] at hx;obtain ⟨i, _, h1, h2⟩ := tiOf_ hty e1;obtain ⟨v, k1, k2⟩ := indexW_ok (d := d) (ty := ty) (pos := pos) (aft := aft) (gd := gd) h2 h1 (eq_of_beq hs) hx (asInt_ e3 hy) (hv _ (.head _));exact .of ⟨v, k1 w, k2⟩
     . cases h
   . rename_i e sz b loc kk k e1 e2 e3;split at h
     . rename_i fr t T' l he;split at h
       . rename_i hs;cases h;rw [e2] at hx;obtain ⟨i, _, h1, h2⟩ := tiOf_ hty e1;obtain ⟨v, k1, k2⟩ := indexO_ok (d := d) (ty := ty) (pos := pos) (aft := aft) (gd := gd) hge h2 h1 (eq_of_beq hs) he hx (asInt_ e3 hy) (hv _ (.head _));exact .of ⟨v, k1 w, k2⟩
       . cases h
     . cases h
   . obtain ⟨v, k1, k2⟩ := arrAddr_ok (d := d) (ty := ty) (pos := pos) (aft := aft) (gd := gd) hty h hx hy;exact .of ⟨v, k1 w, k2⟩
 . rename_i T x i;exact .of (indexAV_ok hty h hv (hg x (by simp [Op.operands])) (hg i (by simp [Op.operands])))
 . rename_i T x i ok;have hx := hg x (by simp [Op.operands]);have hi := hg i (by simp [Op.operands]);split at h
   . rename_i kt et c t ag loc e1 e2;split at h
     . rename_i fr ag' c' t' T' m k e3 e4;split at h
       . rename_i hc;obtain ⟨rfl, rfl, rfl⟩ := hc;cases h;rw [e2] at hx;obtain ⟨ti, _, h1, h2⟩ := tiOf_ hty e1;exact .of (lookup_ok h2 h1 (hge _ _ e3) hx (keyAV_ok e4 hi))
       . cases h
     . cases h
   . cases h
 . rename_i x;have hx := hg x (by simp [Op.operands]);split at h
   . rename_i ml l2 e1;split at h
     . rename_i fr ag c t T m ml' c' seen left e2 e3;split at h
       . rename_i hc;obtain ⟨rfl, rfl⟩ := hc;cases h;rw [e1] at hx;exact .of (entry_ok (hge _ _ e2) (hge _ _ e3) hx (hv _ (.head _)))
       . cases h
     . cases h
   . cases h
 . rename_i T x hi;have hx := hg x (by simp [Op.operands]);have hhi := hg hi (by simp [Op.operands]);split at h
   . rename_i e sz b fr t l e1 e2;split at h
     . rename_i hs;split at h
       . rename_i kk bb eb;cases h;rw [e2] at hx;obtain ⟨i, hT, h1, h2⟩ := tiOf_ hty e1;obtain ⟨A, c, css, _, _, _, _, _, _, hrx⟩ := hx.sl_;rw [hrx] at hx;exact .of (sliceH_ok hty hT h1 (eq_of_beq hs) hrx hx (asInt_ eb hhi) (hv _ (.head _)))
       . cases h
     . cases h
   . rename_i e sz b fr t l n e1 e2;split at h
     . rename_i hs;split at h
       . rename_i kk bb eb;cases h;rw [e2] at hx;obtain ⟨i, hT, h1, h2⟩ := tiOf_ hty e1;obtain ⟨A, c, _, hl, hrx⟩ := hx.wide_;exact .of (sliceH_ok hty hT h1 (eq_of_beq hs) hrx hl (asInt_ eb hhi) (hv _ (.head _)))
       . cases h
     . cases h
   . cases h
 . rename_i T x lo hi hno;have hx := hg x (by simp [Op.operands]);split at h
   . rename_i e sz b fr t l e1 e2;split at h
     . rename_i hs;split at h
       . rename_i fa fb ha hb;cases h;rw [e2] at hx;obtain ⟨i, hT, h1, h2⟩ := tiOf_ hty e1;exact .of (sliceOp_ok hty hT h1 (eq_of_beq hs) hx ha hb (fun y hy => hg y (by subst hy; simp [Op.operands])) (fun y hy => hg y (by subst hy; simp [Op.operands])) (hv _ (.head _)))
       . cases h
     . cases h
   . cases h
 . rename_i x i;have hx := hg x (by simp [Op.operands]);split at h
   . rename_i l he
     cases hl : l[i]? with
     | none => rw [hl] at h; cases h
     | some av' =>
      rw [hl] at h;cases h;rw [he] at hx;obtain ⟨vs, h1, hE⟩ := hx.tup_;obtain ⟨v, h2, h3⟩ := hE.get hl;exact .of ⟨v, ok_extract h1 (by simpa using h2), h3⟩
   . cases h
 . rename_i f first caps
   split at h
   . rename_i hf;cases h;have hf' : first = #[] := by simpa using hf
     subst hf';have hE : Each w ρ base ro (caps.toList.map g) (caps.toList.map r) := each_map fun x hx => hg x (by simpa [Op.operands] using hx);refine .of ⟨.func (.func f) #[] (caps.toList.map r).toArray, ?_, .fn _ _ _ hE.1 hE.2⟩;unfold execOp;simp only [Instr.makeFunc, Sem.run_bind, Sem.run_pure, Result.andThen_ok];rw [show caps.map r = (caps.toList.map r).toArray by apply Array.ext'; simp, show (#[] : Array Operand).map r = #[] by simp]
   . cases h
 . rename_i T x;have hx := hg x (by simp [Op.operands]);split at h
   . rename_i i hT
     cases hl : loadAV ge i.ti.agg i.sz (g x) with
     | none => rw [hl] at h; cases h
     | some av' =>
      rw [hl] at h;cases h;obtain ⟨ad, v, h1, h2, h3⟩ := load_ok hge (hty T i hT) hl hx;exact .of ⟨v, ok_load h1 h2, h3⟩
   . cases h
 . rename_i T parts;have hp : ∀ p ∈ parts.toList, AVR w ρ base ro (g p.2) (r p.2) := fun p hp => hg _ (by simp only [Op.operands]; simpa using ⟨p.1, by simpa using hp⟩);split at h
   . rename_i i hT;split at h
     . rename_i fs hti;split at h
       . cases h
       . rename_i hz
         cases hf : fillAV (fun k => (fs[k]?).map fun f => (f.1, f.2.1)) i.z (parts.toList.map fun p => (p.1, g p.2)) with
         | none => rw [hf] at h; cases h
         | some out =>
          rw [hf] at h;cases h;exact .of (build_ok (hty T i hT) hp (by simpa using hz) (.inl ⟨fs, hti, rfl⟩) hf rfl)
     . rename_i n e esz a hti;split at h
       . cases h
       . rename_i hz
         cases hf : fillAV (fun k => some (k * esz, esz)) i.z (parts.toList.map fun p => (p.1, g p.2)) with
         | none => rw [hf] at h; cases h
         | some out =>
          rw [hf] at h;cases h;exact .of (build_ok (hty T i hT) hp (by simpa using hz) (.inr ⟨n, e, esz, a, hti, rfl⟩) hf rfl)
     . cases h
   . cases h
 . rename_i c;obtain ⟨callee, cargs, cts⟩ := c;dsimp only at h;split at h
   . split at h
     . rename_i x y e1;have ha : cargs = #[x, y] := by simpa using congrArg List.toArray e1
       subst ha;have hx := hg x (by simp [Op.operands, Call.operands]);have hy := hg y (by simp [Op.operands, Call.operands]);split at h
       . rename_i k fa k' fb e2 e3;split at h
         . rename_i hk;subst hk;cases h;exact .of ⟨_, (ok_minmax (asInt_ e2 hx) (asInt_ e3 hy)).1, .int k fun _ => cond (decide (fb () < fa ())) (fb ()) (fa ())⟩
         . cases h
       . cases h
     . cases h
   . split at h
     . rename_i x y e1;have ha : cargs = #[x, y] := by simpa using congrArg List.toArray e1
       subst ha;have hx := hg x (by simp [Op.operands, Call.operands]);have hy := hg y (by simp [Op.operands, Call.operands]);split at h
       . rename_i k fa k' fb e2 e3;split at h
         . rename_i hk;subst hk;cases h;exact .of ⟨_, (ok_minmax (asInt_ e2 hx) (asInt_ e3 hy)).2, .int k fun _ => cond (decide (fa () < fb ())) (fb ()) (fa ())⟩
         . cases h
       . cases h
     . cases h
   . split at h
     . rename_i x T e1 e2;have ha : cargs = #[x] := by simpa using congrArg List.toArray e1
       have ht : cts = #[T] := by simpa using congrArg List.toArray e2
       subst ha; subst ht;have hx := hg x (by simp [Op.operands, Call.operands]);split at h
       . cases h
       . rename_i e sz b y e3 hy
         cases hl : lenAV ge (g x) with
         | none => rw [hl] at h; cases h
         | some av' =>
          rw [hl] at h;cases h;obtain ⟨i, _, h1, h2⟩ := tiOf_ hty e3;obtain ⟨A, n, c, h3, h4⟩ := lenAV_ok hge (fun s hs => by first | exact hy s hs | exact hy _ _ _ s rfl hs | simp_all) hl hx;exact .of ⟨_, ok_len h3 (elemOf_spec (elemOf_of h2 h1)).1 rfl, h4⟩
       . rename_i s e3 he;cases h;rw [he] at hx;obtain ⟨i, _, h1, h2⟩ := tiOf_ hty e3;exact .of ⟨_, ok_lenS hx.str_ (tyB_str h2 h1), .int _ fun _ => ((s ()).size : Int)⟩
       . cases h
     . cases h
   . rename_i fo;split at h
     . rename_i f caps hfo;split at h
       . rename_i con hcon;split at h
         . rename_i avs havs;split at h
           . rename_i res hres;split at h
             . rename_i hcond;cases h;obtain ⟨hok, rfl⟩ := findCon_ok hcs hcon;have hx := hg fo (by simp [Op.operands, Call.operands]);rw [hfo] at hx;obtain ⟨vs, hvs, hE⟩ := hx.fn_;have hA : Each w ρ base ro (cargs.toList.map g ++ caps) (cargs.toList.map r ++ vs) := (each_map fun x hx => hg x (by simp only [Op.operands, Call.operands]; simpa using .inr (by simpa using hx))).append hE;have hpre := hv _ (.head _)
               cases hfr : AV.plain true res.av with
               | true =>
                have h1 := hok.2 avs res hres w (fun b => b < w.heap.size) _ (fun _ h => h) (coerceL_ok hge hroB _ _ _ _ havs hA (.inr fun _ h => h)) hpre;refine .inr ⟨_, _, ok_callC hvs hok.1, h1.mono fun e w' ⟨v, h2, h3, h4⟩ => ⟨v, h2, h3, ?_⟩⟩;exact (h4.plain (ρ' := ρ) (ro' := fun b => ro b \/ w.heap.size <= b) hfr fun b h5 _ => .inr (h5 rfl)).mono (fun _ _ _ => rfl) (Ext.refl _) hbase fun _ h => h
               | false =>
                rw [hfr, Bool.false_or, Bool.and_eq_true] at hcond;have h1 := hok.2 avs res hres w ro _ hroB (coerceL_ok hge (fun _ h => h) _ _ _ _ havs hA (.inl hcond.1)) hpre;refine .inr ⟨_, _, ok_callC hvs hok.1, h1.mono fun e w' ⟨v, h2, h3, h4⟩ => ⟨v, h2, h3, ?_⟩⟩;exact (h4.plain (ρ' := ρ) (ro' := fun b => ro b \/ w.heap.size <= b) hcond.2 fun b _ h5 => h5).mono (fun _ _ _ => rfl) (Ext.refl _) hbase fun _ h => h
             . cases h
           . cases h
         . cases h
       . cases h
     . cases h
   . cases h
 . cases h
end
structure Sx where
 t : List (Nat × AV)
 e : List (Nat × En)
 n : Nat
structure Bs where
 t : List (Nat × AV)
 e : List (Nat × En)
def lookT (B : Bs) (S : Sx) (d : Nat) : Option AV := match alook S.t d with
 | some x => some x
 | none => alook B.t d
def lookE (B : Bs) (S : Sx) (l : Nat) : Option En := match alook S.e l with
 | some x => some x
 | none => alook B.e l
def getT (B : Bs) (S : Sx) (d : Nat) : AV := match lookT B S d with
 | some x => x
 | none => .un
def getO (B : Bs) (S : Sx) : Operand -> AV
 | .tmp d => getT B S d
 | .const v => ofVal v
 | .func f => .fn f []
 | .global _ => .un
structure Pm where
 rd : Nat -> Prop
 pl : Nat -> Option Rl
 fx : Bool
structure FromG (pl : Nat -> Option Rl) (w w' : World) : Prop where
 os : w'.os = w.os
 tape : w'.tape = w.tape
 output : w'.output = w.output
 size : w.heap.size <= w'.heap.size
 block : ∀ k, k < w.heap.size -> (∀ l r, pl l = some r -> r.blk ≠ some k) -> w'.heap[k]? = w.heap[k]?
theorem FromG.refl (pl : Nat -> Option Rl) (w : World) : FromG pl w w := ⟨rfl, rfl, rfl, Nat.le_refl _, fun _ _ _ => rfl⟩
theorem FromG.grown {pl : Nat -> Option Rl} {w0 w w' : World} {row : Option Nat} (h : FromG pl w0 w) (hg : w.grownBy w' row) (hr : ∀ k, row = some k -> w0.heap.size <= k \/ ∃ l r, pl l = some r /\ r.blk = some k) : FromG pl w0 w' :=
 ⟨hg.os.trans h.os, hg.tape.trans h.tape, hg.output.trans h.output, Nat.le_trans h.size hg.size, fun k hk hn => (hg.block k (Nat.lt_of_lt_of_le hk h.size) fun e => by
  rcases hr k e.symm with h1 | ⟨l, r, h1, h2⟩
  . omega
  . exact hn l r h1 h2).trans (h.block k hk hn)⟩
theorem grown_from {w w' : World} (h : From w w') : w.grownBy w' none := ⟨h.os, h.tape, h.output, h.size, fun i hi _ => h.block i hi⟩
theorem FromG.andThen {pl : Nat -> Option Rl} {w0 w w' : World} (h : FromG pl w0 w) (hb : From w w') : FromG pl w0 w' := h.grown (grown_from hb) fun k hk => by cases hk
theorem FromG.alloc {pl : Nat -> Option Rl} {w0 w : World} (h : FromG pl w0 w) (o : Obj) : FromG pl w0 (w.alloc o) := h.grown (World.grownBy_alloc w o none) fun k hk => by cases hk
theorem FromG.none_ {w w' : World} (h : FromG (fun _ => none) w w') : From w w' := ⟨h.os, h.tape, h.output, h.size, fun k hk => h.block k hk fun _ _ h => by cases h⟩
structure SimR (w0 : World) (S0 : Pm) (N : Nat) (B : Bs) (S : Sx) (a : Act) (w : World) (ρ : Nat -> Option Rl) (ro : Nat -> Prop) : Prop where
 from_ : FromG S0.pl w0 w
 size : a.tmps.size = N
 defers : a.defers = []
 roB : ∀ b, ro b -> b < w.heap.size
 tm : ∀ d x, lookT B S d = some x -> ∃ u, a.tmps[d]? = some u /\ AVR w ρ w0.heap.size ro x u
 en : ∀ l e, lookE B S l = some e -> EnR w ρ w0.heap.size ro l e
 apart : ∀ l l' r r' b, l ≠ l' -> ρ l = some r -> ρ l' = some r' -> r.blk = some b -> r'.blk ≠ some b
 fresh : ∀ l, S.n <= l -> ρ l = none
 own : ∀ l r b, ρ l = some r -> r.blk = some b -> b < w.heap.size /\ ¬ ro b /\ (w0.heap.size <= b \/ ∃ r0, S0.pl l = some r0 /\ r0.blk = some b)
 roS : ∀ b, ro b -> b < w0.heap.size -> S0.rd b
 solid : ∀ l r, S0.pl l = some r -> (r.solid || S0.fx) = true -> ρ l = some r
 disT : ∀ d x, alook B.t d = some x -> alook S.t d = none
 disE : ∀ l e, alook B.e l = some e -> alook S.e l = none
def Sim (w0 : World) (S0 : Pm) (N : Nat) (B : Bs) (S : Sx) (a : Act) (w : World) : Prop := ∃ ρ ro, SimR w0 S0 N B S a w ρ ro
section
variable {w w' w0 : World} {ρ ρ' : Nat -> Option Rl} {base : Nat} {ro ro' : Nat -> Prop} {S0 : Pm} {N : Nat} {B : Bs} {S : Sx} {a : Act}
theorem SimR.get (H : SimR w0 S0 N B S a w ρ ro) (x : Operand) : AVR w ρ w0.heap.size ro (getO B S x) (a.eval x) := by
 cases x with
 | tmp d =>
  show AVR w ρ w0.heap.size ro (getT B S d) _
  unfold getT
  cases h : lookT B S d with
  | none => exact .un _
  | some y =>
   obtain ⟨u, h1, h2⟩ := H.tm d y h;rw [eval_get h1];exact h2
 | const v => exact ofVal_ v
 | func f => exact .fn f [] [] rfl fun j x v h => by simp at h
 | global g => exact .un _
theorem AVR.bound {x : AV} {v : Value} (h : AVR w ρ base ro x v) : AVR w ρ base (fun b => ro b /\ b < w.heap.size) x v := by
 induction h with
 | un => exact .un _
 | int => exact .int _ _
 | lit => exact .lit _ _
 | bool => exact .bool _
 | blit => exact .blit _
 | str => exact .str _
 | nil => exact .nil
 | sl fr t l A c css hl hc hr hro hfr h ih => exact .sl fr t l A c css hl hc hr (fun a ha hn => ⟨hro a ha hn, Rd.bound hr hn a ha⟩) hfr ih
 | wide fr t l n A c hn h ih => exact .wide fr t l n A c hn ih
 | pto cells off b o cs hro hlt hl hc h ih => exact .pto cells off b o cs ⟨hro, hlt⟩ hlt hl hc ih
 | ptr loc off b h => exact .ptr _ _ _ h
 | own loc A n c h => exact .own _ _ _ _ h
 | orp t loc k off A n c b h hA h0 hn => exact .orp _ _ _ _ _ _ _ _ h hA h0 hn
 | mp l b h => exact .mp _ _ h
 | stamp l s h => exact .stamp _ _ h
 | it l l2 b h => exact .it _ _ _ h
 | agg l vs hl h ih => exact .agg _ _ hl ih
 | tup l vs hl h ih => exact .tup _ _ hl ih
 | fn f caps vs hl h ih => exact .fn _ _ _ hl ih
theorem MapR.map_ {fr ag : Bool} {c : Kc} {t : Tc} {m : List Kx -> Option t.el} {es : Array MapEntry} {ρ ρ' : Nat -> Option Rl} {base base' : Nat} {ro ro' : Nat -> Prop} (h : MapR w ρ base ro fr ag c t m es) (hav : ∀ x v, AVR w ρ base ro (elAV ag fr t fun _ => x) v -> AVR w' ρ' base' ro' (elAV ag fr t fun _ => x) v) : MapR w' ρ' base' ro' fr ag c t m es :=
 ⟨fun e he => by obtain ⟨key, x, h1, h2, h3⟩ := h.1 e he; exact ⟨key, x, h1, h2, hav x _ h3⟩, h.2⟩
theorem EnR.mono {l : Nat} {e : En} (h : EnR w ρ base ro l e) (hw : ∀ b, ro b -> b < w.heap.size -> w'.heap[b]? = w.heap[b]?) (hown : ∀ l r b, ρ l = some r -> r.blk = some b -> w'.heap[b]? = w.heap[b]?) (hρ : Ext ρ ρ') (hro : ∀ b, ro b -> ro' b) : EnR w' ρ' base ro' l e := by
 cases e with
 | box T cells =>
  obtain ⟨b, cs, h1, h4, h5⟩ := h;exact ⟨b, cs, hρ _ _ h1, (hown _ _ b h1 rfl).trans h4, h5.mono hw hρ (Nat.le_refl _) hro⟩
 | row fr t T m =>
  obtain ⟨A, c, css, h1, h2, h3, h5⟩ := h;refine ⟨A, c, css, hρ _ _ h1, h2.keep fun a ha => hown _ _ a.block h1 (by simp [Rl.blk, ha]), h3, fun k cs j x v k1 k2 k3 => (h5 k cs j x v k1 k2 k3).mono hw hρ (Nat.le_refl _) hro⟩
 | map fr ag c t T m =>
  obtain ⟨b, es, clock, h1, h2, h3, h4⟩ := h;exact ⟨b, es, clock, hρ _ _ h1, (hown _ _ b h1 rfl).trans h2, h3, h4.map_ fun x v hx => hx.mono hw hρ (Nat.le_refl _) hro⟩
 | iter ml c seen left =>
  obtain ⟨b, b2, es, clock, since, stamps, c0, h1, h2, h3, h4, h5⟩ := h;exact ⟨b, b2, es, clock, since, stamps, c0, hρ _ _ h1, hρ _ _ h2, (hown _ _ b h2 rfl).trans h3, (hown _ _ b2 h1 rfl).trans h4, h5⟩
 | stamp ml c key =>
  obtain ⟨b, es, clock, s, e, h1, h2, h3, h4⟩ := h;exact ⟨b, es, clock, s, e, hρ _ _ h1, hρ _ _ h2, (hown _ _ b h2 rfl).trans h3, h4⟩
 | dead => obtain ⟨r, h⟩ := h; exact ⟨r, hρ _ _ h⟩
theorem EnR.none {l : Nat} {e : En} (h : EnR w ρ base ro l e) : ∃ r, ρ l = some r := by
 cases e with
 | box T cells => obtain ⟨b, cs, h1, _⟩ := h; exact ⟨_, h1⟩
 | row fr t T m => obtain ⟨A, c, css, h1, _⟩ := h; exact ⟨_, h1⟩
 | map fr ag c t T m => obtain ⟨b, es, clock, h1, _⟩ := h; exact ⟨_, h1⟩
 | iter ml c seen left => obtain ⟨b, b2, es, clock, since, stamps, c0, h1, _⟩ := h; exact ⟨_, h1⟩
 | stamp ml c key => obtain ⟨b, es, clock, s, e, h1, _⟩ := h; exact ⟨_, h1⟩
 | dead => exact h
theorem SimR.calm (H : SimR w0 S0 N B S a w ρ ro) (hb : From w w') : SimR w0 S0 N B S a w' ρ (fun b => (ro b \/ w.heap.size <= b) /\ b < w'.heap.size) := by
 have hw : ∀ b, ro b -> b < w.heap.size -> w'.heap[b]? = w.heap[b]? := fun b _ h => hb.block b h;have hro : ∀ b, ro b -> (ro b \/ w.heap.size <= b) /\ b < w'.heap.size := fun b h => ⟨.inl h, Nat.lt_of_lt_of_le (H.roB b h) hb.size⟩
 have hown : ∀ l r b, ρ l = some r -> r.blk = some b -> w'.heap[b]? = w.heap[b]? /\ ¬ ((ro b \/ w.heap.size <= b) /\ b < w'.heap.size) := by
  intro l r b h1 h2;have h3 := H.own l r b h1 h2;refine ⟨hb.block b h3.1, ?_⟩
  rintro ⟨h4 | h4, _⟩
  . exact h3.2.1 h4
  . omega
 refine ⟨H.from_.andThen hb, H.size, H.defers, fun b h => h.2, fun d x h => ?_, fun l e h => (H.en l e h).mono hw (fun l r b h1 h2 => (hown l r b h1 h2).1) (Ext.refl _) hro, H.apart, H.fresh, fun l r b h1 h2 => ?_, fun b h hlt => H.roS b (h.1.resolve_right fun h => by have := H.from_.size; omega) hlt, H.solid, H.disT, H.disE⟩
 . obtain ⟨u, h1, h2⟩ := H.tm d x h;exact ⟨u, h1, h2.mono hw (Ext.refl _) (Nat.le_refl _) hro⟩
 . have h3 := H.own l r b h1 h2;exact ⟨Nat.lt_of_lt_of_le h3.1 hb.size, (hown l r b h1 h2).2, h3.2.2⟩
theorem AVR.calm {x : AV} {v : Value} (h : AVR w' ρ base (fun b => ro b \/ w.heap.size <= b) x v) : AVR w' ρ base (fun b => (ro b \/ w.heap.size <= b) /\ b < w'.heap.size) x v := h.bound
def putT (B : Bs) (S : Sx) (N d : Nat) (x : AV) : Option Sx :=
 if (alook B.t d).isSome || decide (N <= d) then none else some ⟨(d, x) :: S.t, S.e, S.n⟩
theorem alook_cons {α : Type} (k : Nat) (v : α) (l : List (Nat × α)) (d : Nat) : alook ((k, v) :: l) d = if k = d then some v else alook l d := by
 show (if k == d then some v else alook l d) = _
 by_cases h : k = d
 . simp [h]
 . simp [h]
theorem SimR.put (H : SimR w0 S0 N B S a w ρ ro) {d : Nat} {x : AV} {S' : Sx} {v : Value} (hp : putT B S N d x = some S') (hv : AVR w ρ w0.heap.size ro x v) : SimR w0 S0 N B S' (a.put (some d) v) w ρ ro := by
 unfold putT at hp;split at hp
 . cases hp
 . rename_i hc;simp only [Bool.or_eq_true, decide_eq_true_eq, not_or, Bool.not_eq_true, Option.isSome_eq_false_iff, Option.isNone_iff_eq_none] at hc;cases hp;have hlt : d < a.tmps.size := by rw [H.size]; omega
   refine ⟨H.from_, by rw [put_size]; exact H.size, H.defers, H.roB, fun s y h => ?_, H.en, H.apart, H.fresh, H.own, H.roS, H.solid, fun s y h => ?_, H.disE⟩
   . unfold lookT at h;rw [alook_cons] at h;rw [put_get hlt];by_cases hs : d = s
     . rw [if_pos hs] at h;rw [if_pos hs.symm];simp only [Option.some.injEq] at h;subst h;exact ⟨v, rfl, hv⟩
     . rw [if_neg hs] at h;rw [if_neg (fun e => hs e.symm)];exact H.tm s y h
   . rw [alook_cons, if_neg]
     . exact H.disT s y h
     . rintro rfl
       rw [hc.1] at h;cases h
/- no slot and no entry names a location -/
def quietT (loc : Nat) : List (Nat × AV) -> Bool
 | [] => true
 | (_, x) :: l => !AV.has loc x && quietT loc l
def quietEn (loc : Nat) : En -> Bool
 | .box _ cs => !AV.hasL loc cs
 | _ => true
def quietE (loc : Nat) : List (Nat × En) -> Bool
 | [] => true
 | (_, e) :: l => quietEn loc e && quietE loc l
def quiet (loc : Nat) (B : Bs) : Bool := quietT loc B.t && quietE loc B.e
def killT (loc : Nat) : List (Nat × AV) -> List (Nat × AV)
 | [] => []
 | (d, x) :: l => (d, if AV.has loc x then .un else x) :: killT loc l
def killL (loc : Nat) : List AV -> List AV
 | [] => []
 | x :: l => (if AV.has loc x then .un else x) :: killL loc l
def killEn (loc : Nat) : En -> En
 | .box T cs => .box T (killL loc cs)
 | e => e
def killE (loc : Nat) : List (Nat × En) -> List (Nat × En)
 | [] => []
 | (k, e) :: l => (k, killEn loc e) :: killE loc l
def kill (loc : Nat) (S : Sx) : Sx := ⟨killT loc S.t, killE loc S.e, S.n⟩
theorem quietT_get {loc d : Nat} {x : AV} : ∀ {l : List (Nat × AV)}, quietT loc l = true -> alook l d = some x -> AV.has loc x = false
 | (k, y) :: l, h, hx => by
  unfold quietT at h;simp only [Bool.and_eq_true, Bool.not_eq_true'] at h;rw [alook_cons] at hx;split at hx
  . cases hx; exact h.1
  . exact quietT_get h.2 hx
 | [], _, hx => by cases hx
theorem quietE_get {loc d T : Nat} {cs : List AV} : ∀ {l : List (Nat × En)}, quietE loc l = true -> alook l d = some (.box T cs) -> AV.hasL loc cs = false
 | (k, e) :: l, h, hx => by
  unfold quietE at h;simp only [Bool.and_eq_true] at h;rw [alook_cons] at hx;split at hx
  . cases hx; simpa [quietEn] using h.1
  . exact quietE_get h.2 hx
 | [], _, hx => by cases hx
theorem alook_killT {loc d : Nat} : ∀ (l : List (Nat × AV)), alook (killT loc l) d = (alook l d).map fun x => if AV.has loc x then .un else x
 | [] => rfl
 | (k, y) :: l => by
  unfold killT;rw [alook_cons, alook_cons, alook_killT l];split <;> rfl
theorem alook_killE {loc d : Nat} : ∀ (l : List (Nat × En)), alook (killE loc l) d = (alook l d).map (killEn loc)
 | [] => rfl
 | (k, e) :: l => by
  unfold killE;rw [alook_cons, alook_cons, alook_killE l];split <;> rfl
theorem killL_get {loc : Nat} : ∀ (l : List AV) (j : Nat), (killL loc l)[j]? = (l[j]?).map fun x => if AV.has loc x then .un else x
 | [], j => by simp [killL]
 | x :: l, 0 => by simp [killL]
 | x :: l, j + 1 => by simpa [killL] using killL_get l j
theorem killL_len {loc : Nat} : ∀ (l : List AV), (killL loc l).length = l.length
 | [] => rfl
 | x :: l => by simp [killL, killL_len l]
theorem killed_has {loc : Nat} {x : AV} : AV.has loc (if AV.has loc x = true then .un else x) = false := by
 split
 . rfl
 . rename_i h; simpa using h
theorem hasL_of {loc : Nat} : ∀ {l : List AV}, (∀ (j : Nat) x, l[j]? = some x -> AV.has loc x = false) -> AV.hasL loc l = false
 | [], _ => rfl
 | x :: l, h => by
  unfold AV.hasL;rw [h 0 x rfl, hasL_of fun j y hy => h (j + 1) y (by simpa using hy)];rfl
theorem SimR.killed (H : SimR w0 S0 N B S a w ρ ro) (loc : Nat) : SimR w0 S0 N B (kill loc S) a w ρ ro := by
 refine ⟨H.from_, H.size, H.defers, H.roB, fun d x h => ?_, fun l e h => ?_, H.apart, H.fresh, H.own, H.roS, H.solid, fun d x h => by unfold kill; rw [alook_killT, H.disT d x h]; rfl, fun l e h => by unfold kill; rw [alook_killE, H.disE l e h]; rfl⟩
 . unfold lookT kill at h;rw [alook_killT] at h
   cases hd : alook S.t d with
   | none =>
    rw [hd] at h;exact H.tm d x (by unfold lookT; rw [hd]; exact h)
   | some y =>
    rw [hd] at h;simp only [Option.map_some, Option.some.injEq] at h;obtain ⟨u, h1, h2⟩ := H.tm d y (by unfold lookT; rw [hd]);refine ⟨u, h1, ?_⟩;rw [<- h];split
    . exact .un _
    . exact h2
 . unfold lookE kill at h;rw [alook_killE] at h
   cases hd : alook S.e l with
   | none =>
    rw [hd] at h;exact H.en l e (by unfold lookE; rw [hd]; exact h)
   | some y =>
    rw [hd] at h;simp only [Option.map_some, Option.some.injEq] at h;have h1 := H.en l y (by unfold lookE; rw [hd]);rw [<- h]
    cases y with
    | row fr t T m => exact h1
    | map fr ag c t T m => exact h1
    | iter ml c seen left => exact h1
    | stamp ml c key => exact h1
    | dead => exact h1
    | box T cs =>
     obtain ⟨b, us, k1, k4, k5⟩ := h1;refine ⟨b, us, k1, k4, by rw [killL_len]; exact k5.1, fun j x v hx hv => ?_⟩;rw [killL_get] at hx
     cases hj : cs[j]? with
     | none => rw [hj] at hx; cases hx
     | some z =>
      rw [hj] at hx;simp only [Option.map_some, Option.some.injEq] at hx;rw [<- hx];split
      . exact .un _
      . exact k5.2 j z v hj hv
theorem kill_quiet {loc : Nat} (hq : quiet loc B = true) : (∀ d x, lookT B (kill loc S) d = some x -> AV.has loc x = false) /\ ∀ l T cs, lookE B (kill loc S) l = some (.box T cs) -> AV.hasL loc cs = false := by
 unfold quiet at hq;simp only [Bool.and_eq_true] at hq;refine ⟨fun d x h => ?_, fun l T cs h => ?_⟩
 . unfold lookT kill at h;rw [alook_killT] at h
   cases hd : alook S.t d with
   | none => rw [hd] at h; exact quietT_get hq.1 h
   | some y =>
    rw [hd] at h;simp only [Option.map_some, Option.some.injEq] at h;rw [<- h];exact killed_has
 . unfold lookE kill at h;rw [alook_killE] at h
   cases hd : alook S.e l with
   | none => rw [hd] at h; exact quietE_get hq.2 h
   | some y =>
    rw [hd] at h;simp only [Option.map_some, Option.some.injEq] at h
    cases y with
    | row fr t T' m => cases h
    | map fr ag c t T' m => cases h
    | iter ml c seen left => cases h
    | stamp ml c key => cases h
    | dead => cases h
    | box T' cs' =>
     cases h;refine hasL_of fun j x hx => ?_;rw [killL_get] at hx
     cases hj : cs'[j]? with
     | none => rw [hj] at hx; cases hx
     | some z =>
      rw [hj] at hx;simp only [Option.map_some, Option.some.injEq] at hx;rw [<- hx];exact killed_has
/- what tells of a map is forgotten as the map changes -/
def refTo (loc : Nat) : En -> Bool
 | .iter ml _ _ _ => ml == loc
 | .stamp ml _ _ => ml == loc
 | _ => false
def noRef (loc : Nat) : List (Nat × En) -> Bool
 | [] => true
 | (_, e) :: l => !refTo loc e && noRef loc l
def dropRef (loc : Nat) : List (Nat × En) -> List (Nat × En)
 | [] => []
 | (k, e) :: l => (k, if refTo loc e then .dead else e) :: dropRef loc l
theorem alook_dropRef {loc d : Nat} : ∀ (l : List (Nat × En)), alook (dropRef loc l) d = (alook l d).map fun e => if refTo loc e then .dead else e
 | [] => rfl
 | (k, e) :: l => by
  unfold dropRef;rw [alook_cons, alook_cons, alook_dropRef l];split <;> rfl
theorem noRef_get {loc d : Nat} {e : En} : ∀ {l : List (Nat × En)}, noRef loc l = true -> alook l d = some e -> refTo loc e = false
 | (k, e') :: l, h, hx => by
  unfold noRef at h;simp only [Bool.and_eq_true, Bool.not_eq_true'] at h;rw [alook_cons] at hx;split at hx
  . cases hx; exact h.1
  . exact noRef_get h.2 hx
 | [], _, hx => by cases hx
theorem SimR.dropped (H : SimR w0 S0 N B S a w ρ ro) {loc : Nat} (hB : noRef loc B.e = true) : SimR w0 S0 N B ⟨S.t, dropRef loc S.e, S.n⟩ a w ρ ro /\ ∀ l e, lookE B ⟨S.t, dropRef loc S.e, S.n⟩ l = some e -> refTo loc e = false := by
 have hl : ∀ l e, lookE B ⟨S.t, dropRef loc S.e, S.n⟩ l = some e -> (lookE B S l = some e /\ refTo loc e = false) \/ (e = .dead /\ ∃ e', lookE B S l = some e') := by
  intro l e h;unfold lookE at h ⊢;simp only [alook_dropRef] at h
  cases hd : alook S.e l with
  | none =>
   rw [hd] at h;exact .inl ⟨h, noRef_get hB h⟩
  | some y =>
   rw [hd] at h;simp only [Option.map_some, Option.some.injEq] at h;split at h
   . exact .inr ⟨h.symm, y, rfl⟩
   . subst h;rename_i hr;exact .inl ⟨rfl, by simpa using hr⟩
 refine ⟨⟨H.from_, H.size, H.defers, H.roB, H.tm, fun l e h => ?_, H.apart, H.fresh, H.own, H.roS, H.solid, H.disT, fun l e h => ?_⟩, fun l e h => ?_⟩
 . rcases hl l e h with ⟨h1, _⟩ | ⟨rfl, e', h1⟩
   . exact H.en l e h1
   . exact (H.en l e' h1).none
 . show alook (dropRef loc S.e) l = none
   rw [alook_dropRef, H.disE l e h];rfl
 . rcases hl l e h with ⟨_, h2⟩ | ⟨rfl, _⟩
   . exact h2
   . rfl
theorem elAV_has (ag fr : Bool) (t : Tc) (x : Unit -> t.el) (loc : Nat) : AV.has loc (elAV ag fr t x) = false := by
 unfold elAV;have h := cellsAV_has fr t x loc
 cases ag with
 | true => exact h
 | false =>
  simp only [Bool.false_eq_true, if_false]
  cases hc : cellsAV fr t x with
  | nil => rfl
  | cons c l =>
   rw [hc] at h
   cases l with
   | nil => simpa [AV.hasL] using h
   | cons c2 l => rfl
def updR (ρ : Nat -> Option Rl) (loc : Nat) (r : Rl) : Nat -> Option Rl := fun l => if l = loc then some r else ρ l
theorem SimR.upd (H : SimR w0 S0 N B S a w ρ ro) {loc n : Nat} {r : Rl} {e : En} (hf : FromG S0.pl w0 w') (hle : w.heap.size <= w'.heap.size) (hkeep : ∀ b, b < w.heap.size -> (∀ r', ρ loc = some r' -> r'.blk ≠ some b) -> w'.heap[b]? = w.heap[b]?)
 (hblk : ∀ b, r.blk = some b -> (∃ r', ρ loc = some r' /\ r'.blk = some b) \/ (w.heap.size <= b /\ b < w'.heap.size)) (hB : alook B.e loc = none) (hn : S.n <= n) (hln : loc < n)
 (hmov : Ext ρ (updR ρ loc r) \/ ((∀ d x, lookT B S d = some x -> AV.has loc x = false) /\ (∀ l T cs, lookE B S l = some (.box T cs) -> AV.hasL loc cs = false) /\ ∀ r', ρ loc = some r' -> (r'.solid || S0.fx) = false))
 (hmp : (∀ b, ρ loc ≠ some (.mp b)) \/ ∀ l e, lookE B S l = some e -> refTo loc e = false)
 (he : EnR w' (updR ρ loc r) w0.heap.size ro loc e) : SimR w0 S0 N B ⟨S.t, (loc, e) :: S.e, n⟩ a w' (updR ρ loc r) ro := by
 have hw : ∀ b, ro b -> b < w.heap.size -> w'.heap[b]? = w.heap[b]? := fun b hb hlt => hkeep b hlt fun r' h1 h2 => (H.own loc r' b h1 h2).2.1 hb;have hold : ∀ l, l ≠ loc -> updR ρ loc r l = ρ l := fun l hl => by unfold updR; rw [if_neg hl]
 have hav : ∀ x v, AVR w ρ w0.heap.size ro x v -> (AV.has loc x = false \/ Ext ρ (updR ρ loc r)) -> (∀ r', ρ loc = some r' -> r'.solid = false) \/ Ext ρ (updR ρ loc r) -> AVR w' (updR ρ loc r) w0.heap.size ro x v := by
  intro x v h h1 h2;rcases h1 with h1 | h1
  . rcases h2 with h2 | h2
    . refine (h.move (ρ' := updR ρ loc r) h1 fun l r' hl hc => ?_).mono hw (Ext.refl _) (Nat.le_refl _) fun _ h => h;by_cases hll : l = loc
      . subst hll;rcases hc with hc | hc
        . exact absurd rfl hc
        . rw [h2 _ hl] at hc; cases hc
      . rw [hold l hll]; exact hl
    . exact h.mono hw h2 (Nat.le_refl _) fun _ h => h
  . exact h.mono hw h1 (Nat.le_refl _) fun _ h => h
 have hbx : (∀ r', ρ loc = some r' -> r'.solid = false) \/ Ext ρ (updR ρ loc r) := hmov.elim .inr fun h => .inl fun r' q => by have := h.2.2 r' q; simp only [Bool.or_eq_false_iff] at this; exact this.1
 have hkeep' : ∀ l r' b, ρ l = some r' -> r'.blk = some b -> l ≠ loc -> w'.heap[b]? = w.heap[b]? := fun l r' b h1 h2 hne => hkeep b (H.own l r' b h1 h2).1 fun r2 h3 h4 => H.apart l loc r' r2 b hne h1 h3 h2 h4;refine ⟨hf, H.size, H.defers, fun b hb => Nat.lt_of_lt_of_le (H.roB b hb) hle, fun d x h => ?_, fun l e' h => ?_, fun l l' r1 r2 b hne h1 h2 h3 h4 => ?_, fun l hl => ?_, fun l r1 b h1 h2 => ?_, H.roS, fun l r1 h1 h2 => ?_, H.disT, fun l e' h => by rw [alook_cons, if_neg (by rintro rfl; rw [hB] at h; cases h)]; exact H.disE l e' h⟩
 . obtain ⟨u, h1, h2⟩ := H.tm d x h;exact ⟨u, h1, hav x u h2 (hmov.elim .inr fun hm => .inl (hm.1 d x h)) hbx⟩
 . unfold lookE at h;rw [alook_cons] at h;by_cases hl : loc = l
   . rw [if_pos hl] at h;simp only [Option.some.injEq] at h;subst h; subst hl;exact he
   . rw [if_neg hl] at h;have h0 : lookE B S l = some e' := h;have h1 := H.en l e' h0
     cases e' with
     | box T cs =>
      obtain ⟨b, us, k1, k4, k5⟩ := h1;refine ⟨b, us, by rw [hold l (fun e => hl e.symm)]; exact k1, ?_, k5.1, fun j x v hx hv => hav x v (k5.2 j x v hx hv) (hmov.elim .inr fun hm => .inl (hasL_get (hm.2.1 l T cs h0) hx)) hbx⟩;rw [hkeep b (H.own l _ b k1 rfl).1 fun r' h3 h4 => H.apart l loc _ r' b (fun e => hl e.symm) k1 h3 rfl h4];exact k4
     | row fr t T m =>
      obtain ⟨A, c, css, k1, k2, k3, k5⟩ := h1;refine ⟨A, c, css, by rw [hold l (fun e => hl e.symm)]; exact k1, k2.keep fun ad ha => ?_, k3, fun k cs j x v q1 q2 q3 => hav x v (k5 k cs j x v q1 q2 q3) (.inl (hasL_get (cellsAV_has fr t _ loc) q2)) hbx⟩;have hbk : (Rl.row A (m ()).length c).blk = some ad.block := by simp [Rl.blk, ha]
      exact hkeep ad.block (H.own l _ _ k1 hbk).1 fun r' h3 h4 => H.apart l loc _ r' _ (fun e => hl e.symm) k1 h3 hbk h4
     | map fr ag c t T m =>
      obtain ⟨b, es, clock, k1, k2, k3, k4⟩ := h1;refine ⟨b, es, clock, by rw [hold l (fun e => hl e.symm)]; exact k1, (hkeep' l _ b k1 rfl (fun e => hl e.symm)).trans k2, k3, k4.map_ fun x v hx => hav _ v hx (.inl (elAV_has _ _ _ _ _)) hbx⟩
     | iter ml c seen left =>
      obtain ⟨b, b2, es, clock, since, stamps, c0, k1, k2, k3, k4, k5⟩ := h1;have hml : ml ≠ loc := by
       rintro rfl
       rcases hmp with hmp | hmp
       . exact hmp b k2
       . have := hmp l _ h0; simp [refTo] at this
      exact ⟨b, b2, es, clock, since, stamps, c0, by rw [hold l (fun e => hl e.symm)]; exact k1, by rw [hold ml hml]; exact k2, (hkeep' ml _ b k2 rfl hml).trans k3, (hkeep' l _ b2 k1 rfl (fun e => hl e.symm)).trans k4, k5⟩
     | stamp ml c key =>
      obtain ⟨b, es, clock, s, e, k1, k2, k3, k4⟩ := h1;have hml : ml ≠ loc := by
       rintro rfl
       rcases hmp with hmp | hmp
       . exact hmp b k2
       . have := hmp l _ h0; simp [refTo] at this
      exact ⟨b, es, clock, s, e, by rw [hold l (fun e => hl e.symm)]; exact k1, by rw [hold ml hml]; exact k2, (hkeep' ml _ b k2 rfl hml).trans k3, k4⟩
     | dead => obtain ⟨r1, k1⟩ := h1; exact ⟨r1, by rw [hold l (fun e => hl e.symm)]; exact k1⟩
 . have hcase : ∀ l r1 b, updR ρ loc r l = some r1 -> r1.blk = some b -> (l = loc /\ r1 = r) \/ (l ≠ loc /\ ρ l = some r1) := by
    intro l r1 b h1 _;by_cases hll : l = loc
    . subst hll;unfold updR at h1;rw [if_pos rfl] at h1;injection h1 with h1;exact .inl ⟨rfl, h1.symm⟩
    . rw [hold l hll] at h1;exact .inr ⟨hll, h1⟩
   rcases hcase l r1 b h1 h3 with ⟨rfl, rfl⟩ | ⟨k1, k2⟩
   . rcases hcase l' r2 b h2 h4 with ⟨rfl, rfl⟩ | ⟨k3, k4⟩
     . exact hne rfl
     . rcases hblk b h3 with ⟨r', q1, q2⟩ | q
       . exact H.apart l l' r' r2 b hne q1 k4 q2 h4
       . have := (H.own l' r2 b k4 h4).1; omega
   . rcases hcase l' r2 b h2 h4 with ⟨rfl, rfl⟩ | ⟨k3, k4⟩
     . rcases hblk b h4 with ⟨r', q1, q2⟩ | q
       . exact H.apart l l' r1 r' b hne k2 q1 h3 q2
       . have := (H.own l r1 b k2 h3).1; omega
     . exact H.apart l l' r1 r2 b hne k2 k4 h3 h4
 . rw [hold l (by simp only at hl; omega)];exact H.fresh l (by simp only at hl; omega)
 . by_cases hll : l = loc
   . subst hll;unfold updR at h1;rw [if_pos rfl] at h1;injection h1 with h1;subst h1;rcases hblk b h2 with ⟨r', q1, q2⟩ | q
     . have h5 := H.own l r' b q1 q2;exact ⟨Nat.lt_of_lt_of_le h5.1 hle, h5.2⟩
     . refine ⟨q.2, fun hb => ?_, .inl (Nat.le_trans H.from_.size q.1)⟩;have := H.roB b hb;omega
   . rw [hold l hll] at h1;have h5 := H.own l r1 b h1 h2;exact ⟨Nat.lt_of_lt_of_le h5.1 hle, h5.2⟩
 . have h3 := H.solid l r1 h1 h2;rcases hmov with hm | hm
   . exact hm l r1 h3
   . rw [hold l (fun e => by subst e; rw [hm.2.2 _ h3] at h2; cases h2)];exact h3
end
end Go.Proofs.YtfdjcakgolenbaaGreat
