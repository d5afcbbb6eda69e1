/-
  Single operations inside a fence: by what the operation gives; loads, stores into a box of the list, append to a row of the list. A list of blocks abides steps that write no cells.
-/
import Derived.Test.YtfdjcakgolenbaaGreatMa19
import Derived.Laws.Cover3
set_option linter.unusedVariables false
set_option linter.unusedSimpArgs false
namespace Go.Proofs.YtfdjcakgolenbaaGreat
open Go.RowKit
section
variable {F : Fence} {n : Nat} {P : Program} {w w' : World} {ops : Array Oper} {rest : List Oper} {o : Oper} {a : Act} {Q : Exit -> Act -> World -> Prop} {v : Value}
theorem wpListIn_ld (hgd : o.guard = none) (T : Nat) (x : Operand) (ho : o.op = .load T x) (ad : Addr) (hx : a.eval x = .pointer (some ad)) (v : Value) (hld : (loadVar T ad).run P w = .ok v w)
 (h : wpListIn F n P ops Q rest (a.put o.dst v) w) : wpListIn F n P ops Q (o :: rest) a w := by
 refine wpListIn_plain hgd fun K hK => ?_;unfold Oper.wpIn;refine ⟨fun f hf => by simp [Oper.about, ho] at hf, ?_⟩;rw [Oper.semAt_plain F _ _ (by rw [ho]; intro c hc; cases hc)];unfold execOp;simp only [ho, hx, Instr.loadAt, Instr.sureAddr, Sem.run_bind, Sem.run_pure, Result.andThen_ok, hld];exact hK _ _ h
theorem wpListIn_stB {w0 : World} {M : List Ent} {T g m : Nat} {cs cs' : List Value} (hgd : o.guard = none) (x y : Operand) (ho : o.op = .store T x y) (H : Mem w0 w M) (i : Nat) (hi : M[i]? = some (.box g T cs))
 (hx : a.eval x = .pointer (some ⟨g, 0, .none⟩)) (hy : a.eval y = v) (hsz : (P.info? T).map (·.size) = some m) (hv : v.cells.toList = cs') (hl' : cs'.length = m) (hl : cs.length = m) (h1 : ∀ u ∈ cs', u.oneCell' = true)
 (h : ∀ w', Mem w0 w' (M.set i (.box g T cs')) -> w.grownBy w' (some g) -> wpListIn F n P ops Q rest (a.put o.dst undef) w') : wpListIn F n P ops Q (o :: rest) a w := by
 have hg := H.cells hi;have hr := run_store_cells (P := P) (off := 0) hsz hv hl' hg (by simp [hl]) h1;refine wpListIn_plain hgd fun K hK => ?_;unfold Oper.wpIn;refine ⟨fun f hf => by simp [Oper.about, ho] at hf, ?_⟩;rw [Oper.semAt_plain F _ _ (by rw [ho]; intro c hc; cases hc)];unfold execOp;simp only [ho, hx, hy, Instr.storeAt, Instr.sureAddr, Sem.run_bind, Sem.run_pure, Result.andThen_ok, hr];have hgr : w.grownBy (w.setRow g (List.take 0 cs.toArray.toList ++ cs' ++ List.drop (0 + m) cs.toArray.toList).toArray) (some g) := ⟨rfl, rfl, rfl, by simp, fun k _ hk => setRow_other w g k _ (fun e => hk (by simp [e]))⟩
 refine hK _ _ (h _ (H.put i _ hi hgr ⟨(H.boxlt hi).1, ?_⟩ (.inl rfl)) hgr);rw [setRow_heap w g _ _ T _ hg];simp [hl, hl']
theorem wpListIn_append_M {w0 : World} {M : List Ent} {t e size bytes c m cn : Nat} {A X : Option Addr} {css news : List (List Value)} (hgd : o.guard = none) (s x : Operand)
 (ho : o.op = .call { callee := .builtin .append, args := #[s, x], argTypes := #[t, t] })
 (hE : EI P t e size bytes) (n' : Nat) (hn : n' = css.length) (hs : a.eval s = .slice A n' c) (H : Mem w0 w M) (i : Nat) (hi : M[i]? = some (.row e size A c css)) (hx : a.eval x = .slice X m cn) (hr : Rd w w.heap.size size X news) (hm : m = news.length)
 (h1 : ∀ cs ∈ news, ∀ u ∈ cs, u.oneCell' = true) (h63 : css.length + m <= maxLen) (hbytes : (css.length + m) * bytes <= 140737488355328)
 (h : ∀ A' c' w', Mem w0 w' (M.set i (.row e size A' c' (css ++ news))) -> w.grownBy w' (A.map (·.block)) -> wpListIn F n P ops Q rest (a.put o.dst (.slice A' (css ++ news).length c')) w') : wpListIn F n P ops Q (o :: rest) a w := by
 subst hn;obtain ⟨A', c', w', hrun, h2, h3, h5⟩ := run_append_at (P := P) (ty := o.type) (cn := cn) hE (H.own hi) w.heap.size hr hm h1 h63 hbytes H.from_.size;refine wpListIn_plain hgd fun K hK => ?_;unfold Oper.wpIn;refine ⟨fun f hf => by simp [Oper.about, ho, resolve, Target.leads, Sem.run_pure] at hf, ?_⟩;rw [Oper.semAt_plain F _ _ (by rw [ho]; intro c hc; cases hc)];unfold execOp;simp only [ho, resolve, invoke, builtin, Sem.run_bind, Sem.run_pure, Result.andThen_ok, List.map_toArray, List.map_cons, List.map_nil, hs, hx, hrun];refine hK _ _ (h A' c' w' (H.put i _ hi h3 h2 ?_) h3);rcases h5 with h5 | h5
 . exact .inl h5
 . exact .inr fun b hb => by rw [show (Ent.row e size A' c' (css ++ news)).blk = A'.map (·.block) from rfl, h5.1] at hb; injection hb with hb; omega
end
theorem Ent.iscells {w : World} {base b : Nat} {e : Ent} (h : e.ok w base) (hb : e.blk = some b) (hro : ∀ s A css, e ≠ .ro s A css) : ∃ o : Obj, w.heap[b]? = some o /\ o.isCells = true := by
 cases e with
 | row T size A c css =>
  obtain ⟨q, hq, rfl⟩ := Option.map_eq_some_iff.1 hb;subst hq;rcases h.1.2 with ⟨h2, _⟩ | ⟨g, cap, cur, h2, _, h4, _⟩
  . cases h2
  . injection h2 with h2;injection h2 with h2;subst h2;exact ⟨_, h4, rfl⟩
 | box g T cs =>
  injection hb with hb;subst hb;exact ⟨_, h.2, rfl⟩
 | ro size A css => exact absurd rfl (hro size A css)
def Ent.typ : Ent -> Nat
 | .row T _ _ _ _ => T
 | .box _ T _ => T
 | .ro _ _ _ => 0
theorem Ent.heap {w : World} {base b : Nat} {e : Ent} (h : e.ok w base) (hb : e.blk = some b) (hro : ∀ s A css, e ≠ .ro s A css) : ∃ cur, w.heap[b]? = some (.cells cur e.typ (0, 0)) := by
 cases e with
 | row T size A c css =>
  obtain ⟨q, hq, rfl⟩ := Option.map_eq_some_iff.1 hb;subst hq;rcases h.1.2 with ⟨h2, _⟩ | ⟨g, cap, cur, h2, _, h4, _⟩
  . cases h2
  . injection h2 with h2;injection h2 with h2;subst h2;exact ⟨_, h4⟩
 | box g T cs =>
  injection hb with hb;subst hb;exact ⟨_, h.2⟩
 | ro size A css => exact absurd rfl (hro size A css)
theorem Mem.step {w0 w w' : World} {M : List Ent} (h : Mem w0 w M) {i : Nat} {e : Ent} (hi : M[i]? = some e) (hro : ∀ s A css, e ≠ .ro s A css) (hg : w.grownBy w' e.blk) :
 KeepsOthers w w' /\ Below w0.heap.size w w' /\ ∀ (T b : Nat) cur, T ≠ e.typ -> w.heap[b]? = some (.cells cur T (0, 0)) -> w'.heap[b]? = some (.cells cur T (0, 0)) := by
 have hok := h.ok _ (List.mem_of_getElem? hi);refine ⟨KeepsOthers.of_grownBy hg fun j o hj ho => ?_, (Below.refl _ _).grown hg h.from_.size fun k hk => (Ent.lt hok hk).1, fun T b cur hT hb => (hg.block b (Array.getElem?_eq_some_iff.1 hb).1 fun e1 => ?_).trans hb⟩
 . obtain ⟨o', ho', hc⟩ := Ent.iscells hok hj hro;rw [ho] at ho';cases ho';exact hc
 . obtain ⟨cur', h1⟩ := Ent.heap hok e1.symm hro;rw [hb] at h1;cases h1;exact hT rfl
theorem Mem.grown {w0 w w' : World} {M : List Ent} {row : Option Nat} (h : Mem w0 w M) (hro : ∀ e ∈ M, ∀ s A css, e ≠ .ro s A css) (hg : w.grownBy w' row) (hr : ∀ r, row = some r -> w0.heap.size <= r /\ ∃ o : Obj, w.heap[r]? = some o /\ o.isCells = false) : Mem w0 w' M := by
 refine ⟨h.from_.grown hg h.from_.size fun k e => (hr k e).1, fun e he => Ent.keep (h.ok e he) fun b hb => ?_, h.apart⟩;refine hg.block b (Ent.lt (h.ok e he) hb).2 fun e1 => ?_;obtain ⟨o, ho, hc⟩ := (hr b e1.symm).2;obtain ⟨o', ho', hc'⟩ := Ent.iscells (h.ok e he) hb (hro e he);rw [ho] at ho';cases ho';rw [hc] at hc';cases hc'
theorem grow_from {A B : World} (h : Below A.heap.size A B) : A.grownBy B none := ⟨h.os, h.tape, h.output, h.size, fun k hk _ => h.block k hk⟩
section
variable {F : Fence} {n : Nat} {P : Program} {α : Type}
theorem range_box {g : Operand} {ps : Array Tmp} {assign body : Code} {Q : Exit -> Act -> World -> Prop} {a : Act} {w w0 : World} (hro : F.round = none) (h1 : 1 <= n) {gf : Nat} {lb : Array Value} (hg : a.eval g = .func (.func gf) #[] lb) (hFg : F.fn gf) (eg : ∀ args W, (callFunc gf args).run P W = .ok (.enter gf args) W)
 {encs : α -> Array Value} {Kp : World -> World -> Prop} {S Sp : List α -> Prop} {N : Nat} (hseq : SeqStopsK F (n - 1) P gf lb encs Kp S Sp N w0) (hKt : ∀ {A B C : World}, Kp A B -> Kp B C -> Kp A C)
 (hKb : ∀ (W : World) (l : Nat) (o o' : Obj), w.heap.size <= l -> W.heap[l]? = some o -> o.isCells = false -> Kp W (W.putObj l o')) (hb0 : Below w0.heap.size w0 w) (hps : ∀ x, (encs x).size = ps.size)
 (I : List α -> World -> Prop) (hI : OwnFrom w.heap.size I) (hKf : ∀ pre W W1, I pre W -> Below W.heap.size W W1 -> Kp W W1) (h0 : I [] w) (box : α -> Obj) (a₁ : Nat -> α -> Act)
 (hassign : ∀ (l : Nat) (x : α) (W : World) (K : Act -> World -> Prop), (∀ W1, Below W.heap.size W W1 -> W1.heap[W.heap.size]? = some (box x) -> K (a₁ W.heap.size x) W1) -> assign.wpIn (F.inRound l) (n - 1 - 1) P (Exit.then K (fun _ _ _ => False)) { tmps := (ps.zip (encs x)).foldl (fun t (p, v) => t.setIfInBounds p v) a.tmps, defers := [] } W)
 (hbody : ∀ (l : Nat) (pre : List α) (x : α) (b : Nat) (W : World), I pre W -> pre.length < N -> W.heap[b]? = some (box x) -> body.wpIn (F.inRound l) (n - 1 - 1) P (fun e _ W2 => e = .normal /\ KeepsOthers W W2 /\ Kp W W2 /\ I (pre ++ [x]) W2) (a₁ b x) W)
 (hdone : ∀ (D : Nat) (xs : List α) (W : World), w.heap.size <= D -> S xs -> I xs W -> W.heap[D]? = some (.deferred (some [])) -> Q .normal { a with defers := { target := .collected D, args := #[] } :: a.defers } W) :
 (Code.rangeFunc g ps assign body).wpIn F n P Q a w := by
 refine wpIn_rangeFunc fun fn hfn => ?_;rw [hro];obtain ⟨r, hr⟩ : ∃ r : Loop, r = { state := .ready, pending := none, fn := fn, tmps := a.tmps, params := ps, assign := assign, body := body, defers := w.heap.size } := ⟨_, rfl⟩
 have hent := run_enterLoop_outer (P := P) (w := w) fn a.tmps ps assign body;rw [<- hr] at hent;have hl0 : ((w.alloc (.deferred (some []))).alloc (.loop r)).heap[w.heap.size + 1]? = some (.loop r) := by
  have := World.alloc_heap_new (w.alloc (.deferred (some []))) (.loop r);rwa [World.size_alloc] at this
 have hk0 : ((w.alloc (.deferred (some []))).alloc (.loop r)).heap[w.heap.size]? = some (.deferred (some [])) := (Below.heap_alloc _ _ _ (by simp)).trans (World.alloc_heap_new w _);have hi0 : I [] ((w.alloc (.deferred (some []))).alloc (.loop r)) := hI.alloc _ (hI.alloc _ h0);have hbw : Below w0.heap.size w0 ((w.alloc (.deferred (some []))).alloc (.loop r)) := hb0.trans ((((Below.refl _ w).alloc (Nat.le_refl _) _).alloc (by simp) _).mono hb0.size);have hsz0 : w.heap.size <= ((w.alloc (.deferred (some []))).alloc (.loop r)).heap.size := by simp; omega
 generalize (w.alloc (.deferred (some []))).alloc (.loop r) = W0 at *
 refine ⟨w.heap.size + 1, [{ target := .collected w.heap.size, args := #[] }], W0, { target := .fn (.func gf) lb, args := #[.func (.yield (w.heap.size + 1)) #[] #[]] }, W0, gf, #[.func (.yield (w.heap.size + 1)) #[] #[]] ++ lb, W0, hent, ?_, ?_, ?_, fun _ => h1, ?_⟩
 . simp only [resolve, hg];simp [go_sem]
 . intro f' hf';simp [Target.leads] at hf';rw [<- hf'];exact hFg
 . simp [invoke, go_sem, eg]
 . have hnw : ∀ {A B : World} {row : Option Nat}, (∀ r, row = some r -> W0.heap.size <= r /\ ∃ o : Obj, A.heap[r]? = some o /\ o.isWalk = true) -> (∀ r, row = some r -> w.heap.size <= r /\ ∃ o : Obj, A.heap[r]? = some o /\ o.isCells = false) :=
    fun hr r e => by obtain ⟨hB, o, ho, hw⟩ := hr r e; exact ⟨by omega, o, ho, Obj.not_cells_of_walk hw⟩
   refine (hseq (w.heap.size + 1) (fun pre W => I pre W /\ W.heap[w.heap.size + 1]? = some (.loop r) /\ W.heap[w.heap.size]? = some (.deferred (some []))) (fun _ _ => False) W0 hbw
    (fun s A B row hs hg' hr' => ⟨hI s A B row hs.1 hg' (hnw (B := B) hr'), (grownBy_keeps hg' (fun r e => (hr' r e).2) hs.2.1 rfl).trans hs.2.1, (grownBy_keeps hg' (fun r e => (hr' r e).2) hs.2.2 rfl).trans hs.2.2⟩)
    (fun s A B row hs hg' hr' => hs) ?_ ⟨hi0, hl0, hk0⟩).mono ?_
   . rintro pre x W ⟨hi, hl, hk⟩ hlen
     have hlt : w.heap.size + 1 < W.heap.size := (Array.getElem?_eq_some_iff.1 hl).1;have hy := run_yield (P := P) (args := encs x) hl (by rw [hr]; exact hps x);rw [hr] at hy;refine ⟨fn, _, assign, body, hy, roundIn_of_wpIn hfn (hassign _ x W _ fun W1 hf hbx => ?_)⟩;have hl1 : W1.heap[w.heap.size + 1]? = some (.loop r) := (hf.block _ hlt).trans hl;have hk1 : W1.heap[w.heap.size]? = some (.deferred (some [])) := (hf.block _ (by omega)).trans hk;have hi1 : I pre W1 := hI _ _ _ none hi (grow_from hf) (fun _ e => nomatch e);have hlt1 := (Array.getElem?_eq_some_iff.1 hl1).1;refine ⟨_, run_beginRound hl1 (by rw [hr]), ?_⟩;have hl2 : (W1.putObj (w.heap.size + 1) (.loop { r with state := .busy })).heap[w.heap.size + 1]? = some (.loop { r with state := .busy }) := World.putObj_heap_same hlt1;have hk2 : (W1.putObj (w.heap.size + 1) (.loop { r with state := .busy })).heap[w.heap.size]? = some (.deferred (some [])) := (World.putObj_heap_other (by omega)).trans hk1;have hb2 : (W1.putObj (w.heap.size + 1) (.loop { r with state := .busy })).heap[W.heap.size]? = some (box x) := (World.putObj_heap_other (by omega)).trans hbx;have hkp : Kp W (W1.putObj (w.heap.size + 1) (.loop { r with state := .busy })) := hKt (hKf _ _ _ hi hf) (hKb _ _ _ _ (by omega) hl1 rfl);refine wpIn_mono (hbody _ pre x _ _ (hI.putObj _ hi1 (by omega) hl1 rfl) hlen hb2) ?_
     rintro e a3 W3 ⟨rfl, hk3, hkp3, hi3⟩
     have hl3 := hk3.same _ _ hl2 rfl;have hlt3 := (Array.getElem?_eq_some_iff.1 hl3).1;refine ⟨_, _, run_endRound (P := P) none hl3, .inl ⟨rfl, ⟨hI.putObj _ hi3 (by omega) hl3 rfl, ?_, ?_⟩, hKt (hKt hkp hkp3) (hKb _ _ _ _ (by omega) hl3 rfl)⟩⟩
     . rw [World.putObj_heap_same hlt3, hr];rfl
     . exact (World.putObj_heap_other (by omega)).trans (hk3.same _ _ hk2 rfl)
   . rintro e W2 ⟨⟨v, rfl⟩, ⟨xs, hS, hi, hl, hk⟩ | ⟨pre, _, h⟩⟩
     . have hpend : r.pending = none := by rw [hr]
       have hel := run_endLoop (P := P) hl (by rw [hr]; simp);rw [hpend] at hel;exact ⟨none, _, hel, hdone _ xs _ (Nat.le_refl _) hS (hI.putObj _ hi (by omega) hl rfl) ((World.putObj_heap_other (by omega)).trans hk)⟩
     . exact h.elim
end
open Go.Shelf
attribute [local go_sem] Oper.semAt_some
set_option maxRecDepth 100000 in
set_option maxHeartbeats 2000000 in
theorem slot_All (nc cc : Nat) (A : Option Addr) (sz : Int) (css : List (List Value)) (ts : List Int) (w : World) (v1 v2 v3 v4 v5 v6 v7 v8 v9 v10 v11 v12 : Value)
 (hrd : Rd w w.heap.size 12 A css) (hlc : css.length = nc) (hlt : ts.length = nc) (hnc : nc <= 1000) (hts : ∀ t ∈ ts, 0 <= t /\ t <= 1000) (hone : ∀ cs ∈ css, ∀ u ∈ cs, u.oneCell' = true) (hcs : ∀ k cs, css[k]? = some cs -> ∃ v0 v1 v2 v4 v5 v6 v7 v8 v9 v10 v11 : Value, cs = [v0, v1, v2, .int .i64 (ts.getD k 0), v4, v5, v6, v7, v8, v9, v10, v11]) :
 Calls Tryz.prog 81 #[.agg #[.slice A nc cc, v1, v2, v3, v4, v5, v6, v7, v8, v9, v10, v11, v12], .int .u8 sz] w fun e w' => ∃ D d, e = .returned (.slice D (slotL ts sz nc).length d) /\ OwnS w' w.heap.size 40 3 D d ((slotL ts sz nc).map Slot.cells) /\ From w w' := by
 refine (callsIn_wide (n := 3)).1 ?_;refine callsIn_of_wp_marks Tryz.func81 rfl trivial ?_ rfl;simp only [Tryz.ntmps81, List.size_toArray, List.length_cons, List.length_nil, Nat.reduceAdd, Nat.reduceSub, Array.replicate_succ, Array.replicate_zero, List.push_toArray, List.append_toArray, List.nil_append, List.cons_append];have HRD := Lib.hid hrd;have HCS := Lib.hid hcs;have HONE := Lib.hid hone;clear hrd hcs hone
 gi_wp2_with (refine ⟨trivial, ?_⟩; gi_at_call 122; refine (callsIn_wide.2 (slots_in _ _ rfl _ _)).mono ?_; rintro e w' ⟨rfl, rfl⟩)
 obtain ⟨sv, hsv⟩ : ∃ sv : Value, sv = .agg #[.slice A nc cc, v1, v2, v3, v4, v5, v6, v7, v8, v9, v10, v11, v12] := ⟨_, rfl⟩
 rw [<- hsv];have HM := (((Mem.nil w).any (.cells #[.slice A nc cc, v1, v2, v3, v4, v5, v6, v7, v8, v9, v10, v11, v12] 32 (0, 0))).alloc 162 [.slice none 0 0]).none 40 3;have HM2 := (HM.any (.cells #[.slice A nc cc, v1, v2, v3, v4, v5, v6, v7, v8, v9, v10, v11, v12] 32 (0, 0))).any (.cells #[.int .u8 sz] 5 (0, 0));rw [World.size_alloc] at HM2;have hsA : (((w.alloc (.cells #[.slice A nc cc, v1, v2, v3, v4, v5, v6, v7, v8, v9, v10, v11, v12] 32 (0, 0))).alloc (.cells #[.slice none 0 0] 162)).alloc (.cells #[.slice A nc cc, v1, v2, v3, v4, v5, v6, v7, v8, v9, v10, v11, v12] 32 (0, 0))).heap[w.heap.size + 1 + 1]? = some (.cells #[.slice A nc cc, v1, v2, v3, v4, v5, v6, v7, v8, v9, v10, v11, v12] 32 (0, 0)) := by
  have := World.alloc_heap_new ((w.alloc (.cells #[.slice A nc cc, v1, v2, v3, v4, v5, v6, v7, v8, v9, v10, v11, v12] 32 (0, 0))).alloc (.cells #[.slice none 0 0] 162)) (.cells #[.slice A nc cc, v1, v2, v3, v4, v5, v6, v7, v8, v9, v10, v11, v12] 32 (0, 0));rwa [World.size_alloc, World.size_alloc] at this
 obtain ⟨wS, hwS⟩ : ∃ wS, wS = (((w.alloc (.cells #[.slice A nc cc, v1, v2, v3, v4, v5, v6, v7, v8, v9, v10, v11, v12] 32 (0, 0))).alloc (.cells #[.slice none 0 0] 162)).alloc (.cells #[.slice A nc cc, v1, v2, v3, v4, v5, v6, v7, v8, v9, v10, v11, v12] 32 (0, 0))).alloc (.cells #[.int .u8 sz] 5 (0, 0)) := ⟨_, rfl⟩
 have hszS : wS.heap.size = w.heap.size + 4 := by rw [hwS]; simp
 have hcS : wS.cell? ⟨w.heap.size + 1 + 1, 0, none⟩ = some (.slice A nc cc) := by
  have h1 : wS.heap[w.heap.size + 1 + 1]? = some (.cells #[.slice A nc cc, v1, v2, v3, v4, v5, v6, v7, v8, v9, v10, v11, v12] 32 (0, 0)) := by
   rw [hwS];exact (Below.heap_alloc _ _ _ (by simp)).trans hsA
  simp [World.cell?, h1]
 have hzS : wS.heap[w.heap.size + 1 + 1 + 1]? = some (.cells #[.int .u8 sz] 5 (0, 0)) := by
  have := World.alloc_heap_new (((w.alloc (.cells #[.slice A nc cc, v1, v2, v3, v4, v5, v6, v7, v8, v9, v10, v11, v12] 32 (0, 0))).alloc (.cells #[.slice none 0 0] 162)).alloc (.cells #[.slice A nc cc, v1, v2, v3, v4, v5, v6, v7, v8, v9, v10, v11, v12] 32 (0, 0))) (.cells #[.int .u8 sz] 5 (0, 0));rw [World.size_alloc, World.size_alloc, World.size_alloc] at this;rw [hwS];exact this
 rw [<- hwS] at HM2 ⊢;clear hwS hsA HM;have hrd2 : Rd wS w.heap.size 12 A css := HRD.out.below HM2.from_ (Nat.le_refl _);have hlen : (slotL ts sz nc).length <= 2000000 := by
  have := slotL_len ts sz (fun t h => (hts t h).2) nc;omega
 refine range_box (F := Fence.wide) (n := 3) (ps := #[10]) (encs := sloVals) rfl (by decide) (gf := 151) (lb := #[.pointer (some ⟨w.heap.size + 1 + 1, 0, none⟩), .pointer (some ⟨w.heap.size + 1 + 1 + 1, 0, none⟩)]) rfl trivial (enters_of Tryz.func151 (by kernel_rfl) rfl)
  (slots_told w.heap.size _ _ nc cc A sz css ts wS (by omega) hcS (by omega) hzS hrd2 hlc hlt hnc hts HONE.out HCS.out) (fun h k => h.trans k) ?hKb (Below.refl _ _) (fun _ => rfl)
  (fun pre W => ∃ D d, Mem w W [.row 40 3 D d (pre.map Slot.cells), .box (w.heap.size + 1) 162 [.slice D pre.length d]]) ?hI ?hKf ⟨none, 0, HM2⟩ (fun x => .cells #[.int .i64 x.col, .int .i64 x.tier, .int .u8 x.half] 40 (0, 0))
  (fun b x => { tmps := #[sv, .int .u8 sz, .pointer (some ⟨w.heap.size, 0, none⟩), undef, .slice none 0 0, .pointer (some ⟨w.heap.size + 1, 0, none⟩), .pointer (some ⟨b, 0, none⟩), sv, .int .u8 sz, .func (.func 151) #[] #[.pointer (some ⟨w.heap.size + 1 + 1, 0, none⟩), .pointer (some ⟨w.heap.size + 1 + 1 + 1, 0, none⟩)], x.val, undef, undef, undef, undef, undef], defers := [] }) ?assign ?body ?done
 case hKb =>
  intro W l o o' hl ho hc;refine ⟨(Below.refl _ W).grown (grownBy_putObj' W l o') (by have := (Array.getElem?_eq_some_iff.1 ho).1; omega) (fun k e => by cases e; omega), fun b cur hb => (World.putObj_heap_other (fun e => ?_)).trans hb⟩;subst e;rw [hb] at ho;cases ho;cases hc
 case hI =>
  rintro pre W W' row ⟨D, d, h⟩ hg hr
  exact ⟨D, d, h.grown (fun e he s A css h1 => by
   simp only [List.mem_cons, List.not_mem_nil, or_false] at he;rcases he with rfl | rfl <;> cases h1) hg (fun r e => ⟨by have := (hr r e).1; omega, (hr r e).2⟩)⟩
 case hKf =>
  rintro pre W W1 ⟨D, d, h⟩ hb
  exact SloKp.from hb h.from_.size
 case assign =>
  intro l x W K hK;have HMa := Lib.hid ((Mem.nil W).alloc 40 [.int .i64 0, .int .i64 0, .int .u8 0]);subst hsv;unfold sloVals Slot.val
  gi_wp2
  exact hK _ ((Below.refl _ W).alloc (Nat.le_refl _) _) (World.alloc_heap_new _ _)
 case body =>
  rintro l pre x b W ⟨D, d, h⟩ hlt1 hbx
  have hct : cellT Tryz.prog 162 = true := by kernel_rfl
  have hci : (Tryz.prog.info? 162).map (·.size) = some 1 := by kernel_rfl
  have HX : Hid ((loadVar 40 ⟨b, 0, none⟩).run Tryz.prog W = .ok x.val W) := run_load_cells Slot.row (cs := x.cells) rfl (fun j u hu => by
   rw [show (⟨b, 0, none⟩ : Addr).add j = ⟨b, j, none⟩ from by rw [add_none, Nat.zero_add]];simp only [World.cell?, hbx];simpa [Slot.cells] using hu)
  have HM := Lib.hid h;have HA := Lib.hid (h.any (.cells #[.int .i64 x.col, .int .i64 x.tier, .int .u8 x.half] 40 (0, 0)));have hpl : (pre.map Slot.cells).length + 1 <= 3000000 := by rw [List.length_map]; omega
  clear h hbx hlt1
  gi_wp2_with (first
   | (refine wpListIn_ld rfl 162 _ rfl _ rfl _ (HM.out.ldc hct (i := 1) rfl rfl _ (Below.refl _ _)) ?_)
   | (refine wpListIn_ld rfl 40 _ rfl _ rfl _ HX.out ?_)
   | (refine wpListIn_append_M rfl _ _ rfl Slot.ei pre.length (by rw [List.length_map]) rfl HA.out 0 rfl rfl (Rd.rows (css := [x.cells]) (heap_alloc_new W _) rfl (by simp [Slot.cells])) rfl (by simp [Slot.cells, Value.oneCell']) (by unfold maxLen; omega) (by omega) ?_; intro A' c' w5 h5 hg5; have HB := Lib.hid h5; have HG5 := Lib.hid hg5; clear h5 hg5)
   | (refine wpListIn_stB (cs' := [.slice A' (pre.map Slot.cells ++ [x.cells]).length c']) rfl _ _ rfl HB.out 1 rfl rfl rfl hci rfl rfl rfl (by simp [Value.oneCell']) ?_; intro w6 h6 hg6))
  have s5 := HA.out.step (i := 0) rfl (fun s A css h => nomatch h) HG5.out;have s6 := HB.out.step (i := 1) rfl (fun s A css h => nomatch h) hg6;have hfr : From W (W.alloc (.cells #[.int .i64 x.col, .int .i64 x.tier, .int .u8 x.half] 40 (0, 0))) := (Below.refl _ W).alloc (Nat.le_refl _) _;refine ⟨(KeepsOthers.alloc W _).trans (s5.1.trans s6.1), (SloKp.from hfr HM.out.from_.size).trans (SloKp.trans ⟨s5.2.1, fun b cur hb => s5.2.2 _ b cur (by simp [Ent.typ]) hb⟩ ⟨s6.2.1, fun b cur hb => s6.2.2 _ b cur (by simp [Ent.typ]) hb⟩), A', c', ?_⟩;simpa using h6
 case done =>
  rintro D0 xs W hD rfl ⟨D, d, h⟩ hK
  have hct : cellT Tryz.prog 162 = true := by kernel_rfl
  have HM := Lib.hid h;clear HRD HCS HONE hrd2 hcS hzS HM2
  gi_wp2_with (refine wpListIn_ld rfl 162 _ rfl _ rfl _ (HM.out.ldc hct (i := 1) rfl rfl _ (Below.refl _ _)) ?_)
  refine ⟨by simp, .inl ⟨_, _, rfl, run_takeDeferred hK, ?_⟩⟩;have hM3 := HM.out.grown (fun e he s A css h1 => by
   simp only [List.mem_cons, List.not_mem_nil, or_false] at he;rcases he with rfl | rfl <;> cases h1) (grownBy_putObj' W D0 (.deferred none)) (fun r e => by cases e; exact ⟨by omega, _, hK, rfl⟩)
  refine ⟨.slice D (slotL ts sz nc).length d, ?_, D, d, rfl, hM3.own (i := 0) rfl, hM3.from_⟩;simp [results, Tryz.f81, go_sem]
end Go.Proofs.YtfdjcakgolenbaaGreat
namespace Go.Proofs.YtfdjcakgolenbaaGreat
open Go.RowKit
def plcOk (p : Plc) : Prop := (0 <= p.bay /\ p.bay <= 255) /\ (0 <= p.row /\ p.row <= 255) /\ 0 <= p.tiers /\ p.tiers <= 255
def colP (p : Plc) : Col := ⟨p.bay % 5, p.row % 5, p.deck, 2 + p.tiers % 4, 0, 500000000, 500000000, 0, [], 13000 * (p.bay % 5) - 26000, 2500 * (p.row % 5) - 5000, cond p.deck 20000 2000⟩
def colsK (l : List Plc) : Nat -> List Col
 | 0 => []
 | k + 1 => cond (findC (colsK l k) (colP (l.getD k Tc.plc.dflt)).bay (colP (l.getD k Tc.plc.dflt)).row (l.getD k Tc.plc.dflt).deck).isEmpty (colsK l k ++ [colP (l.getD k Tc.plc.dflt)]) (colsK l k)
theorem colsK_len (l : List Plc) : ∀ k, (colsK l k).length <= k
 | 0 => Nat.le_refl _
 | k + 1 => by
  unfold colsK;have := colsK_len l k
  cases (findC (colsK l k) (colP (l.getD k Tc.plc.dflt)).bay (colP (l.getD k Tc.plc.dflt)).row (l.getD k Tc.plc.dflt).deck).isEmpty with
  | true => simp only [cond_true, List.length_append, List.length_cons, List.length_nil]; omega
  | false => simp only [cond_false]; omega
def bareCol : Col := ⟨0, 0, false, 3, 0, 500000000, 500000000, 0, [], 0, 0, 2000⟩
def colsF (l : List Plc) : List Col := cond (colsK l (min l.length 12)).isEmpty [bareCol] (colsK l (min l.length 12))
def bitB (n k : Int) : Bool := decide (bitF BinOp.and IntKind.u32 (shF BinOp.shr IntKind.u32 n k) 1 = 1)
def covsK (n : Int) : Nat -> List Cov
 | 0 => []
 | k + 1 => covsK n k ++ cond (bitB n (2 * k)) [⟨(k : Int), [0, 1]⟩] [] ++ cond (bitB n (2 * k + 1)) [⟨(k : Int), [2, 3, 4]⟩] []
theorem covsK_len (n : Int) : ∀ k, (covsK n k).length <= 2 * k
 | 0 => Nat.le_refl _
 | k + 1 => by
  unfold covsK;have := covsK_len n k;cases bitB n (2 * k) <;> cases bitB n (2 * k + 1) <;> simp only [cond_true, cond_false, List.length_append, List.length_cons, List.length_nil] <;> omega
def builtF (l : List Plc) (n : Int) : Shp := ⟨colsF l, covsK n 5, 0, 0, 0, 0, [], [], [], 0, 0, 0, 0⟩
def shipC (x y : AV) : List AV := [x, y, .lit .i64 0, .lit .i64 0, .lit .i64 0, .lit .i64 0, .nil, .nil, .nil, .lit .i64 0, .lit .i64 0, .lit .i64 0, .lit .i64 0]
def lpB1 (l : List Plc) (m : Nat) : Lp where
 X := Nat
 ov k := [(18, .int .i64 fun _ => (k : Int))]
 oe k := [(1, .box 32 (shipC (.own 2) .nil)), (2, .row true .col 47 fun _ => colsK l k)]
 I k := k <= m
 μ k _ := m - k
 x0 := 0
 nx := some fun k => k + 1
def lpB2 (n : Int) (c d : Nat) : Lp where
 X := Nat
 ov j := [(11, .int .i64 fun _ => (j : Int))]
 oe j := [(1, .box 32 (shipC (.own c) (.own d))), (d, .row true .cov 134 fun _ => covsK n j)]
 I j := j <= 5
 μ j _ := 5 - j
 x0 := 0
 nx := some fun j => j + 1
def conBuilt : Con := ⟨42, [.sl .plc, .int .u32], fun
 | [x0, x1] => (x0.toPlcs).bind fun l => (x1.toU32).bind fun n => some ⟨fun _ => (∀ p ∈ l (), plcOk p) /\ (0 <= n () /\ n () <= 4294967295) /\ (l ()).length <= 140737488351232, .agg (shipL fun _ => builtF (l ()) (n ()))⟩
 | _ => none⟩
set_option maxRecDepth 100000 in
set_option maxHeartbeats 4000000 in
theorem conBuilt_ok : ConOk Tryz.prog conBuilt := by
 refine fnOkO { jn := [] } [conFindCol] ⟨conFindCol_ok, trivial⟩ [] trivial Tryz.func42 (by kernel_rfl) fun avs res h hp => ?_;simp only [conBuilt] at h;split at h
 case h_2 => cases h
 rename_i x0 x1;simp only [Option.bind_eq_some_iff, Option.some.injEq] at h;obtain ⟨l, e0, n, e1, rfl⟩ := h;obtain rfl := AV.toPlcs_ e0;obtain rfl := AV.toU32_ e1;clear e0 e1;obtain ⟨l, rfl⟩ := eta (α := List Plc) l;obtain ⟨n, rfl⟩ := eta (α := Int) n;have hZhw : (∀ p ∈ l, plcOk p) /\ (0 <= n /\ n <= 4294967295) /\ l.length <= 140737488351232 := hp;have hw := hZhw.1;have hn := hZhw.2.1;have hl := hZhw.2.2;refine nameIt (min l.length 12) fun m hm => ?_;refine ⟨[(3, lpB1 l m)], ?_⟩;have hmin : (bif decide ((12 : Int) < (l.length : Int)) then (12 : Int) else (l.length : Int)) = (m : Int) := by
  by_cases h : (12 : Int) < (l.length : Int)
  . rw [decide_eq_true h, cond_true]; omega
  . rw [decide_eq_false h, cond_false]; omega
 conv => arg 1; cbv
 simp (maxSteps := 4000000) only [P_vc, P_br, P_and, P_fin, V_nil, V_one, V_cons, T_self, castK, succK, Int.toNat_natCast, predK, decide_eq_true_eq, decide_eq_false_iff_not, List.map_cons, List.map_nil, cond_true, cond_false];refine ⟨by rw [hmin]; omega, ⟨Nat.zero_le _, rfl, rfl⟩, fun (k : Nat) hk => ?_⟩;have hk' : k <= m := hk
 conv => arg 1; cbv
 simp (maxSteps := 4000000) only [P_vc, P_br, P_and, P_fin, V_nil, V_one, V_cons, T_self, castK, succK, Int.toNat_natCast, predK, decide_eq_true_eq, decide_eq_false_iff_not, List.map_cons, List.map_nil, cond_true, cond_false];refine ⟨fun g => ?_, fun g => ⟨fun h0 => ?_, fun h0 => ?_⟩⟩
 . have hkm : k < m := by omega
   have hkl : k < l.length := by omega
   have hq : plcOk (l.getD k Tc.plc.dflt) := hw _ (by
    rw [List.getD_eq_getElem?_getD, List.getElem?_eq_getElem hkl];exact List.getElem_mem _)
   have hlen := colsK_len l k;have hsu : colsK l (k + 1) = cond (findC (colsK l k) (colP (l.getD k Tc.plc.dflt)).bay (colP (l.getD k Tc.plc.dflt)).row (l.getD k Tc.plc.dflt).deck).isEmpty (colsK l k ++ [colP (l.getD k Tc.plc.dflt)]) (colsK l k) := rfl;generalize l.getD k Tc.plc.dflt = p at hq hsu ⊢;obtain ⟨bay, row, tiers, deck⟩ := p;simp only [colP] at hsu;simp only [plcOk] at hq;have t1 : bay.tmod 5 = bay % 5 := Int.tmod_eq_emod_of_nonneg hq.1.1;have t2 : row.tmod 5 = row % 5 := Int.tmod_eq_emod_of_nonneg hq.2.1.1;have t3 : tiers.tmod 4 = tiers % 4 := Int.tmod_eq_emod_of_nonneg hq.2.2.1;simp only [t1, t2, t3, hsu, List.length_cons, List.length_nil];generalize colsK l k = cs at hlen ⊢;cases deck <;> cases (findC cs (bay % 5) (row % 5) _).isEmpty <;> simp only [cond_true, cond_false, Bool.not_true, Bool.not_false, Bool.false_eq_true, Bool.true_eq_false, reduceCtorEq, false_implies, true_implies, and_true, true_and, forall_const, inI64] <;> omega
 . have hcf : colsF l = [bareCol] := by
    unfold colsF;rw [hm, <- (show k = m by omega), List.eq_nil_of_length_eq_zero (show (colsK l k).length = 0 by omega)];rfl
   refine ⟨lpB2 n 3 4, ?_⟩
   conv => arg 1; cbv
   simp (maxSteps := 4000000) only [P_vc, P_br, P_and, P_fin, V_nil, V_one, V_cons, T_self, castK, succK, Int.toNat_natCast, predK, decide_eq_true_eq, decide_eq_false_iff_not, List.map_cons, List.map_nil, cond_true, cond_false];refine ⟨⟨by omega, rfl, rfl⟩, fun (j : Nat) hj => ?_⟩;have hj1 : j <= 5 := hj
   conv => arg 1; cbv
   simp (maxSteps := 4000000) only [P_vc, P_br, P_and, P_fin, V_nil, V_one, V_cons, T_self, castK, succK, Int.toNat_natCast, predK, decide_eq_true_eq, decide_eq_false_iff_not, List.map_cons, List.map_nil, cond_true, cond_false];have hlen := covsK_len n j;have hsu : covsK n (j + 1) = covsK n j ++ cond (bitB n (2 * j)) [⟨(j : Int), [0, 1]⟩] [] ++ cond (bitB n (2 * j + 1)) [⟨(j : Int), [2, 3, 4]⟩] [] := rfl;refine ⟨fun g1 => ?_, fun g1 => ?_⟩
   . rw [hsu];unfold bitB;generalize covsK n j = cs at hlen ⊢;generalize bitF BinOp.and IntKind.u32 (shF BinOp.shr IntKind.u32 n (2 * ↑j)) 1 = b1;generalize bitF BinOp.and IntKind.u32 (shF BinOp.shr IntKind.u32 n (2 * ↑j + 1)) 1 = b2;by_cases e1 : b1 = 1 <;> by_cases e2 : b2 = 1 <;> simp only [e1, e2, decide_true, decide_false, cond_true, cond_false, not_true_eq_false, not_false_eq_true, false_implies, true_implies, and_true, true_and, forall_const, inI64, List.length_append, List.length_cons, List.length_nil, List.append_nil] <;> omega
   . have hj5 : j = 5 := by omega
     subst hj5;exact ⟨hcf.symm, rfl, rfl, rfl, rfl, rfl, rfl, rfl, rfl, rfl, rfl, rfl, rfl⟩
 . have hcf : colsF l = colsK l k := by
    unfold colsF;rw [hm, <- (show k = m by omega)]
    cases hE : colsK l k with
    | nil => rw [hE] at h0; exact absurd rfl h0
    | cons x xs => rfl
   refine ⟨lpB2 n 2 3, ?_⟩
   conv => arg 1; cbv
   simp (maxSteps := 4000000) only [P_vc, P_br, P_and, P_fin, V_nil, V_one, V_cons, T_self, castK, succK, Int.toNat_natCast, predK, decide_eq_true_eq, decide_eq_false_iff_not, List.map_cons, List.map_nil, cond_true, cond_false];refine ⟨⟨by omega, rfl, rfl⟩, fun (j : Nat) hj => ?_⟩;have hj1 : j <= 5 := hj
   conv => arg 1; cbv
   simp (maxSteps := 4000000) only [P_vc, P_br, P_and, P_fin, V_nil, V_one, V_cons, T_self, castK, succK, Int.toNat_natCast, predK, decide_eq_true_eq, decide_eq_false_iff_not, List.map_cons, List.map_nil, cond_true, cond_false];have hlen := covsK_len n j;have hsu : covsK n (j + 1) = covsK n j ++ cond (bitB n (2 * j)) [⟨(j : Int), [0, 1]⟩] [] ++ cond (bitB n (2 * j + 1)) [⟨(j : Int), [2, 3, 4]⟩] [] := rfl;refine ⟨fun g1 => ?_, fun g1 => ?_⟩
   . rw [hsu];unfold bitB;generalize covsK n j = cs at hlen ⊢;generalize bitF BinOp.and IntKind.u32 (shF BinOp.shr IntKind.u32 n (2 * ↑j)) 1 = b1;generalize bitF BinOp.and IntKind.u32 (shF BinOp.shr IntKind.u32 n (2 * ↑j + 1)) 1 = b2;by_cases e1 : b1 = 1 <;> by_cases e2 : b2 = 1 <;> simp only [e1, e2, decide_true, decide_false, cond_true, cond_false, not_true_eq_false, not_false_eq_true, false_implies, true_implies, and_true, true_and, forall_const, inI64, List.length_append, List.length_cons, List.length_nil, List.append_nil] <;> omega
   . have hj5 : j = 5 := by omega
     subst hj5;exact ⟨hcf.symm, rfl, rfl, rfl, rfl, rfl, rfl, rfl, rfl, rfl, rfl, rfl, rfl⟩
def allF (cs : List Col) (sz : Int) : List Slot := slotL (cs.map (·.tiers)) sz cs.length
theorem new_sl {w w' : World} {ρ : Nat -> Option Rl} {ra : Nat -> Prop} {T : Nat} {t : Tc} {l : Unit -> List t.el} {A : Option Addr} {c : Nat} (f : t.el -> List Value) (ht : ∀ x : t.el, (cellsAV true t fun _ => x).all AV.flat = true) (hf : ∀ x : t.el, (cellsAV true t fun _ => x).map AV.valOf = f x)
 (ho : OwnS w' w.heap.size T t.size A c ((l ()).map f)) : AVR w' ρ w.heap.size (fun b => ra b \/ w.heap.size <= b) (.sl true t l) (.slice A (l ()).length c) := by
 refine .sl true t l A c ((l ()).map f) (by simp) ?_ ho.rd (fun a ha _ => .inr (ho.lt ha).1) (fun _ a ha _ => (ho.lt ha).1) fun k cs j x v hk hx hv => ?_
 . rcases ho.1.2 with ⟨h2, h3⟩ | ⟨g, cap, cur, h2, h3, _, h5, _⟩
   . rw [h3];exact Nat.zero_le _
   . injection h2 with _ _ h6;rw [h6];exact h5
 . rw [List.getElem?_map] at hk
   cases hlk : (l ())[k]? with
   | none => rw [hlk] at hk; cases hk
   | some y =>
    rw [hlk] at hk;injection hk with hk;subst hk;have hy : (l ()).getD k t.dflt = y := by rw [List.getD_eq_getElem?_getD, hlk]; rfl
    rw [hy] at hx;have hE : Each w' ρ w.heap.size (fun b => ra b \/ w.heap.size <= b) (cellsAV true t fun _ => y) (f y) := by
     rw [<- hf];exact each_flat (ht y)
    exact hE.2 j x v hx hv
theorem AVR.colrows {w : World} {ρ : Nat -> Option Rl} {base : Nat} {ro : Nat -> Prop} {v : Value} {fr : Bool} {l : Unit -> List Col} (h : AVR w ρ base ro (.sl fr .col l) v) : ∃ A c css, v = .slice A (l ()).length c /\ css.length = (l ()).length /\ Rd w w.heap.size 12 A css /\ (∀ cs ∈ css, ∀ u ∈ cs, u.oneCell' = true) /\
 ∀ k cs, css[k]? = some cs -> ∃ v0 v1 v2 v4 v5 v6 v7 v8 v9 v10 v11 : Value, cs = [v0, v1, v2, .int .i64 (((l ()).map (·.tiers)).getD k 0), v4, v5, v6, v7, v8, v9, v10, v11] := by
 cases h with
 | sl _ _ _ A c css hl hc hr hro hfr h =>
  refine ⟨A, c, css, rfl, hl, hr, news_one hr h, fun k cs hk => ?_⟩;have hlen : cs.length = 12 := hr.len cs (List.mem_of_getElem? hk);have hkl : k < (l ()).length := by have := (List.getElem?_eq_some_iff.1 hk).1; omega
  match cs, hlen with
  | [v0, v1, v2, v3, v4, v5, v6, v7, v8, v9, v10, v11], _ =>
   have h3 := h k _ 3 _ v3 hk rfl rfl;have e3 := h3.int_;refine ⟨v0, v1, v2, v4, v5, v6, v7, v8, v9, v10, v11, ?_⟩;rw [e3];simp only [List.getD_eq_getElem?_getD, List.getElem?_map, List.getElem?_eq_getElem hkl, Option.map_some, Option.getD_some]
def conAll : Con := ⟨81, [.agg shipSg, .int .u8], fun
 | [x0, x1] => (x0.toShip).bind fun s => (x1.toU8).bind fun sz => some ⟨fun _ => (s ()).cols.length <= 1000 /\ ∀ c ∈ (s ()).cols, 0 <= c.tiers /\ c.tiers <= 1000, .sl true .slot fun _ => allF (s ()).cols (sz ())⟩
 | _ => none⟩
theorem conAll_ok : ConOk Tryz.prog conAll := by
 refine oldOk Tryz.func81 (by kernel_rfl) fun avs res h w ra vals hE hp => ?_;simp only [conAll] at h;split at h
 case h_2 => cases h
 rename_i x0 x1;simp only [Option.bind_eq_some_iff, Option.some.injEq] at h;obtain ⟨s, e0, sz, e1, rfl⟩ := h;obtain rfl := AV.toShip_ e0;obtain rfl := AV.toU8_ e1;clear e0 e1;obtain ⟨s, rfl⟩ := eta (α := Shp) s;obtain ⟨sz, rfl⟩ := eta (α := Int) sz;obtain ⟨v0, us0, rfl, hv0, h0⟩ := hE.head;obtain ⟨v1, us1, rfl, hv1, h1⟩ := h0.head;obtain rfl := h1.none;obtain rfl := hv1.int_;obtain ⟨vs, rfl, hvs⟩ := hv0.agg_;have hZhp1 : s.cols.length <= 1000 /\ ∀ c ∈ s.cols, 0 <= c.tiers /\ c.tiers <= 1000 := hp;have hp1 := hZhp1.1;have hp2 := hZhp1.2;have hl13 : vs.length = 13 := hvs.1.symm
 match vs, hl13 with
 | [w0, w1, w2, w3, w4, w5, w6, w7, w8, w9, w10, w11, w12], _ =>
  obtain ⟨A, c, css, e0, e1, e2, e3, e4⟩ := (hvs.2 0 _ w0 rfl rfl).colrows;subst e0;exact (slot_All _ c A sz css (s.cols.map (·.tiers)) w w1 w2 w3 w4 w5 w6 w7 w8 w9 w10 w11 w12 e2 e1 (by simp) hp1 (fun t ht => by
   obtain ⟨c, hc, rfl⟩ := List.mem_map.1 ht;exact hp2 c hc) e3 e4).mono fun e w' ⟨D, d, k1, k2, k3⟩ => ⟨_, k1, k3, new_sl (t := .slot) (l := fun _ => allF s.cols sz) Slot.cells (fun _ => rfl) (fun _ => rfl) k2⟩
theorem FB.ld_neg' {w : World} {g : Nat} {f : FracV} {b : Bool} (h : FB w g f) (e : f.neg = b) : (loadVar 4 ⟨g, 0, none⟩).run Tryz.prog w = .ok (.bool b) w := by
 rw [<- e];exact h.ld_neg
theorem boxes2 (f g : FracV) (w : World) : ∃ W0, W0 = ((w.alloc (.cells f.cells.toArray 71)).alloc (.cells g.cells.toArray 71)) /\ Below w.heap.size w W0 /\ FB W0 w.heap.size f /\ FB W0 (w.heap.size + 1) g := by
 obtain ⟨W0, hW0⟩ : ∃ W0, W0 = ((w.alloc (.cells f.cells.toArray 71)).alloc (.cells g.cells.toArray 71)) := ⟨_, rfl⟩
 have s1 : (w.alloc (.cells f.cells.toArray 71)).heap.size = w.heap.size + 1 := by simp
 have hb1 : Below w.heap.size w (w.alloc (.cells f.cells.toArray 71)) := (Below.refl _ _).alloc (Nat.le_refl _) _;refine ⟨W0, hW0, ?_, ?_, ?_⟩
 . rw [hW0]; exact hb1.alloc (by omega) _
 . have h1 := FB.new w f;rw [hW0];exact h1.below ((Below.refl _ _).alloc (Nat.le_refl _) _) h1.lt
 . have h1 := FB.new (w.alloc (.cells f.cells.toArray 71)) g;rw [s1] at h1;rw [hW0];exact h1
theorem cmpNat_neg (x y : Nat) : cmpNat y x = -cmpNat x y := by
 unfold cmpNat;split <;> split <;> first | rfl | omega
theorem cmpNat_range (x y : Nat) : -1 <= cmpNat x y /\ cmpNat x y <= 1 := by
 unfold cmpNat;split
 . omega
 . split <;> omega
theorem cmpNat_same (x : Nat) : cmpNat x x = 0 := by
 unfold cmpNat;rw [if_neg (by omega), if_neg (by omega)]
def CmpPost (w : World) (r : Int × Int) (e : Ending) (w' : World) : Prop := e = .returned (.tuple #[.int .i64 r.1, .int .i64 r.2]) /\ Below w.heap.size w w'
set_option maxRecDepth 100000 in
set_option maxHeartbeats 8000000 in
theorem frac_Cmp (f g : FracV) (hf : f.fits) (hg : g.fits) (w : World) : Calls Tryz.prog 25 #[f.val, g.val] w (CmpPost w (cmpL f g)) := by
 obtain ⟨W0, hW0, hb0, hff, hfg⟩ := boxes2 f g w;have HW0 := Lib.hid hW0;have HB := Lib.hid hb0;have HFF := Lib.hid hff;have HFG := Lib.hid hfg;clear hW0 hb0 hff hfg;have heq := frac_eql f g hf hg;have HT : Hid (∀ (x y n m : Nat) (w1 : World) (A D : Option Addr) (c d : Nat), n = len32 x -> m = len32 y -> Rd32 w1 A x -> Rd32 w1 D y -> len32 x <= 16 -> len32 y <= 16 -> ∀ z nz, z = x * y -> nz = len32 z -> Calls Tryz.prog 57 #[.slice A n c, .slice D m d] w1 fun e w' => ∃ A' c', e = .returned (.slice A' nz c') /\ Rd32 w' A' z /\ From w1 w') := by
  intro x y n m w1 A D c d hn hm h1 h2 h3 h4 z nz hz hnz;refine (frac_times A D c d x y n m hn hm w1 h1 h2 (by omega) (by omega)).mono ?_
  rintro e w' ⟨A', c', rfl, hr, _, hb⟩
  rw [hnz, hz];exact ⟨A', c', rfl, hr, hb⟩
 obtain ⟨la, hla⟩ : ∃ la, la = len32 f.num := ⟨_, rfl⟩
 obtain ⟨lb, hlb⟩ : ∃ lb, lb = len32 f.den := ⟨_, rfl⟩
 obtain ⟨lc, hlc⟩ : ∃ lc, lc = len32 g.num := ⟨_, rfl⟩
 obtain ⟨ld, hld⟩ : ∃ ld, ld = len32 g.den := ⟨_, rfl⟩
 have HL := Lib.hid (And.intro hla (And.intro hlb (And.intro hlc hld)));have h16 : ∀ x, x < top256 -> len32 x <= 16 := fun x hx => Nat.le_trans (len_top_le hx) (by omega);have HLL := Lib.hid (And.intro (h16 _ hf.1) (And.intro (h16 _ hf.2) (And.intro (h16 _ hg.1) (h16 _ hg.2))));obtain ⟨p1, hp1⟩ : ∃ p1, p1 = f.num * g.den := ⟨_, rfl⟩
 obtain ⟨p2, hp2⟩ : ∃ p2, p2 = g.num * f.den := ⟨_, rfl⟩
 obtain ⟨n1, hn1⟩ : ∃ n1, n1 = len32 p1 := ⟨_, rfl⟩
 obtain ⟨n2, hn2⟩ : ∃ n2, n2 = len32 p2 := ⟨_, rfl⟩
 have HP := Lib.hid (And.intro hp1 (And.intro hp2 (And.intro hn1 hn2)));have HM := Lib.hid (And.intro (mul_top hf.1 hg.2) (mul_top hg.1 hf.2));rw [<- hp1, <- hp2] at HM;obtain ⟨z, hz⟩ : ∃ z, z = cmpNat p1 p2 := ⟨_, rfl⟩
 have HZ : Hid (cmpNat p1 p2 = z) := hz.symm;have hzr : -1 <= z /\ z <= 1 := by rw [hz]; exact cmpNat_range _ _
 have wz : IntKind.i64.wrap (-z) = -z := wrap_i64 (by omega) (by omega);clear hla hlb hlc hld h16 hn1 hn2 hzr;obtain ⟨r, hr⟩ : ∃ r, r = cmpL f g := ⟨_, rfl⟩
 rw [<- hr]
 cases hf1 : f.right with
 | false =>
  have HV : Hid (r = (0, 2)) := by unfold Hid; rw [hr]; unfold cmpL; rw [hf1]; rfl
  clear hr hp1 hp2 hz heq;have HR1 := Lib.hid (fun w1 => frac_Right f hf w1);have HRR := Lib.hid (fun w1 => frac_Right g hg w1);rw [hf1] at HR1
  try rw [hg1] at HRR
  have HP1 := Lib.hid (fun w1 => frac_parts f hf w1);have HPP := Lib.hid (fun w1 => frac_parts g hg w1);unfold FracV.val at HR1 HRR HP1 HPP ⊢
  go_enter Tryz.func25, Tryz.ntmps25
  go_upto_region 1 with fail
  rw [show ((w.alloc (.cells f.cells.toArray 71)).alloc (.cells g.cells.toArray 71)) = W0 from HW0.out.symm]
  go_wp2_with (first
   | ((with_reducible refine g_ld 71 ?_); refine wpList_ld rfl _ _ rfl _ rfl _ HFF.out.ld' ?_)
   | (go_at_call 54; refine (HR1.out W0).mono ?_; rintro e w1 ⟨rfl, hb1⟩; have C1 : Hid (From W0 w1) := hb1; have HR2 := HRR; clear hb1 HR1 HRR)
   | ((with_reducible refine g_ld 71 ?_); refine wpList_ldw rfl _ _ rfl _ rfl _ (HFG.out.below C1.out HFG.out.lt).ld' ?_)
   | (go_at_call 54; refine (HR2.out _).mono ?_; rintro e w2 ⟨rfl, hb2⟩; have C2 : Hid (From W0 w2) := C1.out.trans (hb2.mono C1.out.size); have HPA := HP1; clear hb2 HR2 HP1)
   | ((with_reducible refine g_ld 71 ?_); refine wpList_ld rfl _ _ rfl _ rfl _ (HFF.out.below C2.out HFF.out.lt).ld' ?_)
   | ((with_reducible refine g_ld 71 ?_); refine wpList_ld rfl _ _ rfl _ rfl _ (HFG.out.below C2.out HFG.out.lt).ld' ?_)
   | ((with_reducible refine g_ld 4 ?_); refine wpList_ld rfl _ _ rfl _ rfl _ ((HFF.out.below C2.out HFF.out.lt).ld_neg' e1) ?_)
   | ((with_reducible refine g_ld 4 ?_); refine wpList_ld rfl _ _ rfl _ rfl _ ((HFG.out.below C2.out HFG.out.lt).ld_neg' e2) ?_)
   | (go_at_call 55; refine (HPA.out _).mono ?_; rintro e w3 ⟨A1, c1, A2, c2, rfl, hr1, hr2, hb3⟩; have C3 : Hid (From W0 w3) := C2.out.trans (hb3.mono C2.out.size); have RA := Lib.hid hr1; have RB := Lib.hid hr2; rw [<- HL.out.1, <- HL.out.2.1]; clear hr1 hr2 hb3 HPA; have HPB := HPP; clear HPP)
   | ((with_reducible refine g_ld 71 ?_); refine wpList_ld rfl _ _ rfl _ rfl _ (HFG.out.below C3.out HFG.out.lt).ld' ?_)
   | (go_at_call 55; refine (HPB.out _).mono ?_; rintro e w4 ⟨A3, c3, A4, c4, rfl, hr3, hr4, hb4⟩; have D4 : Hid (From w3 w4) := hb4; have C4 : Hid (From W0 w4) := C3.out.trans (hb4.mono C3.out.size); have RC := Lib.hid hr3; have RE := Lib.hid hr4; rw [<- HL.out.2.2.1, <- HL.out.2.2.2]; have HTA := HT; clear hr3 hr4 hb4 HPB)
   | (go_at_call 57; refine (HTA.out f.num g.den la ld w4 A1 A4 c1 c4 HL.out.1 HL.out.2.2.2 (RA.out.from D4.out) RE.out HLL.out.1 HLL.out.2.2.2 p1 n1 HP.out.1 HP.out.2.2.1).mono ?_; rintro e w5 ⟨A5, c5, rfl, hr5, hb5⟩; have R5 := Lib.hid hr5; have D5 : Hid (From w4 w5) := hb5; have HTB := HT; clear hr5 hb5 HTA)
   | (go_at_call 57; refine (HTB.out g.num f.den lc lb w5 A3 A2 c3 c2 HL.out.2.2.1 HL.out.2.1 (RC.out.from D5.out) (RB.out.from (D4.out.trans (D5.out.mono D4.out.size))) HLL.out.2.2.1 HLL.out.2.1 p2 n2 HP.out.2.1 HP.out.2.2.2).mono ?_; rintro e w6 ⟨A6, c6, rfl, hr6, hb6⟩; have R6 := Lib.hid hr6; have R56 := Lib.hid (R5.out.from hb6); have C6 : Hid (From W0 w6) := C4.out.trans ((D5.out.trans (hb6.mono D5.out.size)).mono C4.out.size); clear hr6 hb6 HTB)
   | (go_at_call 60; refine (frac_cmp A5 A6 c5 c6 p1 p2 n1 n2 HP.out.2.2.1 HP.out.2.2.2 w6 R56.out R6.out (by have := HM.out; omega) (by have := HM.out; omega)).mono ?_; rintro e w7 ⟨rfl, hb7⟩; rw [HZ.out]; have C7 : Hid (From W0 w7) := C6.out.trans (hb7.mono C6.out.size); clear hb7)
   | ((with_reducible refine g_ld 4 ?_); refine wpList_ld rfl _ _ rfl _ rfl _ ((HFF.out.below C7.out HFF.out.lt).ld_neg' e1) ?_))
  go_ret2
  exact ⟨by rw [HV.out]; rfl, HB.out.trans (C1.out.mono HB.out.size)⟩
 | true =>
  cases hg1 : g.right with
  | false =>
   have HV : Hid (r = (0, 2)) := by unfold Hid; rw [hr]; unfold cmpL; rw [hf1, hg1]; rfl
   clear hr hp1 hp2 hz heq;have HR1 := Lib.hid (fun w1 => frac_Right f hf w1);have HRR := Lib.hid (fun w1 => frac_Right g hg w1);rw [hf1] at HR1
   try rw [hg1] at HRR
   have HP1 := Lib.hid (fun w1 => frac_parts f hf w1);have HPP := Lib.hid (fun w1 => frac_parts g hg w1);unfold FracV.val at HR1 HRR HP1 HPP ⊢
   go_enter Tryz.func25, Tryz.ntmps25
   go_upto_region 1 with fail
   rw [show ((w.alloc (.cells f.cells.toArray 71)).alloc (.cells g.cells.toArray 71)) = W0 from HW0.out.symm]
   go_wp2_with (first
    | ((with_reducible refine g_ld 71 ?_); refine wpList_ld rfl _ _ rfl _ rfl _ HFF.out.ld' ?_)
    | (go_at_call 54; refine (HR1.out W0).mono ?_; rintro e w1 ⟨rfl, hb1⟩; have C1 : Hid (From W0 w1) := hb1; have HR2 := HRR; clear hb1 HR1 HRR)
    | ((with_reducible refine g_ld 71 ?_); refine wpList_ldw rfl _ _ rfl _ rfl _ (HFG.out.below C1.out HFG.out.lt).ld' ?_)
    | (go_at_call 54; refine (HR2.out _).mono ?_; rintro e w2 ⟨rfl, hb2⟩; have C2 : Hid (From W0 w2) := C1.out.trans (hb2.mono C1.out.size); have HPA := HP1; clear hb2 HR2 HP1)
    | ((with_reducible refine g_ld 71 ?_); refine wpList_ld rfl _ _ rfl _ rfl _ (HFF.out.below C2.out HFF.out.lt).ld' ?_)
    | ((with_reducible refine g_ld 71 ?_); refine wpList_ld rfl _ _ rfl _ rfl _ (HFG.out.below C2.out HFG.out.lt).ld' ?_)
    | ((with_reducible refine g_ld 4 ?_); refine wpList_ld rfl _ _ rfl _ rfl _ ((HFF.out.below C2.out HFF.out.lt).ld_neg' e1) ?_)
    | ((with_reducible refine g_ld 4 ?_); refine wpList_ld rfl _ _ rfl _ rfl _ ((HFG.out.below C2.out HFG.out.lt).ld_neg' e2) ?_)
    | (go_at_call 55; refine (HPA.out _).mono ?_; rintro e w3 ⟨A1, c1, A2, c2, rfl, hr1, hr2, hb3⟩; have C3 : Hid (From W0 w3) := C2.out.trans (hb3.mono C2.out.size); have RA := Lib.hid hr1; have RB := Lib.hid hr2; rw [<- HL.out.1, <- HL.out.2.1]; clear hr1 hr2 hb3 HPA; have HPB := HPP; clear HPP)
    | ((with_reducible refine g_ld 71 ?_); refine wpList_ld rfl _ _ rfl _ rfl _ (HFG.out.below C3.out HFG.out.lt).ld' ?_)
    | (go_at_call 55; refine (HPB.out _).mono ?_; rintro e w4 ⟨A3, c3, A4, c4, rfl, hr3, hr4, hb4⟩; have D4 : Hid (From w3 w4) := hb4; have C4 : Hid (From W0 w4) := C3.out.trans (hb4.mono C3.out.size); have RC := Lib.hid hr3; have RE := Lib.hid hr4; rw [<- HL.out.2.2.1, <- HL.out.2.2.2]; have HTA := HT; clear hr3 hr4 hb4 HPB)
    | (go_at_call 57; refine (HTA.out f.num g.den la ld w4 A1 A4 c1 c4 HL.out.1 HL.out.2.2.2 (RA.out.from D4.out) RE.out HLL.out.1 HLL.out.2.2.2 p1 n1 HP.out.1 HP.out.2.2.1).mono ?_; rintro e w5 ⟨A5, c5, rfl, hr5, hb5⟩; have R5 := Lib.hid hr5; have D5 : Hid (From w4 w5) := hb5; have HTB := HT; clear hr5 hb5 HTA)
    | (go_at_call 57; refine (HTB.out g.num f.den lc lb w5 A3 A2 c3 c2 HL.out.2.2.1 HL.out.2.1 (RC.out.from D5.out) (RB.out.from (D4.out.trans (D5.out.mono D4.out.size))) HLL.out.2.2.1 HLL.out.2.1 p2 n2 HP.out.2.1 HP.out.2.2.2).mono ?_; rintro e w6 ⟨A6, c6, rfl, hr6, hb6⟩; have R6 := Lib.hid hr6; have R56 := Lib.hid (R5.out.from hb6); have C6 : Hid (From W0 w6) := C4.out.trans ((D5.out.trans (hb6.mono D5.out.size)).mono C4.out.size); clear hr6 hb6 HTB)
    | (go_at_call 60; refine (frac_cmp A5 A6 c5 c6 p1 p2 n1 n2 HP.out.2.2.1 HP.out.2.2.2 w6 R56.out R6.out (by have := HM.out; omega) (by have := HM.out; omega)).mono ?_; rintro e w7 ⟨rfl, hb7⟩; rw [HZ.out]; have C7 : Hid (From W0 w7) := C6.out.trans (hb7.mono C6.out.size); clear hb7)
    | ((with_reducible refine g_ld 4 ?_); refine wpList_ld rfl _ _ rfl _ rfl _ ((HFF.out.below C7.out HFF.out.lt).ld_neg' e1) ?_))
   go_ret2
   exact ⟨by rw [HV.out]; rfl, HB.out.trans (C2.out.mono HB.out.size)⟩
  | true =>
   have hrr : r = (if f.neg && !g.neg then -1 else if g.neg && !f.neg then 1 else if f.neg then cmpNat (g.num * f.den) (f.num * g.den) else cmpNat (f.num * g.den) (g.num * f.den), 0) := by rw [hr]; unfold cmpL; rw [hf1, hg1]; rfl
   rw [<- hp1, <- hp2, cmpNat_neg p1 p2, <- hz] at hrr;by_cases hfg2 : f = g
   . have hz0 : z = 0 := by rw [hz, hp1, hp2, hfg2, cmpNat_same]
     have HV : Hid (r = (0, 0)) := by
      unfold Hid;rw [hrr, hz0, hfg2];cases g.neg <;> rfl
     simp only [decide_eq_true hfg2] at heq;clear hr hp1 hp2 hz hrr hfg2 hz0;have HR1 := Lib.hid (fun w1 => frac_Right f hf w1);have HRR := Lib.hid (fun w1 => frac_Right g hg w1);rw [hf1] at HR1
     try rw [hg1] at HRR
     have HP1 := Lib.hid (fun w1 => frac_parts f hf w1);have HPP := Lib.hid (fun w1 => frac_parts g hg w1);unfold FracV.val at HR1 HRR HP1 HPP ⊢
     go_enter Tryz.func25, Tryz.ntmps25
     go_upto_region 1 with fail
     rw [show ((w.alloc (.cells f.cells.toArray 71)).alloc (.cells g.cells.toArray 71)) = W0 from HW0.out.symm]
     go_wp2_with (first
      | ((with_reducible refine g_ld 71 ?_); refine wpList_ld rfl _ _ rfl _ rfl _ HFF.out.ld' ?_)
      | (go_at_call 54; refine (HR1.out W0).mono ?_; rintro e w1 ⟨rfl, hb1⟩; have C1 : Hid (From W0 w1) := hb1; have HR2 := HRR; clear hb1 HR1 HRR)
      | ((with_reducible refine g_ld 71 ?_); refine wpList_ldw rfl _ _ rfl _ rfl _ (HFG.out.below C1.out HFG.out.lt).ld' ?_)
      | (go_at_call 54; refine (HR2.out _).mono ?_; rintro e w2 ⟨rfl, hb2⟩; have C2 : Hid (From W0 w2) := C1.out.trans (hb2.mono C1.out.size); have HPA := HP1; clear hb2 HR2 HP1)
      | ((with_reducible refine g_ld 71 ?_); refine wpList_ld rfl _ _ rfl _ rfl _ (HFF.out.below C2.out HFF.out.lt).ld' ?_)
      | ((with_reducible refine g_ld 71 ?_); refine wpList_ld rfl _ _ rfl _ rfl _ (HFG.out.below C2.out HFG.out.lt).ld' ?_)
      | ((with_reducible refine g_ld 4 ?_); refine wpList_ld rfl _ _ rfl _ rfl _ ((HFF.out.below C2.out HFF.out.lt).ld_neg' e1) ?_)
      | ((with_reducible refine g_ld 4 ?_); refine wpList_ld rfl _ _ rfl _ rfl _ ((HFG.out.below C2.out HFG.out.lt).ld_neg' e2) ?_)
      | (go_at_call 55; refine (HPA.out _).mono ?_; rintro e w3 ⟨A1, c1, A2, c2, rfl, hr1, hr2, hb3⟩; have C3 : Hid (From W0 w3) := C2.out.trans (hb3.mono C2.out.size); have RA := Lib.hid hr1; have RB := Lib.hid hr2; rw [<- HL.out.1, <- HL.out.2.1]; clear hr1 hr2 hb3 HPA; have HPB := HPP; clear HPP)
      | ((with_reducible refine g_ld 71 ?_); refine wpList_ld rfl _ _ rfl _ rfl _ (HFG.out.below C3.out HFG.out.lt).ld' ?_)
      | (go_at_call 55; refine (HPB.out _).mono ?_; rintro e w4 ⟨A3, c3, A4, c4, rfl, hr3, hr4, hb4⟩; have D4 : Hid (From w3 w4) := hb4; have C4 : Hid (From W0 w4) := C3.out.trans (hb4.mono C3.out.size); have RC := Lib.hid hr3; have RE := Lib.hid hr4; rw [<- HL.out.2.2.1, <- HL.out.2.2.2]; have HTA := HT; clear hr3 hr4 hb4 HPB)
      | (go_at_call 57; refine (HTA.out f.num g.den la ld w4 A1 A4 c1 c4 HL.out.1 HL.out.2.2.2 (RA.out.from D4.out) RE.out HLL.out.1 HLL.out.2.2.2 p1 n1 HP.out.1 HP.out.2.2.1).mono ?_; rintro e w5 ⟨A5, c5, rfl, hr5, hb5⟩; have R5 := Lib.hid hr5; have D5 : Hid (From w4 w5) := hb5; have HTB := HT; clear hr5 hb5 HTA)
      | (go_at_call 57; refine (HTB.out g.num f.den lc lb w5 A3 A2 c3 c2 HL.out.2.2.1 HL.out.2.1 (RC.out.from D5.out) (RB.out.from (D4.out.trans (D5.out.mono D4.out.size))) HLL.out.2.2.1 HLL.out.2.1 p2 n2 HP.out.2.1 HP.out.2.2.2).mono ?_; rintro e w6 ⟨A6, c6, rfl, hr6, hb6⟩; have R6 := Lib.hid hr6; have R56 := Lib.hid (R5.out.from hb6); have C6 : Hid (From W0 w6) := C4.out.trans ((D5.out.trans (hb6.mono D5.out.size)).mono C4.out.size); clear hr6 hb6 HTB)
      | (go_at_call 60; refine (frac_cmp A5 A6 c5 c6 p1 p2 n1 n2 HP.out.2.2.1 HP.out.2.2.2 w6 R56.out R6.out (by have := HM.out; omega) (by have := HM.out; omega)).mono ?_; rintro e w7 ⟨rfl, hb7⟩; rw [HZ.out]; have C7 : Hid (From W0 w7) := C6.out.trans (hb7.mono C6.out.size); clear hb7)
      | ((with_reducible refine g_ld 4 ?_); refine wpList_ld rfl _ _ rfl _ rfl _ ((HFF.out.below C7.out HFF.out.lt).ld_neg' e1) ?_))
     go_ret2
     exact ⟨by rw [HV.out]; rfl, HB.out.trans (C2.out.mono HB.out.size)⟩
   . simp only [decide_eq_false hfg2] at heq;clear hr hp1 hp2 hz hfg2
     cases hnf : f.neg with
     | true =>
      cases hng : g.neg with
      | true =>
       have HV : Hid (r = (-z, 0)) := by unfold Hid; rw [hrr, hnf, hng]; rfl
       have HNF := Lib.hid hnf;have e1 : f.neg = true := hnf;have e2 : g.neg = true := hng;clear hrr hnf hng;have HR1 := Lib.hid (fun w1 => frac_Right f hf w1);have HRR := Lib.hid (fun w1 => frac_Right g hg w1);rw [hf1] at HR1
       try rw [hg1] at HRR
       have HP1 := Lib.hid (fun w1 => frac_parts f hf w1);have HPP := Lib.hid (fun w1 => frac_parts g hg w1);unfold FracV.val at HR1 HRR HP1 HPP ⊢
       go_enter Tryz.func25, Tryz.ntmps25
       go_upto_region 1 with fail
       rw [show ((w.alloc (.cells f.cells.toArray 71)).alloc (.cells g.cells.toArray 71)) = W0 from HW0.out.symm]
       go_wp2_with (first
        | ((with_reducible refine g_ld 71 ?_); refine wpList_ld rfl _ _ rfl _ rfl _ HFF.out.ld' ?_)
        | (go_at_call 54; refine (HR1.out W0).mono ?_; rintro e w1 ⟨rfl, hb1⟩; have C1 : Hid (From W0 w1) := hb1; have HR2 := HRR; clear hb1 HR1 HRR)
        | ((with_reducible refine g_ld 71 ?_); refine wpList_ldw rfl _ _ rfl _ rfl _ (HFG.out.below C1.out HFG.out.lt).ld' ?_)
        | (go_at_call 54; refine (HR2.out _).mono ?_; rintro e w2 ⟨rfl, hb2⟩; have C2 : Hid (From W0 w2) := C1.out.trans (hb2.mono C1.out.size); have HPA := HP1; clear hb2 HR2 HP1)
        | ((with_reducible refine g_ld 71 ?_); refine wpList_ld rfl _ _ rfl _ rfl _ (HFF.out.below C2.out HFF.out.lt).ld' ?_)
        | ((with_reducible refine g_ld 71 ?_); refine wpList_ld rfl _ _ rfl _ rfl _ (HFG.out.below C2.out HFG.out.lt).ld' ?_)
        | ((with_reducible refine g_ld 4 ?_); refine wpList_ld rfl _ _ rfl _ rfl _ ((HFF.out.below C2.out HFF.out.lt).ld_neg' e1) ?_)
        | ((with_reducible refine g_ld 4 ?_); refine wpList_ld rfl _ _ rfl _ rfl _ ((HFG.out.below C2.out HFG.out.lt).ld_neg' e2) ?_)
        | (go_at_call 55; refine (HPA.out _).mono ?_; rintro e w3 ⟨A1, c1, A2, c2, rfl, hr1, hr2, hb3⟩; have C3 : Hid (From W0 w3) := C2.out.trans (hb3.mono C2.out.size); have RA := Lib.hid hr1; have RB := Lib.hid hr2; rw [<- HL.out.1, <- HL.out.2.1]; clear hr1 hr2 hb3 HPA; have HPB := HPP; clear HPP)
        | ((with_reducible refine g_ld 71 ?_); refine wpList_ld rfl _ _ rfl _ rfl _ (HFG.out.below C3.out HFG.out.lt).ld' ?_)
        | (go_at_call 55; refine (HPB.out _).mono ?_; rintro e w4 ⟨A3, c3, A4, c4, rfl, hr3, hr4, hb4⟩; have D4 : Hid (From w3 w4) := hb4; have C4 : Hid (From W0 w4) := C3.out.trans (hb4.mono C3.out.size); have RC := Lib.hid hr3; have RE := Lib.hid hr4; rw [<- HL.out.2.2.1, <- HL.out.2.2.2]; have HTA := HT; clear hr3 hr4 hb4 HPB)
        | (go_at_call 57; refine (HTA.out f.num g.den la ld w4 A1 A4 c1 c4 HL.out.1 HL.out.2.2.2 (RA.out.from D4.out) RE.out HLL.out.1 HLL.out.2.2.2 p1 n1 HP.out.1 HP.out.2.2.1).mono ?_; rintro e w5 ⟨A5, c5, rfl, hr5, hb5⟩; have R5 := Lib.hid hr5; have D5 : Hid (From w4 w5) := hb5; have HTB := HT; clear hr5 hb5 HTA)
        | (go_at_call 57; refine (HTB.out g.num f.den lc lb w5 A3 A2 c3 c2 HL.out.2.2.1 HL.out.2.1 (RC.out.from D5.out) (RB.out.from (D4.out.trans (D5.out.mono D4.out.size))) HLL.out.2.2.1 HLL.out.2.1 p2 n2 HP.out.2.1 HP.out.2.2.2).mono ?_; rintro e w6 ⟨A6, c6, rfl, hr6, hb6⟩; have R6 := Lib.hid hr6; have R56 := Lib.hid (R5.out.from hb6); have C6 : Hid (From W0 w6) := C4.out.trans ((D5.out.trans (hb6.mono D5.out.size)).mono C4.out.size); clear hr6 hb6 HTB)
        | (go_at_call 60; refine (frac_cmp A5 A6 c5 c6 p1 p2 n1 n2 HP.out.2.2.1 HP.out.2.2.2 w6 R56.out R6.out (by have := HM.out; omega) (by have := HM.out; omega)).mono ?_; rintro e w7 ⟨rfl, hb7⟩; rw [HZ.out]; have C7 : Hid (From W0 w7) := C6.out.trans (hb7.mono C6.out.size); clear hb7)
        | ((with_reducible refine g_ld 4 ?_); refine wpList_ld rfl _ _ rfl _ rfl _ ((HFF.out.below C7.out HFF.out.lt).ld_neg' e1) ?_))
       go_ret2
       exact ⟨by rw [HV.out]; rfl, HB.out.trans (C7.out.mono HB.out.size)⟩
      | false =>
       have HV : Hid (r = (-1, 0)) := by unfold Hid; rw [hrr, hnf, hng]; rfl
       have e1 : f.neg = true := hnf;have e2 : g.neg = false := hng;clear hrr hnf hng;have HR1 := Lib.hid (fun w1 => frac_Right f hf w1);have HRR := Lib.hid (fun w1 => frac_Right g hg w1);rw [hf1] at HR1
       try rw [hg1] at HRR
       have HP1 := Lib.hid (fun w1 => frac_parts f hf w1);have HPP := Lib.hid (fun w1 => frac_parts g hg w1);unfold FracV.val at HR1 HRR HP1 HPP ⊢
       go_enter Tryz.func25, Tryz.ntmps25
       go_upto_region 1 with fail
       rw [show ((w.alloc (.cells f.cells.toArray 71)).alloc (.cells g.cells.toArray 71)) = W0 from HW0.out.symm]
       go_wp2_with (first
        | ((with_reducible refine g_ld 71 ?_); refine wpList_ld rfl _ _ rfl _ rfl _ HFF.out.ld' ?_)
        | (go_at_call 54; refine (HR1.out W0).mono ?_; rintro e w1 ⟨rfl, hb1⟩; have C1 : Hid (From W0 w1) := hb1; have HR2 := HRR; clear hb1 HR1 HRR)
        | ((with_reducible refine g_ld 71 ?_); refine wpList_ldw rfl _ _ rfl _ rfl _ (HFG.out.below C1.out HFG.out.lt).ld' ?_)
        | (go_at_call 54; refine (HR2.out _).mono ?_; rintro e w2 ⟨rfl, hb2⟩; have C2 : Hid (From W0 w2) := C1.out.trans (hb2.mono C1.out.size); have HPA := HP1; clear hb2 HR2 HP1)
        | ((with_reducible refine g_ld 71 ?_); refine wpList_ld rfl _ _ rfl _ rfl _ (HFF.out.below C2.out HFF.out.lt).ld' ?_)
        | ((with_reducible refine g_ld 71 ?_); refine wpList_ld rfl _ _ rfl _ rfl _ (HFG.out.below C2.out HFG.out.lt).ld' ?_)
        | ((with_reducible refine g_ld 4 ?_); refine wpList_ld rfl _ _ rfl _ rfl _ ((HFF.out.below C2.out HFF.out.lt).ld_neg' e1) ?_)
        | ((with_reducible refine g_ld 4 ?_); refine wpList_ld rfl _ _ rfl _ rfl _ ((HFG.out.below C2.out HFG.out.lt).ld_neg' e2) ?_)
        | (go_at_call 55; refine (HPA.out _).mono ?_; rintro e w3 ⟨A1, c1, A2, c2, rfl, hr1, hr2, hb3⟩; have C3 : Hid (From W0 w3) := C2.out.trans (hb3.mono C2.out.size); have RA := Lib.hid hr1; have RB := Lib.hid hr2; rw [<- HL.out.1, <- HL.out.2.1]; clear hr1 hr2 hb3 HPA; have HPB := HPP; clear HPP)
        | ((with_reducible refine g_ld 71 ?_); refine wpList_ld rfl _ _ rfl _ rfl _ (HFG.out.below C3.out HFG.out.lt).ld' ?_)
        | (go_at_call 55; refine (HPB.out _).mono ?_; rintro e w4 ⟨A3, c3, A4, c4, rfl, hr3, hr4, hb4⟩; have D4 : Hid (From w3 w4) := hb4; have C4 : Hid (From W0 w4) := C3.out.trans (hb4.mono C3.out.size); have RC := Lib.hid hr3; have RE := Lib.hid hr4; rw [<- HL.out.2.2.1, <- HL.out.2.2.2]; have HTA := HT; clear hr3 hr4 hb4 HPB)
        | (go_at_call 57; refine (HTA.out f.num g.den la ld w4 A1 A4 c1 c4 HL.out.1 HL.out.2.2.2 (RA.out.from D4.out) RE.out HLL.out.1 HLL.out.2.2.2 p1 n1 HP.out.1 HP.out.2.2.1).mono ?_; rintro e w5 ⟨A5, c5, rfl, hr5, hb5⟩; have R5 := Lib.hid hr5; have D5 : Hid (From w4 w5) := hb5; have HTB := HT; clear hr5 hb5 HTA)
        | (go_at_call 57; refine (HTB.out g.num f.den lc lb w5 A3 A2 c3 c2 HL.out.2.2.1 HL.out.2.1 (RC.out.from D5.out) (RB.out.from (D4.out.trans (D5.out.mono D4.out.size))) HLL.out.2.2.1 HLL.out.2.1 p2 n2 HP.out.2.1 HP.out.2.2.2).mono ?_; rintro e w6 ⟨A6, c6, rfl, hr6, hb6⟩; have R6 := Lib.hid hr6; have R56 := Lib.hid (R5.out.from hb6); have C6 : Hid (From W0 w6) := C4.out.trans ((D5.out.trans (hb6.mono D5.out.size)).mono C4.out.size); clear hr6 hb6 HTB)
        | (go_at_call 60; refine (frac_cmp A5 A6 c5 c6 p1 p2 n1 n2 HP.out.2.2.1 HP.out.2.2.2 w6 R56.out R6.out (by have := HM.out; omega) (by have := HM.out; omega)).mono ?_; rintro e w7 ⟨rfl, hb7⟩; rw [HZ.out]; have C7 : Hid (From W0 w7) := C6.out.trans (hb7.mono C6.out.size); clear hb7)
        | ((with_reducible refine g_ld 4 ?_); refine wpList_ld rfl _ _ rfl _ rfl _ ((HFF.out.below C7.out HFF.out.lt).ld_neg' e1) ?_))
       go_ret2
       exact ⟨by rw [HV.out]; rfl, HB.out.trans (C2.out.mono HB.out.size)⟩
     | false =>
      cases hng : g.neg with
      | true =>
       have HV : Hid (r = (1, 0)) := by unfold Hid; rw [hrr, hnf, hng]; rfl
       have e1 : f.neg = false := hnf;have e2 : g.neg = true := hng;clear hrr hnf hng;have HR1 := Lib.hid (fun w1 => frac_Right f hf w1);have HRR := Lib.hid (fun w1 => frac_Right g hg w1);rw [hf1] at HR1
       try rw [hg1] at HRR
       have HP1 := Lib.hid (fun w1 => frac_parts f hf w1);have HPP := Lib.hid (fun w1 => frac_parts g hg w1);unfold FracV.val at HR1 HRR HP1 HPP ⊢
       go_enter Tryz.func25, Tryz.ntmps25
       go_upto_region 1 with fail
       rw [show ((w.alloc (.cells f.cells.toArray 71)).alloc (.cells g.cells.toArray 71)) = W0 from HW0.out.symm]
       go_wp2_with (first
        | ((with_reducible refine g_ld 71 ?_); refine wpList_ld rfl _ _ rfl _ rfl _ HFF.out.ld' ?_)
        | (go_at_call 54; refine (HR1.out W0).mono ?_; rintro e w1 ⟨rfl, hb1⟩; have C1 : Hid (From W0 w1) := hb1; have HR2 := HRR; clear hb1 HR1 HRR)
        | ((with_reducible refine g_ld 71 ?_); refine wpList_ldw rfl _ _ rfl _ rfl _ (HFG.out.below C1.out HFG.out.lt).ld' ?_)
        | (go_at_call 54; refine (HR2.out _).mono ?_; rintro e w2 ⟨rfl, hb2⟩; have C2 : Hid (From W0 w2) := C1.out.trans (hb2.mono C1.out.size); have HPA := HP1; clear hb2 HR2 HP1)
        | ((with_reducible refine g_ld 71 ?_); refine wpList_ld rfl _ _ rfl _ rfl _ (HFF.out.below C2.out HFF.out.lt).ld' ?_)
        | ((with_reducible refine g_ld 71 ?_); refine wpList_ld rfl _ _ rfl _ rfl _ (HFG.out.below C2.out HFG.out.lt).ld' ?_)
        | ((with_reducible refine g_ld 4 ?_); refine wpList_ld rfl _ _ rfl _ rfl _ ((HFF.out.below C2.out HFF.out.lt).ld_neg' e1) ?_)
        | ((with_reducible refine g_ld 4 ?_); refine wpList_ld rfl _ _ rfl _ rfl _ ((HFG.out.below C2.out HFG.out.lt).ld_neg' e2) ?_)
        | (go_at_call 55; refine (HPA.out _).mono ?_; rintro e w3 ⟨A1, c1, A2, c2, rfl, hr1, hr2, hb3⟩; have C3 : Hid (From W0 w3) := C2.out.trans (hb3.mono C2.out.size); have RA := Lib.hid hr1; have RB := Lib.hid hr2; rw [<- HL.out.1, <- HL.out.2.1]; clear hr1 hr2 hb3 HPA; have HPB := HPP; clear HPP)
        | ((with_reducible refine g_ld 71 ?_); refine wpList_ld rfl _ _ rfl _ rfl _ (HFG.out.below C3.out HFG.out.lt).ld' ?_)
        | (go_at_call 55; refine (HPB.out _).mono ?_; rintro e w4 ⟨A3, c3, A4, c4, rfl, hr3, hr4, hb4⟩; have D4 : Hid (From w3 w4) := hb4; have C4 : Hid (From W0 w4) := C3.out.trans (hb4.mono C3.out.size); have RC := Lib.hid hr3; have RE := Lib.hid hr4; rw [<- HL.out.2.2.1, <- HL.out.2.2.2]; have HTA := HT; clear hr3 hr4 hb4 HPB)
        | (go_at_call 57; refine (HTA.out f.num g.den la ld w4 A1 A4 c1 c4 HL.out.1 HL.out.2.2.2 (RA.out.from D4.out) RE.out HLL.out.1 HLL.out.2.2.2 p1 n1 HP.out.1 HP.out.2.2.1).mono ?_; rintro e w5 ⟨A5, c5, rfl, hr5, hb5⟩; have R5 := Lib.hid hr5; have D5 : Hid (From w4 w5) := hb5; have HTB := HT; clear hr5 hb5 HTA)
        | (go_at_call 57; refine (HTB.out g.num f.den lc lb w5 A3 A2 c3 c2 HL.out.2.2.1 HL.out.2.1 (RC.out.from D5.out) (RB.out.from (D4.out.trans (D5.out.mono D4.out.size))) HLL.out.2.2.1 HLL.out.2.1 p2 n2 HP.out.2.1 HP.out.2.2.2).mono ?_; rintro e w6 ⟨A6, c6, rfl, hr6, hb6⟩; have R6 := Lib.hid hr6; have R56 := Lib.hid (R5.out.from hb6); have C6 : Hid (From W0 w6) := C4.out.trans ((D5.out.trans (hb6.mono D5.out.size)).mono C4.out.size); clear hr6 hb6 HTB)
        | (go_at_call 60; refine (frac_cmp A5 A6 c5 c6 p1 p2 n1 n2 HP.out.2.2.1 HP.out.2.2.2 w6 R56.out R6.out (by have := HM.out; omega) (by have := HM.out; omega)).mono ?_; rintro e w7 ⟨rfl, hb7⟩; rw [HZ.out]; have C7 : Hid (From W0 w7) := C6.out.trans (hb7.mono C6.out.size); clear hb7)
        | ((with_reducible refine g_ld 4 ?_); refine wpList_ld rfl _ _ rfl _ rfl _ ((HFF.out.below C7.out HFF.out.lt).ld_neg' e1) ?_))
       go_ret2
       exact ⟨by rw [HV.out]; rfl, HB.out.trans (C2.out.mono HB.out.size)⟩
      | false =>
       have HV : Hid (r = (z, 0)) := by unfold Hid; rw [hrr, hnf, hng]; rfl
       have e1 : f.neg = false := hnf;have e2 : g.neg = false := hng;clear hrr hnf hng;have HR1 := Lib.hid (fun w1 => frac_Right f hf w1);have HRR := Lib.hid (fun w1 => frac_Right g hg w1);rw [hf1] at HR1
       try rw [hg1] at HRR
       have HP1 := Lib.hid (fun w1 => frac_parts f hf w1);have HPP := Lib.hid (fun w1 => frac_parts g hg w1);unfold FracV.val at HR1 HRR HP1 HPP ⊢
       go_enter Tryz.func25, Tryz.ntmps25
       go_upto_region 1 with fail
       rw [show ((w.alloc (.cells f.cells.toArray 71)).alloc (.cells g.cells.toArray 71)) = W0 from HW0.out.symm]
       go_wp2_with (first
        | ((with_reducible refine g_ld 71 ?_); refine wpList_ld rfl _ _ rfl _ rfl _ HFF.out.ld' ?_)
        | (go_at_call 54; refine (HR1.out W0).mono ?_; rintro e w1 ⟨rfl, hb1⟩; have C1 : Hid (From W0 w1) := hb1; have HR2 := HRR; clear hb1 HR1 HRR)
        | ((with_reducible refine g_ld 71 ?_); refine wpList_ldw rfl _ _ rfl _ rfl _ (HFG.out.below C1.out HFG.out.lt).ld' ?_)
        | (go_at_call 54; refine (HR2.out _).mono ?_; rintro e w2 ⟨rfl, hb2⟩; have C2 : Hid (From W0 w2) := C1.out.trans (hb2.mono C1.out.size); have HPA := HP1; clear hb2 HR2 HP1)
        | ((with_reducible refine g_ld 71 ?_); refine wpList_ld rfl _ _ rfl _ rfl _ (HFF.out.below C2.out HFF.out.lt).ld' ?_)
        | ((with_reducible refine g_ld 71 ?_); refine wpList_ld rfl _ _ rfl _ rfl _ (HFG.out.below C2.out HFG.out.lt).ld' ?_)
        | ((with_reducible refine g_ld 4 ?_); refine wpList_ld rfl _ _ rfl _ rfl _ ((HFF.out.below C2.out HFF.out.lt).ld_neg' e1) ?_)
        | ((with_reducible refine g_ld 4 ?_); refine wpList_ld rfl _ _ rfl _ rfl _ ((HFG.out.below C2.out HFG.out.lt).ld_neg' e2) ?_)
        | (go_at_call 55; refine (HPA.out _).mono ?_; rintro e w3 ⟨A1, c1, A2, c2, rfl, hr1, hr2, hb3⟩; have C3 : Hid (From W0 w3) := C2.out.trans (hb3.mono C2.out.size); have RA := Lib.hid hr1; have RB := Lib.hid hr2; rw [<- HL.out.1, <- HL.out.2.1]; clear hr1 hr2 hb3 HPA; have HPB := HPP; clear HPP)
        | ((with_reducible refine g_ld 71 ?_); refine wpList_ld rfl _ _ rfl _ rfl _ (HFG.out.below C3.out HFG.out.lt).ld' ?_)
        | (go_at_call 55; refine (HPB.out _).mono ?_; rintro e w4 ⟨A3, c3, A4, c4, rfl, hr3, hr4, hb4⟩; have D4 : Hid (From w3 w4) := hb4; have C4 : Hid (From W0 w4) := C3.out.trans (hb4.mono C3.out.size); have RC := Lib.hid hr3; have RE := Lib.hid hr4; rw [<- HL.out.2.2.1, <- HL.out.2.2.2]; have HTA := HT; clear hr3 hr4 hb4 HPB)
        | (go_at_call 57; refine (HTA.out f.num g.den la ld w4 A1 A4 c1 c4 HL.out.1 HL.out.2.2.2 (RA.out.from D4.out) RE.out HLL.out.1 HLL.out.2.2.2 p1 n1 HP.out.1 HP.out.2.2.1).mono ?_; rintro e w5 ⟨A5, c5, rfl, hr5, hb5⟩; have R5 := Lib.hid hr5; have D5 : Hid (From w4 w5) := hb5; have HTB := HT; clear hr5 hb5 HTA)
        | (go_at_call 57; refine (HTB.out g.num f.den lc lb w5 A3 A2 c3 c2 HL.out.2.2.1 HL.out.2.1 (RC.out.from D5.out) (RB.out.from (D4.out.trans (D5.out.mono D4.out.size))) HLL.out.2.2.1 HLL.out.2.1 p2 n2 HP.out.2.1 HP.out.2.2.2).mono ?_; rintro e w6 ⟨A6, c6, rfl, hr6, hb6⟩; have R6 := Lib.hid hr6; have R56 := Lib.hid (R5.out.from hb6); have C6 : Hid (From W0 w6) := C4.out.trans ((D5.out.trans (hb6.mono D5.out.size)).mono C4.out.size); clear hr6 hb6 HTB)
        | (go_at_call 60; refine (frac_cmp A5 A6 c5 c6 p1 p2 n1 n2 HP.out.2.2.1 HP.out.2.2.2 w6 R56.out R6.out (by have := HM.out; omega) (by have := HM.out; omega)).mono ?_; rintro e w7 ⟨rfl, hb7⟩; rw [HZ.out]; have C7 : Hid (From W0 w7) := C6.out.trans (hb7.mono C6.out.size); clear hb7)
        | ((with_reducible refine g_ld 4 ?_); refine wpList_ld rfl _ _ rfl _ rfl _ ((HFF.out.below C7.out HFF.out.lt).ld_neg' e1) ?_))
       go_ret2
       exact ⟨by rw [HV.out]; rfl, HB.out.trans (C7.out.mono HB.out.size)⟩
structure Sml where
 step : Int
 light : Int
 at_ : Int
 kilos : Int
 share : Int
deriving DecidableEq
end Go.Proofs.YtfdjcakgolenbaaGreat
