/-
  frac: small, in place.
-/
import Derived.Test.YtfdjcakgolenbaaGreatMu5
set_option linter.unusedVariables false
set_option linter.unusedSimpArgs false
namespace Go.Proofs.YtfdjcakgolenbaaGreat
open Go.RowKit Go.Shelf
attribute [local go_sem] Oper.semAt_some
theorem not_row {W : World} {b : Nat} {c : Array Value} {t : TypeId} {f : Nat × Nat} {row : Option Nat} {B : Nat} (h : W.heap[b]? = some (.cells c t f)) (hr : ∀ r, row = some r → B ≤ r ∧ ∃ o : Obj, W.heap[r]? = some o ∧ o.isCells = false) : some b ≠ row := by
 intro e
 obtain ⟨_, o, ho, hc⟩ := hr b e.symm
 rw [h] at ho
 injection ho with ho
 subst ho
 cases hc
theorem NBx.row {W W' : World} {g E : Nat} {k : IntKind} {l : List Nat} {row : Option Nat} {B : Nat} (h : NBx W g E k l) (hg : W.grownBy W' row) (hr : ∀ r, row = some r → B ≤ r ∧ ∃ o : Obj, W.heap[r]? = some o ∧ o.isCells = false) : NBx W' g E k l := by
 obtain ⟨r, hh⟩ := h
 exact ⟨r, (hg.block g (Array.getElem?_eq_some_iff.1 hh).1 (not_row hh hr)).trans hh⟩
theorem Boxed_row {W W' : World} {b t : Nat} {v : Value} {row : Option Nat} {B : Nat} (h : Boxed W b t v) (hg : W.grownBy W' row) (hr : ∀ r, row = some r → B ≤ r ∧ ∃ o : Obj, W.heap[r]? = some o ∧ o.isCells = false) : Boxed W' b t v := h.kept hg (not_row h hr)
theorem grown_row {w W W' : World} {g : Nat} {row : Option Nat} {B : Nat} (h : w.grownBy W (some g)) (hB : w.heap.size ≤ B) (hg : W.grownBy W' row) (hr : ∀ r, row = some r → B ≤ r ∧ ∃ o : Obj, W.heap[r]? = some o ∧ o.isCells = false) : w.grownBy W' (some g) :=
 ⟨hg.os.trans h.os, hg.tape.trans h.tape, hg.output.trans h.output, Nat.le_trans h.size hg.size, fun k hk hne => (hg.block k (Nat.lt_of_lt_of_le hk h.size) (fun e => by have := (hr k e.symm).1; omega)).trans (h.block k hk hne)⟩
theorem grown_set {w W : World} {g : Nat} (h : w.grownBy W (some g)) {p : Addr} (hp : p.block = g ∨ w.heap.size ≤ p.block) (u : Value) : w.grownBy (W.setCell p u) (some g) :=
 ⟨h.os, h.tape, h.output, by simp; exact h.size, fun k hk hne => (Below.heap_setCell _ _ _ _ (fun e => by
  rcases hp with hp | hp
  · exact hne (by rw [e, hp])
  · omega)).trans (h.block k hk hne)⟩
theorem grown_alloc {w W : World} {g : Nat} (h : w.grownBy W (some g)) (o : Obj) : w.grownBy (W.alloc o) (some g) :=
 ⟨h.os, h.tape, h.output, by simp; exact Nat.le_succ_of_le h.size, fun k hk hne => (Below.heap_alloc _ _ _ (Nat.lt_of_lt_of_le hk h.size)).trans (h.block k hk hne)⟩
theorem grown_put {w W : World} {g D : Nat} (h : w.grownBy W (some g)) (hD : w.heap.size ≤ D) (o : Obj) : w.grownBy (W.putObj D o) (some g) :=
 ⟨h.os, h.tape, h.output, by simp; exact h.size, fun k hk hne => (World.putObj_heap_other (by omega)).trans (h.block k hk hne)⟩
def SmallI (w : World) (g n c by_ : Nat) (l : List Nat) (pre : List (Nat × Nat)) (W : World) : Prop := ∃ (o : List Nat) (r : Nat), pre.length ≤ n ∧ o.length = n ∧ Digs B32 o ∧ o.take (n - pre.length) = l.take (n - pre.length) ∧ r < by_ ∧ valB B32 (l.drop (n - pre.length)) = valB B32 (o.drop (n - pre.length)) * by_ + r ∧ NBx W g 52 .u32 o ∧
 Boxed W w.heap.size 124 (.slice (some ⟨g, 0, none⟩) n c) ∧ Boxed W (w.heap.size + 1) 52 (.int .u32 (by_ : Int)) ∧ Boxed W (w.heap.size + 2) 131 (.int .u64 (r : Int)) ∧ Boxed W (w.heap.size + 3) 124 (.slice (some ⟨g, 0, none⟩) n c) ∧ w.grownBy W (some g)
set_option maxRecDepth 100000 in
set_option maxHeartbeats 4000000 in
theorem frac_small (g c n by_ : Nat) (l : List Nat) (hn : n = l.length) (w : World) (hL : NBx w g 52 .u32 l) (hd : Digs B32 l) (hlen : l.length ≤ 1000) (h0 : 0 < by_) (hby : by_ < 4294967296) :
 Calls Tryz.prog 135 #[.slice (some ⟨g, 0, none⟩) n c, .int .u32 by_] w fun e w' => ∃ o, e = .returned (.int .u32 (valB B32 l % by_ : Nat)) ∧ o.length = l.length ∧ Digs B32 o ∧ valB B32 o = valB B32 l / by_ ∧ NBx w' g 52 .u32 o ∧ w.grownBy w' (some g) := by
 have hn1 : n ≤ 1000 := by omega
 have HN := Lib.hid hn
 have HL := Lib.hid hL
 clear hn hL
 refine (callsIn_wide (n := 3)).1 ?_
 refine callsIn_of_wp_marks Tryz.func135 rfl trivial ?_ rfl
 simp only [Tryz.ntmps135, List.size_toArray, List.length_cons, List.length_nil, Nat.reduceAdd, Nat.reduceSub, Array.replicate_succ, Array.replicate_zero, List.push_toArray, List.append_toArray, List.nil_append, List.cons_append]
 gi_wp2_with (refine ⟨trivial, ?_⟩; gi_at_call 95; refine (back_in Fence.wide _ trivial rfl _ _ _ _).mono ?_; rintro e w' ⟨rfl, rfl⟩)
 obtain ⟨W0, hW0⟩ : ∃ W0, W0 = ((((w.alloc (.cells #[.slice (some ⟨g, 0, none⟩) n c] 124)).alloc (.cells #[.int .u32 (by_ : Int)] 52)).alloc (.cells #[.int .u64 0] 131)).alloc (.cells #[.slice (some ⟨g, 0, none⟩) n c] 124)) := ⟨_, rfl⟩
 have hsz : W0.heap.size = w.heap.size + 4 := by rw [hW0]; simp
 have bA : Boxed W0 w.heap.size 124 (.slice (some ⟨g, 0, none⟩) n c) := by rw [hW0]; exact (((Boxed.new w _ _).alloc _).alloc _).alloc _
 have bY : Boxed W0 (w.heap.size + 1) 52 (.int .u32 (by_ : Int)) := by rw [hW0]; have := Boxed.new (w.alloc (.cells #[.slice (some ⟨g, 0, none⟩) n c] 124)) 52 (.int .u32 (by_ : Int)); rw [World.size_alloc] at this; exact (this.alloc _).alloc _
 have bR : Boxed W0 (w.heap.size + 2) 131 (.int .u64 ((0 : Nat) : Int)) := by rw [hW0]; have := Boxed.new ((w.alloc (.cells #[.slice (some ⟨g, 0, none⟩) n c] 124)).alloc (.cells #[.int .u32 (by_ : Int)] 52)) 131 (.int .u64 0); rw [World.size_alloc, World.size_alloc] at this; exact this.alloc _
 have bN : Boxed W0 (w.heap.size + 3) 124 (.slice (some ⟨g, 0, none⟩) n c) := by rw [hW0]; have := Boxed.new (((w.alloc (.cells #[.slice (some ⟨g, 0, none⟩) n c] 124)).alloc (.cells #[.int .u32 (by_ : Int)] 52)).alloc (.cells #[.int .u64 0] 131)) 124 (.slice (some ⟨g, 0, none⟩) n c); rw [World.size_alloc, World.size_alloc, World.size_alloc] at this; exact this
 have hgr0 : w.grownBy W0 (some g) := by rw [hW0]; exact grown_alloc (grown_alloc (grown_alloc (grown_alloc ⟨rfl, rfl, rfl, Nat.le_refl _, fun _ _ _ => rfl⟩ _) _) _) _
 have hnb0 : NBx W0 g 52 .u32 l := by rw [hW0]; exact HL.out.keep ((Below.heap_alloc _ _ _ (by have := HL.out.lt; simp; omega)).trans ((Below.heap_alloc _ _ _ (by have := HL.out.lt; simp; omega)).trans ((Below.heap_alloc _ _ _ (by have := HL.out.lt; simp; omega)).trans (Below.heap_alloc _ _ _ HL.out.lt))))
 rw [← hW0]
 refine range_told (F := Fence.wide) (n := 3) (ps := #[10, 11]) (encs := backVals) rfl (by decide) (gf := 138) (lb := #[.pointer (some ⟨w.heap.size + 1 + 1 + 1, 0, none⟩)]) rfl trivial (enters_of Tryz.func138 (by kernel_rfl) rfl)
  (back_told Fence.wide 2 trivial rfl (by decide) (w.heap.size + 1 + 1 + 1) n c (some ⟨g, 0, none⟩) l hn1 _) (Below.refl _ _) (fun _ => rfl)
  (SmallI w g n c by_ l) (fun _ _ _ => False) (fun pre W hI => ?hIG) (fun pre A B row hs hg hr => ?hI) (fun _ _ _ _ _ hs _ _ => hs) ?hst
  (fun x => { tmps := #[.slice (some ⟨g, 0, none⟩) n c, .int .u32 (by_ : Int), .pointer (some ⟨w.heap.size, 0, none⟩), .pointer (some ⟨w.heap.size + 1, 0, none⟩), .int .u32 0, .pointer (some ⟨w.heap.size + 1 + 1, 0, none⟩), .int .i64 (x.1 : Int), .int .u32 (x.2 : Int), .slice (some ⟨g, 0, none⟩) n c, .func (.func 138) #[] #[.pointer (some ⟨w.heap.size + 1 + 1 + 1, 0, none⟩)], .int .i64 (x.1 : Int), .int .u32 (x.2 : Int), undef, undef, undef, undef, undef, undef, undef, undef, undef, undef, undef, undef, undef, undef, undef, undef, undef, undef, undef], defers := [] }) ?assign ?body ?done ?stop
 case hIG =>
  obtain ⟨o, r, hpl, hol, hod, htk, hr, hv, hnb, b1, b2, b3, b4, hgr⟩ := hI
  refine ⟨b4.cell, fun j hj => ⟨g, 0, rfl, ?_⟩⟩
  have hjo : j < o.length := by omega
  have hjl : j < l.length := by have := HN.out; omega
  have h1 := hnb.cell hjo
  have e : o[j] = l.getD j 0 := by
   have h2 := congrArg (fun q => q[j]?) htk
   simp only [List.getElem?_take, show j < n - pre.length by omega, if_true] at h2
   rw [List.getElem?_eq_getElem hjo] at h2
   rw [List.getD_eq_getElem?_getD, ← h2]
   rfl
  rw [Nat.zero_add, h1, e]
 case hI =>
  obtain ⟨o, r, hpl, hol, hod, htk, hr', hv, hnb, b1, b2, b3, b4, hgr⟩ := hs
  exact ⟨o, r, hpl, hol, hod, htk, hr', hv, hnb.row hg hr, Boxed_row b1 hg hr, Boxed_row b2 hg hr, Boxed_row b3 hg hr, Boxed_row b4 hg hr, grown_row hgr (by rw [hsz]; omega) hg hr⟩
 case hst =>
  exact ⟨l, 0, Nat.zero_le _, HN.out.symm, hd, rfl, h0, by rw [List.length_nil, Nat.sub_zero, List.drop_eq_nil_of_le (Nat.le_of_eq HN.out.symm)]; simp [valB], hnb0, bA, bY, bR, bN, hgr0⟩
 case assign =>
  intro lp x W K hK
  unfold backVals
  gi_wp2
  exact hK
 case body =>
  rintro lp pre x0 W ⟨o, r, hpl, hol, hod, htk, hr', hv, hnb, b1, b2, b3, b4, hgr⟩ ⟨hlt, rfl⟩
  obtain ⟨j, hj⟩ : ∃ j, j + pre.length + 1 = n := ⟨n - 1 - pre.length, by omega⟩
  have e1 : n - 1 - pre.length = j := by omega
  have e3 : n - pre.length = j + 1 := by omega
  rw [e3] at htk hv
  unfold backOne
  rw [e1]
  obtain ⟨d, hdd⟩ : ∃ d, d = l.getD j 0 := ⟨_, rfl⟩
  have hdl : d < 4294967296 := by rw [hdd]; exact hd.getD (by decide) j
  rw [← hdd]
  have c1 := b1.cell
  have c2 := b2.cell
  have c3 := b3.cell
  have f3 := b3.frozen
  have hjo : j < o.length := by omega
  have cj := hnb.cell hjo
  have fj := hnb.frozen j
  have hrl : r < 4294967296 := by omega
  have hor := Lib.hid (or32 hrl hdl)
  clear bA bY bR bN hgr0 hnb0
  have hgl : g < w.heap.size := HL.out.lt
  have hd2 : IntKind.u64.wrap (d : Int) = (d : Int) := wrap_u64 (by omega) (by omega)
  have HDD := Lib.hid hdd
  have HHD := Lib.hid hd
  clear hdd hd
  dsimp only
  gi_wp2
  obtain ⟨s, hs⟩ : ∃ s, s = r * 4294967296 + d := ⟨_, rfl⟩
  rw [hor.out, ← hs]
  have b1' : Boxed (W.setCell ⟨w.heap.size + 1 + 1, 0, none⟩ (.int .u64 (s : Int))) w.heap.size 124 (.slice (some ⟨g, 0, none⟩) n c) := (Below.heap_setCell _ _ _ _ (by simp; omega)).trans b1
  have b2' : Boxed (W.setCell ⟨w.heap.size + 1 + 1, 0, none⟩ (.int .u64 (s : Int))) (w.heap.size + 1) 52 (.int .u32 (by_ : Int)) := (Below.heap_setCell _ _ _ _ (by simp)).trans b2
  have b3' : Boxed (W.setCell ⟨w.heap.size + 1 + 1, 0, none⟩ (.int .u64 (s : Int))) (w.heap.size + 2) 131 (.int .u64 (s : Int)) := one_setCell b3
  have b4' : Boxed (W.setCell ⟨w.heap.size + 1 + 1, 0, none⟩ (.int .u64 (s : Int))) (w.heap.size + 3) 124 (.slice (some ⟨g, 0, none⟩) n c) := (Below.heap_setCell _ _ _ _ (by simp)).trans b4
  have hnb' : NBx (W.setCell ⟨w.heap.size + 1 + 1, 0, none⟩ (.int .u64 (s : Int))) g 52 .u32 o := hnb.other (by simp; omega) _
  have hgr' : w.grownBy (W.setCell ⟨w.heap.size + 1 + 1, 0, none⟩ (.int .u64 (s : Int))) (some g) := grown_set hgr (.inr (by simp; omega)) _
  have hko : KeepsOthers W (W.setCell ⟨w.heap.size + 1 + 1, 0, none⟩ (.int .u64 (s : Int))) := KeepsOthers.setCell _ _ _
  clear b1 b2 b3 b4 c1 c2 c3 f3 cj fj hnb hgr
  generalize W.setCell ⟨w.heap.size + 1 + 1, 0, none⟩ (.int .u64 (s : Int)) = W1 at *
  have hjn : (j : Int) < (n : Int) := by omega
  have hslt : s < 18446744073709551616 := by omega
  have hmo : Tryz.prog.follows .mixedOrders = true := by kernel_rfl
  have hb0 : ¬ ((by_ : Int) = 0) := by omega
  have hwb : IntKind.u64.wrap (by_ : Int) = (by_ : Int) := wrap_u64 (by omega) (by omega)
  obtain ⟨q, hq⟩ : ∃ q, q = s / by_ := ⟨_, rfl⟩
  obtain ⟨r2, hr2⟩ : ∃ r2, r2 = s % by_ := ⟨_, rfl⟩
  have hq1 : q < 4294967296 := by
   rw [hq]
   refine (Nat.div_lt_iff_lt_mul h0).2 ?_
   have h1 : (r + 1) * 4294967296 ≤ by_ * 4294967296 := Nat.mul_le_mul_right _ hr'
   rw [Nat.mul_comm 4294967296 by_]
   omega
  have hqi : (s : Int) / (by_ : Int) = (q : Int) := by rw [hq]; exact (Int.natCast_ediv s by_).symm
  have hri : (s : Int) % (by_ : Int) = (r2 : Int) := by rw [hr2]; exact (Int.natCast_emod s by_).symm
  have hr2b : r2 < by_ := by rw [hr2]; exact Nat.mod_lt _ h0
  have hwq : IntKind.u32.wrap (q : Int) = (q : Int) := by rw [wrap_u32, Nat.mod_eq_of_lt hq1]
  have hjl : j < l.length := by have := HN.out; omega
  have hstep : Hid (valB B32 (l.drop j) = valB B32 ((o.set j q).drop j) * by_ + r2) := by
   have h1 := small_step (B := B32) (by_ := by_) (a := l) (o := o) (i := j) (r := r) hjl (by rw [hol]; exact HN.out) hv
   have e : l[j] = d := by have := HDD.out; rw [this, List.getD_eq_getElem?_getD, List.getElem?_eq_getElem hjl]; rfl
   rw [e] at h1
   have e2 : r * B32 + d = s := hs.symm
   rw [e2, ← hq, ← hr2] at h1
   exact h1
  have HVS := Lib.hid hs
  have HQS := Lib.hid hq
  have HRS := Lib.hid hr2
  have HTK := Lib.hid htk
  clear hs hq hr2 hv htk
  rename_i Q2 K2 ha2
  have hw2 : ∃ W2, W2 = (W1.setCell ⟨g, j, none⟩ (.int .u32 (q : Int))).drew := ⟨_, rfl⟩
  obtain ⟨W2, hW2⟩ := hw2
  have HQ : Exit.then K2 (Exit.inBlock 1 Q2) Exit.normal { tmps := #[.slice (some ⟨g, 0, none⟩) n c, .int .u32 (by_ : Int), .pointer (some ⟨w.heap.size, 0, none⟩), .pointer (some ⟨w.heap.size + 1, 0, none⟩), .int .u32 0, .pointer (some ⟨w.heap.size + 1 + 1, 0, none⟩), .int .i64 (j : Int), .int .u32 (d : Int), .slice (some ⟨g, 0, none⟩) n c, .func (.func 138) #[] #[.pointer (some ⟨w.heap.size + 1 + 1 + 1, 0, none⟩)], .int .i64 (j : Int), .int .u32 (d : Int), .int .u64 (r : Int), .int .u64 ((r : Int) * 4294967296), .int .u32 (d : Int), .int .u64 (d : Int), .int .u64 (s : Int), .slice (some ⟨g, 0, none⟩) n c, .int .i64 (j : Int), .int .u64 (s : Int), .int .u32 (by_ : Int), .int .u64 (by_ : Int), .int .u64 (q : Int), .int .u32 (q : Int), .pointer (some ⟨g, j, none⟩), undef, undef, undef, undef, undef, undef], defers := [] } W2 := by
   have b1 : Boxed W2 w.heap.size 124 (.slice (some ⟨g, 0, none⟩) n c) := by rw [hW2]; exact (Below.heap_setCell _ _ _ _ (by simp; omega)).trans b1'
   have b2 : Boxed W2 (w.heap.size + 1) 52 (.int .u32 (by_ : Int)) := by rw [hW2]; exact (Below.heap_setCell _ _ _ _ (by simp; omega)).trans b2'
   have b3 : Boxed W2 (w.heap.size + 2) 131 (.int .u64 (s : Int)) := by rw [hW2]; exact (Below.heap_setCell _ _ _ _ (by simp; omega)).trans b3'
   have b4 : Boxed W2 (w.heap.size + 3) 124 (.slice (some ⟨g, 0, none⟩) n c) := by rw [hW2]; exact (Below.heap_setCell _ _ _ _ (by simp; omega)).trans b4'
   have hnb : NBx W2 g 52 .u32 (o.set j q) := by rw [hW2]; exact hnb'.setCell hjo q
   have hgr : w.grownBy W2 (some g) := by rw [hW2]; exact (fun h => ⟨h.os, h.tape, h.output, h.size, h.block⟩) (grown_set (p := ⟨g, j, none⟩) hgr' (.inl rfl) (.int .u32 (q : Int)))
   have hko2 : KeepsOthers W W2 := by rw [hW2]; exact hko.trans ((KeepsOthers.setCell _ _ _).trans (KeepsOthers.drew _))
   have b1s : Boxed (W2.setCell ⟨w.heap.size + 1 + 1, 0, none⟩ (.int .u64 (r2 : Int))) w.heap.size 124 (.slice (some ⟨g, 0, none⟩) n c) := (Below.heap_setCell _ _ _ _ (by simp; omega)).trans b1
   have b2s : Boxed (W2.setCell ⟨w.heap.size + 1 + 1, 0, none⟩ (.int .u64 (r2 : Int))) (w.heap.size + 1) 52 (.int .u32 (by_ : Int)) := (Below.heap_setCell _ _ _ _ (by simp)).trans b2
   have b3s : Boxed (W2.setCell ⟨w.heap.size + 1 + 1, 0, none⟩ (.int .u64 (r2 : Int))) (w.heap.size + 2) 131 (.int .u64 (r2 : Int)) := one_setCell b3
   have b4s : Boxed (W2.setCell ⟨w.heap.size + 1 + 1, 0, none⟩ (.int .u64 (r2 : Int))) (w.heap.size + 3) 124 (.slice (some ⟨g, 0, none⟩) n c) := (Below.heap_setCell _ _ _ _ (by simp)).trans b4
   have hnbs : NBx (W2.setCell ⟨w.heap.size + 1 + 1, 0, none⟩ (.int .u64 (r2 : Int))) g 52 .u32 (o.set j q) := hnb.other (by simp; omega) _
   have hgrs : w.grownBy (W2.setCell ⟨w.heap.size + 1 + 1, 0, none⟩ (.int .u64 (r2 : Int))) (some g) := grown_set hgr (.inr (by simp; omega)) _
   have hkos : KeepsOthers W (W2.setCell ⟨w.heap.size + 1 + 1, 0, none⟩ (.int .u64 (r2 : Int))) := hko2.trans (KeepsOthers.setCell _ _ _)
   have c2 := b2.cell
   have c3 : W2.cell? ⟨w.heap.size + 1 + 1, 0, none⟩ = _ := b3.cell
   have f3 : W2.frozen? ⟨w.heap.size + 1 + 1, 0, none⟩ = _ := b3.frozen
   clear hW2 b1' b2' b3' b4' hnb' hgr' hko b1 b2 b3 b4 hnb hgr hko2
   refine ha2 _ _ ?_
   gi_wp2
   refine ⟨hkos, o.set j q, r2, by simp; omega, by simp [hol], hod.set _ _ hq1, ?_, hr2b, ?_, hnbs, b1s, b2s, b3s, b4s, hgrs⟩
   · have e : n - (pre ++ [(j, d)]).length = j := by simp; omega
     rw [e, take_set]
     have := congrArg (fun q => q.take j) HTK.out
     simpa [List.take_take] using this
   · have e : n - (pre ++ [(j, d)]).length = j := by simp; omega
     rw [e]
     exact hstep.out
  have c1 : W1.drew.cell? ⟨w.heap.size, 0, none⟩ = _ := b1'.cell
  have c2 : W1.drew.cell? ⟨w.heap.size + 1, 0, none⟩ = _ := b2'.cell
  have c3 : W1.drew.cell? ⟨w.heap.size + 1 + 1, 0, none⟩ = _ := b3'.cell
  have cj : W1.drew.cell? ⟨g, j, none⟩ = _ := hnb'.cell hjo
  have fj : W1.drew.frozen? ⟨g, j, none⟩ = _ := hnb'.frozen j
  rw [hW2] at HQ
  have HQ' := Lib.hid HQ
  clear HQ hW2 b1' b2' b3' b4' hnb' hgr' hko
  gi_region_with_o (fail)
  all_goals exact HQ'.out
 case done =>
  rintro D0 xs W hD hxs ⟨o, r, hpl, hol, hod, htk, hr', hv, hnb, b1, b2, b3, b4, hgr⟩ hK
  rw [hxs, Nat.sub_self, List.drop_zero, List.drop_zero] at hv
  have c3 : W.cell? ⟨w.heap.size + 1 + 1, 0, none⟩ = _ := b3.cell
  have hrl : r < 4294967296 := by omega
  have hwr : IntKind.u32.wrap (r : Int) = (r : Int) := by rw [wrap_u32, Nat.mod_eq_of_lt hrl]
  have hmod : Hid (r = valB B32 l % by_) := by
   unfold Hid
   rw [hv, Nat.mul_comm, Nat.mul_add_mod, Nat.mod_eq_of_lt hr']
  have hdiv : Hid (valB B32 o = valB B32 l / by_) := by
   unfold Hid
   rw [hv, Nat.mul_comm, Nat.mul_add_div h0, Nat.div_eq_of_lt hr', Nat.add_zero]
  have HNB := Lib.hid (hnb.keep (w' := W.putObj D0 (.deferred none)) (World.putObj_heap_other (by
   intro e
   obtain ⟨rr, hh⟩ := hnb
   rw [e] at hh
   rw [hh] at hK
   cases hK)))
  have HGR := Lib.hid (grown_put hgr (D := D0) (by omega) (.deferred none))
  have hol2 : Hid (o.length = l.length) := by unfold Hid; rw [hol]; exact HN.out
  clear hv htk hnb bA bY bR bN hgr0 hnb0 b1 b2 b3 b4 hgr
  gi_wp2
  refine ⟨by simp, .inl ⟨_, _, rfl, run_takeDeferred hK, ?_⟩⟩
  exact ⟨_, results_tmp rfl _ _ _, o, by rw [← hmod.out]; rfl, hol2.out, hod, hdiv.out, HNB.out, HGR.out⟩
 case stop =>
  rintro D0 cc pre W _ _ h _
  exact h.elim
end Go.Proofs.YtfdjcakgolenbaaGreat
namespace Go.Proofs.YtfdjcakgolenbaaGreat
open Go.RowKit
def DivPost (w : World) (x y : Nat) (e : Ending) (w' : World) : Prop := ∃ A1 c1 A2 c2, e = .returned (.tuple #[.slice A1 (len32 (x / y)) c1, .slice A2 (len32 (x % y)) c2]) ∧ Rd32 w' A1 (x / y) ∧ Rd32 w' A2 (x % y) ∧ len32 (x / y) ≤ c1 ∧ len32 (x % y) ≤ c2 ∧ Below w.heap.size w w'
theorem low_small {x : Nat} (h : len32 x ≤ 2) : x < 18446744073709551616 := by
 have := lt_of_dig_len hB32 (n := x) (k := 2) h
 have h2 : B32 ^ 2 = 18446744073709551616 := by decide
 omega
set_option maxRecDepth 100000 in
set_option maxHeartbeats 4000000 in
theorem divide_less (A D : Option Addr) (ca cd x y n m : Nat) (hn : n = len32 x) (hm : m = len32 y) (w : World) (h : Rd32 w A x) (h' : Rd32 w D y) (hx : len32 x ≤ 1000) (hy : len32 y ≤ 1000) (hxy : x < y) :
 Calls Tryz.prog 94 #[.slice A n ca, .slice D m cd] w (DivPost w x y) := by
 have HC := Lib.hid (frac_cmp A D ca cd x y n m hn hm w h h' hx hy)
 rw [cmpNat_lt hxy] at HC
 have HL := Lib.hid (fun (w1 : World) (hb : Below w.heap.size w w1) => clone_nat A ca x n hn w1 (h.from hb) hx)
 have HX := Lib.hid hxy
 clear h h' hxy hn hm
 go_enter Tryz.func94, Tryz.ntmps94
 go_wp2_with (first
  | (go_at_call 60; refine (HC.out).mono ?_; rintro e w1 ⟨rfl, hb1⟩; have HB1 := Lib.hid hb1; clear hb1)
  | (go_at_call 133; refine (HL.out _ HB1.out).mono ?_; rintro e w2 ⟨A2, c2, rfl, hown2, hc2, hb2⟩))
 go_ret2
 have hdiv : x / y = 0 := Nat.div_eq_of_lt HX.out
 have hmod : x % y = x := Nat.mod_eq_of_lt HX.out
 unfold DivPost
 rw [hdiv, hmod]
 exact ⟨none, 0, A2, c2, rfl, Rd.nil _ _ _ _, hown2.rd, Nat.zero_le _, hc2, HB1.out.trans (hb2.mono HB1.out.size)⟩
set_option maxRecDepth 100000 in
set_option maxHeartbeats 4000000 in
theorem divide_two (A D : Option Addr) (ca cd x y n m : Nat) (hn : n = len32 x) (hm : m = len32 y) (w : World) (h : Rd32 w A x) (h' : Rd32 w D y) (hx : len32 x ≤ 2) (hy0 : 0 < y) (hxy : y ≤ x) :
 Calls Tryz.prog 94 #[.slice A n ca, .slice D m cd] w (DivPost w x y) := by
 have hy : len32 y ≤ 2 := Nat.le_trans (dig_len_le hB32 (Nat.lt_of_le_of_lt hxy (lt_of_dig_len hB32 (Nat.le_refl _)))) hx
 have HC := Lib.hid (frac_cmp A D ca cd x y n m hn hm w h h' (by omega) (by omega))
 have hc : ¬ cmpNat x y < 0 := by
  unfold cmpNat
  rw [if_neg (by omega)]
  split <;> decide
 have hxs := low_small hx
 have hys := low_small hy
 have HLX := Lib.hid (fun (w1 : World) (hb : Below w.heap.size w w1) => frac_low A ca n x hn w1 (h.from hb) (by omega) x (Nat.mod_eq_of_lt hxs).symm)
 have HLY := Lib.hid (fun (w1 : World) (hb : Below w.heap.size w w1) => frac_low D cd m y hm w1 (h'.from hb) (by omega) y (Nat.mod_eq_of_lt hys).symm)
 obtain ⟨q, hq⟩ : ∃ q, q = x / y := ⟨_, rfl⟩
 obtain ⟨r, hr⟩ : ∃ r, r = x % y := ⟨_, rfl⟩
 have hqi : (x : Int) / (y : Int) = (q : Int) := by rw [hq]; exact (Int.natCast_ediv x y).symm
 have hri : (x : Int) % (y : Int) = (r : Int) := by rw [hr]; exact (Int.natCast_emod x y).symm
 have hqs : q < 18446744073709551616 := by rw [hq]; exact Nat.lt_of_le_of_lt (Nat.div_le_self _ _) hxs
 have hrs : r < 18446744073709551616 := by rw [hr]; exact Nat.lt_of_le_of_lt (Nat.mod_le _ _) hxs
 have HQ := Lib.hid (fun (w1 : World) => frac_of q hqs w1)
 have HR := Lib.hid (fun (w1 : World) => frac_of r hrs w1)
 have hy1 : ¬ ((y : Int) = 0) := by omega
 have hn2 : (n : Int) ≤ 2 := by omega
 have HQE := Lib.hid hq
 have HRE := Lib.hid hr
 generalize cmpNat x y = cv at *
 clear h h' hxy hn hm hx hy hq hr
 go_enter Tryz.func94, Tryz.ntmps94
 go_wp2_with (first
  | (go_at_call 60; refine (HC.out).mono ?_; rintro e w1 ⟨rfl, hb1⟩; have HB1 := Lib.hid hb1; have P1 := HB1; clear hb1)
  | (go_at_call 134; refine (HLX.out _ P1.out).mono ?_; rintro e w2 ⟨rfl, rfl⟩; have P2 := P1; clear P1)
  | (go_at_call 134; refine (HLY.out _ P2.out).mono ?_; rintro e w2 ⟨rfl, rfl⟩; have P3 := P2; clear P2)
  | (go_at_call 59; refine (HQ.out _).mono ?_; rintro e w3 ⟨A3, c3, rfl, hrd3, hc3, hb3⟩; have HB3 := Lib.hid (HB1.out.trans (hb3.mono HB1.out.size)); have P1 := HB3; have HRD3 := Lib.hid hrd3; have HC3 := Lib.hid hc3; clear hb3 hrd3 hc3 HQ)
  | (go_at_call 59; refine (HR.out _).mono ?_; rintro e w4 ⟨A4, c4, rfl, hrd4, hc4, hb4⟩))
 go_ret2
 unfold DivPost
 rw [← HQE.out, ← HRE.out]
 exact ⟨A3, c3, A4, c4, rfl, HRD3.out.from hb4, hrd4, HC3.out, hc4, HB3.out.trans (hb4.mono HB3.out.size)⟩
theorem dig_limb {y : Nat} (h : len32 y = 1) : dig B32 y = [y] ∧ 0 < y ∧ y < 4294967296 := by
 have h1 : y < B32 ^ 1 := lt_of_dig_len hB32 (show len32 y ≤ 1 by omega)
 have hB : B32 = 4294967296 := rfl
 have h2 : y ≠ 0 := by
  rintro rfl
  exact absurd h (by decide)
 rw [Nat.pow_one] at h1
 refine ⟨?_, by omega, by omega⟩
 rw [dig_pos hB32 h2, Nat.mod_eq_of_lt h1, Nat.div_eq_of_lt h1, dig_zero hB32]
theorem len_div (x y : Nat) : len32 (x / y) ≤ len32 x := dig_len_le hB32 (Nat.lt_of_le_of_lt (Nat.div_le_self x y) (lt_of_dig_len hB32 (Nat.le_refl _)))
set_option maxRecDepth 100000 in
set_option maxHeartbeats 4000000 in
theorem divide_one (A D : Option Addr) (ca cd x y n m : Nat) (hn : n = len32 x) (hm : m = len32 y) (w : World) (h : Rd32 w A x) (h' : Rd32 w D y) (hx : len32 x ≤ 1000) (hx2 : 2 < len32 x) (hy : len32 y = 1) :
 Calls Tryz.prog 94 #[.slice A n ca, .slice D m cd] w (DivPost w x y) := by
 have hyx : y ≤ x := Nat.le_of_lt (lt_of_len_lt hB32 (m := y) (n := x) (show len32 y < len32 x by omega))
 have HC := Lib.hid (frac_cmp A D ca cd x y n m hn hm w h h' (by omega) (by omega))
 have hc : ¬ cmpNat x y < 0 := by
  unfold cmpNat
  rw [if_neg (by omega)]
  split <;> decide
 obtain ⟨hyd, hy0, hyB⟩ := dig_limb hy
 obtain ⟨l, hl⟩ : ∃ l, l = dig B32 x := ⟨_, rfl⟩
 have hll : l.length = n := by rw [hl, hn]
 have hld : Digs B32 l := by rw [hl]; exact Digs.dig hB32 x
 have hlv : valB B32 l = x := by rw [hl]; exact val_dig hB32 x
 obtain ⟨r, hr⟩ : ∃ r, r = x % y := ⟨_, rfl⟩
 have hrs : r < 4294967296 := by rw [hr]; exact Nat.lt_trans (Nat.mod_lt _ hy0) hyB
 have HL := Lib.hid (fun (w1 : World) (hb : Below w.heap.size w w1) => clone_nat A ca x n hn w1 (h.from hb) hx)
 have HS := Lib.hid (fun (g c : Nat) (w1 : World) (hL : NBx w1 g 52 .u32 l) => frac_small g c n y l hll.symm w1 hL hld (by omega) hy0 hyB)
 have HT := Lib.hid (fun (g c : Nat) (o : List Nat) (ho : o.length = n) (hod : Digs B32 o) (hc : n ≤ c) (w1 : World) (hL : NBx w1 g 52 .u32 o) => frac_trim (some ⟨g, 0, none⟩) c n o ho.symm w1 hL.rd hod (by omega) (by omega))
 have HR := Lib.hid (fun (w1 : World) => frac_of r (by omega) w1)
 obtain ⟨b0, o0, rfl, hb0, hld0⟩ := num_ld Tryz.underlying52 rfl h' (i := 0) (show 0 < (dig B32 y).length by show 0 < len32 y; omega)
 have HLD := Lib.hid (fun (w1 : World) (hb : Below w.heap.size w w1) => by
  have h1 := hld0 w1 hb
  have e : (dig B32 y)[0]'(show 0 < (dig B32 y).length by show 0 < len32 y; omega) = y := by simp [hyd]
  rw [e] at h1
  exact h1)
 have hn2 : ¬ (n : Int) ≤ 2 := by omega
 have hm1 : m = 1 := by omega
 subst hm1
 have wr := wrap_u64 (n := (r : Int)) (by omega) (by omega)
 have HQE : Hid (∀ o, valB B32 o = valB B32 l / y → valB B32 o = x / y) := by unfold Hid; intro o ho; rw [ho, hlv]
 have HRE : Hid (valB B32 l % y = r) := by unfold Hid; rw [hlv, hr]
 have HR2 := Lib.hid hr
 have HN := Lib.hid hn
 have HLL := Lib.hid (hl.symm)
 have hnpos : 0 < n := by omega
 generalize cmpNat x y = cv at *
 clear h h' hyx hy hx hx2 hr hll hld hlv hyd hl hn hm hld0
 go_enter Tryz.func94, Tryz.ntmps94
 go_wp2_with (first
  | (go_at_call 60; refine (HC.out).mono ?_; rintro e w1 ⟨rfl, hb1⟩; have HB1 := Lib.hid hb1; clear hb1)
  | (go_at_call 133; refine (HL.out _ HB1.out).mono ?_; rintro e w2 ⟨A2, c2, rfl, hown2, hc2, hb2⟩; rw [HLL.out] at hown2; obtain ⟨g, rfl, hg, hnb⟩ := hown2.nbx (by rw [← HLL.out]; show 0 < len32 x; rw [← HN.out]; exact hnpos); have HC2 : Hid (n ≤ c2) := by unfold Hid; rw [HN.out]; exact hc2
     have HB2 := Lib.hid (HB1.out.trans (hb2.mono HB1.out.size)); have HG := Lib.hid (Nat.le_trans HB1.out.size hg); have HNB := Lib.hid hnb; rw [← HN.out]; clear hown2 hb2 hc2 hg hnb)
  | ((with_reducible refine g_ld 52 ?_); refine wpList_ld rfl _ _ rfl _ rfl _ (HLD.out _ HB2.out) ?_)
  | (go_at_call 135; refine (HS.out g c2 _ HNB.out).mono ?_; rintro e w3 ⟨o, rfl, hol, hod, hov, hnb3, hgr3⟩; rw [HRE.out]; have HOV := Lib.hid (HQE.out o hov); have HOL := Lib.hid hol; have HOD := Lib.hid hod; have HNB3 := Lib.hid hnb3
     have HB3 := Lib.hid (HB2.out.grown hgr3 HB2.out.size (by intro k hk; injection hk with hk; rw [← hk]; exact HG.out)); clear hol hod hov hnb3 hgr3)
  | (go_at_call 93; refine (HT.out g c2 o (by rw [HOL.out, ← HLL.out]; exact HN.out.symm) HOD.out HC2.out _ HNB3.out).mono ?_; rintro e w4 ⟨rfl, rfl⟩)
  | (go_at_call 59; refine (HR.out _).mono ?_; rintro e w5 ⟨A5, c5, rfl, hrd5, hc5, hb5⟩))
 go_ret2
 unfold DivPost
 refine ⟨some ⟨g, 0, none⟩, c2, A5, c5, ?_, ?_, ?_, ?_, ?_, HB3.out.trans (hb5.mono HB3.out.size)⟩
 · rw [HOV.out, HR2.out]; rfl
 · have h1 := rd_trim hB32 HNB3.out.rd HOD.out
   rw [HOV.out] at h1
   exact Rd.from h1 hb5
 · rw [← HR2.out]; exact hrd5
 · exact Nat.le_trans (len_div x y) (by rw [← HN.out]; exact HC2.out)
 · rw [← HR2.out]; exact hc5
end Go.Proofs.YtfdjcakgolenbaaGreat
