/-
  twistlocklaw18: Small; stores into what the call owns; append that keeps what was there; Made, plain.
  Blocks of one row; rows as they are read; an append of which it is told where the result lies.
-/
import Derived.Test.YtcdfnlgimbecgaaMo36
import Derived.Deep.Cut

namespace Go.Proofs.Ytcdfnlgimbecgaa
open Go.RowKit

structure Sml where
  step : Int
  light : Int
  at_ : Int
  kilos : Int
  share : Int
deriving DecidableEq
def Sml.cells (b : Sml) : List Value := [.int .u16 b.step, .int .u16 b.light, .int .u16 b.at_, .int .u16 b.kilos, .int .u8 b.share]
abbrev Sml.val (b : Sml) : Value := .agg #[.int .u16 b.step, .int .u16 b.light, .int .u16 b.at_, .int .u16 b.kilos, .int .u8 b.share]
def Sml.ok (b : Sml) : Prop := (0 ≤ b.step ∧ b.step < 65536) ∧ (0 ≤ b.light ∧ b.light < 65536) ∧ (0 ≤ b.at_ ∧ b.at_ < 65536) ∧ (0 ≤ b.kilos ∧ b.kilos < 65536) ∧ (0 ≤ b.share ∧ b.share < 256)
theorem Sml.row : IsRow Try.prog 95 5 := ⟨_, Try.underlying95, by kernel_rfl, by kernel_rfl⟩
theorem Sml.ld {w : World} {B : Nat} {A : Option Addr} {css : List (List Value)} (h : Rd w B 5 A css) {k : Nat} {b : Sml} (hk : css[k]? = some b.cells) :
    ∃ g off, A = some ⟨g, off, none⟩ ∧ g < B ∧ ∀ w', Below B w w' → (loadVar 95 ⟨g, off + k * 5, none⟩).run Try.prog w' = .ok b.val w' := h.ld Sml.row hk

/-- a cell of what the call owns is written -/
theorem set_flat {size : Nat} : ∀ (css : List (List Value)), (∀ cs ∈ css, cs.length = size) → ∀ (i j : Nat) (hi : i < css.length), j < size → ∀ v : Value, css.flatten.set (i * size + j) v = (css.set i ((css[i]).set j v)).flatten
  | [], _, i, _, hi, _, _ => by cases hi
  | cs :: css, h, 0, j, _, hj, v => by
    have hl : cs.length = size := h cs (by simp)
    simp only [Nat.zero_mul, Nat.zero_add, List.flatten_cons, List.set_cons_zero, List.getElem_cons_zero]
    rw [List.set_append_left _ _ (by omega)]
  | cs :: css, h, i + 1, j, hi, hj, v => by
    have hl : cs.length = size := h cs (by simp)
    have ih := set_flat css (fun c hc => h c (by simp [hc])) i j (by simpa using hi) hj v
    simp only [List.flatten_cons, List.set_cons_succ, List.getElem_cons_succ]
    rw [List.set_append_right _ _ (by rw [hl, Nat.add_mul]; omega), ← ih]
    congr 2
    rw [hl, Nat.add_mul]
    omega
theorem wpList_stO {P : Program} {w : World} {ops : Array Oper} {rest : List Oper} {o : Oper} {a : Act} {Q : Exit → Act → World → Prop} {T base e size c g i j : Nat} {css : List (List Value)} {v : Value} (hgd : o.guard = none) (x y : Operand) (ho : o.op = .store T x y)
    (hx : a.eval x = .pointer (some ⟨g, i * size + j, none⟩)) (hy : a.eval y = v) (hsz : (P.info? T).map (·.size) = some 1) (hv : v.cells.toList = [v]) (h1 : v.oneCell' = true) (hown : OwnS w base e size (some ⟨g, 0, none⟩) c css) (hi : i < css.length) (hj : j < size)
    (h : ∀ w', OwnS w' base e size (some ⟨g, 0, none⟩) c (css.set i ((css[i]).set j v)) → w.grownBy w' (some g) → wpList P ops Q rest (a.put o.dst undef) w') : wpList P ops Q (o :: rest) a w := by
  obtain ⟨h63, h0⟩ | ⟨g', cap, cur, he, hb, hg, hnc, hcm, hcs, htake⟩ := hown.1.2
  · cases h63
  · simp only [Value.slice.injEq, Option.some.injEq, Addr.mk.injEq, and_true, true_and] at he
    obtain ⟨rfl, rfl⟩ := he
    have hlt : i * size + j < css.length * size := by
      have : (i + 1) * size ≤ css.length * size := Nat.mul_le_mul_right _ hi
      rw [Nat.add_mul] at this
      omega
    have hle : css.length * size ≤ c * size := Nat.mul_le_mul_right _ hnc
    refine wpList_st (cs := [v]) hgd x y ho hx hy hsz hv rfl hg (by omega) (by simpa using h1) fun cur' w' hc hs hg' hgr => h w' ⟨⟨?_, .inr ⟨g, c, cur', ?_, hb, hg', ?_, hcm, by rw [hs, hcs], ?_⟩⟩, ?_⟩ hgr
    · rw [← set_flat css hown.2 i j hi hj v, List.length_set, List.length_set]
      exact hown.1.1
    · simp
    · simpa using hnc
    · rw [hc, ← set_flat css hown.2 i j hi hj v, ← htake, List.length_set]
      have hlen : cur.toList.length = c * size := by rw [Array.length_toList, hcs]
      apply List.ext_getElem?
      intro k
      rcases Nat.lt_or_ge k (css.length * size) with hk | hk
      · rw [List.getElem?_take_of_lt hk]
        by_cases hkx : k = i * size + j
        · subst hkx
          rw [List.getElem?_set_self (by rw [List.length_take]; omega), List.append_assoc, List.getElem?_append_right (by rw [List.length_take]; omega)]
          simp only [List.length_take, hlen]
          rw [Nat.min_eq_left (by omega), Nat.sub_self]
          rfl
        · rw [List.getElem?_set_ne (by omega), List.getElem?_take_of_lt hk]
          rcases Nat.lt_or_ge k (i * size + j) with h3 | h3
          · rw [List.append_assoc, List.getElem?_append_left (by rw [List.length_take]; omega), List.getElem?_take_of_lt h3]
          · rw [List.getElem?_append_right (by simp; omega), List.getElem?_drop]
            congr 1
            simp only [List.length_append, List.length_take, hlen, List.length_singleton]
            omega
      · rw [List.getElem?_eq_none (by rw [List.length_take]; omega), List.getElem?_eq_none (by rw [List.length_set, List.length_take]; omega)]
    · intro cs hcs'
      rcases List.mem_or_eq_of_mem_set hcs' with h3 | h3
      · exact hown.2 cs h3
      · rw [h3, List.length_set]
        exact hown.2 _ (List.getElem_mem hi)

/-- append; what was there is there still -/
theorem OwnS.front {w : World} {base e size c : Nat} {A : Option Addr} {css news : List (List Value)} (h : OwnS w base e size A c (css ++ news)) (hA : A ≠ none) : OwnS w base e size A c css := by
  obtain ⟨h63, h0⟩ | ⟨g', cap, cur, he, hb, hg, hnc, hcm, hcs, htake⟩ := h.1.2
  · injection h63 with h3 _ _
    exact absurd h3 hA
  · simp only [Value.slice.injEq, true_and] at he
    obtain ⟨rfl, rfl⟩ := he
    have hl := flat_len css (fun cs hc => h.2 cs (by simp [hc]))
    refine ⟨⟨hl, .inr ⟨g', c, cur, rfl, hb, hg, by rw [List.length_append] at hnc; omega, hcm, hcs, ?_⟩⟩, fun cs hc => h.2 cs (by simp [hc])⟩
    have h1 : (cur.toList.take ((css ++ news).length * size)).take (css.length * size) = (css ++ news).flatten.take (css.length * size) := by rw [htake]
    rw [List.take_take, Nat.min_eq_left (Nat.mul_le_mul_right _ (by simp)), List.flatten_append] at h1
    rw [h1, ← hl, List.take_left]
theorem run_append_both {P : Program} {w : World} {t e size bytes base c m cn ty : Nat} {A : Option Addr} {ad : Addr} {css news : List (List Value)} (hE : EI P t e size bytes) (hown : OwnS w base e size A c css) (B : Nat) (hr : Rd w B size (some ad) news) (hm : m = news.length)
    (h1 : ∀ cs ∈ news, ∀ u ∈ cs, u.oneCell' = true) (h63 : css.length + m ≤ maxLen) (hbytes : (css.length + m) * bytes ≤ 140737488355328) (hbase : base ≤ w.heap.size) :
    ∃ A' c' w', (Builtin.append_ #[t, t] ty #[.slice A css.length c, .slice (some ad) m cn]).run P w = .ok (.slice A' (css ++ news).length c') w' ∧ OwnS w' base e size A' c' (css ++ news) ∧ OwnS w' base e size A c css ∧ w.grownBy w' (A.map (·.block)) ∧ Below base w w' := by
  obtain ⟨A', c', w', hrun, h2, h3, h4⟩ := run_append_own_any (P := P) (ty := ty) (cn := cn) hE hown B hr hm h1 h63 hbytes hbase
  have h3' : w.grownBy w' (A.map (·.block)) := by
    have e0 : Value.ownBlock (.slice A css.length c) = A.map (·.block) := by cases A <;> rfl
    rw [← e0]
    exact h3
  refine ⟨A', c', w', hrun, h2, ?_, h3', h4⟩
  have hrun0 := hrun
  obtain ⟨h5, h0⟩ | ⟨g, cap, cur, he, hb, hg, hnc, hcm, hcs, htake⟩ := hown.1.2
  · injection h5 with h6 h7 h8
    subst h6; subst h8
    have : css = [] := List.eq_nil_of_length_eq_zero h0
    subst this
    exact OwnS.nil _ _ _ _
  · simp only [Value.slice.injEq, true_and] at he
    obtain ⟨rfl, rfl⟩ := he
    obtain ⟨ht, i, z, hi, hz, hs, hby, hzs, h0⟩ := hE
    subst hm
    have hnews : ∀ j u, news.flatten[j]? = some u → w.cell? (ad.add j) = some u := fun j u hu => by obtain ⟨ad', h, hc⟩ := hr.flat j u hu; injection h with h; rw [h]; exact hc
    have hone : ∀ u ∈ news.flatten, u.oneCell' = true := fun u hu => by obtain ⟨cs, hcs, hu'⟩ := List.mem_flatten.1 hu; exact h1 cs hcs u hu'
    by_cases hroom : css.length + news.length ≤ c
    · obtain ⟨w2, hr2, _, _⟩ := run_append_fits (P := P) w base t ty e i size ht hi hs g css.length c css.flatten hown.1 ad news.length cn news.flatten (flat_len news hr.len) hnews hone hroom
      rw [hr2] at hrun
      injection hrun with h5 h6
      injection h5 with h7 _ h8
      subst h7; subst h8
      exact h2.front (by simp)
    · have holds : ∀ j u, css.flatten[j]? = some u → w.cell? ((⟨g, 0, none⟩ : Addr).add j) = some u := hown.1.cells (g := g) rfl
      have hl : css.flatten.length = css.length * i.size := by rw [hs]; exact hown.1.1
      have hnl : news.flatten.length = news.length * i.size := by rw [hs]; exact flat_len news hr.len
      have hr2 := run_append_grow (P := P) w t ty e i z ht hi hz ⟨g, 0, none⟩ css.length c css.flatten hl holds ad news.length cn news.flatten hnl hnews (by omega) (by unfold maxLen at h63; omega) (growslice_fits (by omega) (by rw [hby]; exact hbytes))
      rw [hr2] at hrun
      injection hrun with h5 h6
      rw [← h6]
      exact hown.drew.alloc _
theorem wpList_append_both {P : Program} {w : World} {ops : Array Oper} {rest : List Oper} {o : Oper} {a : Act} {Q : Exit → Act → World → Prop} {t e size bytes base c m cn : Nat} {A : Option Addr} {ad : Addr} {css news : List (List Value)} (hgd : o.guard = none) (s x : Operand)
    (ho : o.op = .call { callee := .builtin .append, args := #[s, x], argTypes := #[t, t] })
    (hE : EI P t e size bytes) (n : Nat) (hn : n = css.length) (hs : a.eval s = .slice A n c) (hown : OwnS w base e size A c css) (hx : a.eval x = .slice (some ad) m cn) (B : Nat) (hr : Rd w B size (some ad) news) (hm : m = news.length)
    (h1 : ∀ cs ∈ news, ∀ u ∈ cs, u.oneCell' = true) (h63 : css.length + m ≤ maxLen) (hbytes : (css.length + m) * bytes ≤ 140737488355328) (hbase : base ≤ w.heap.size)
    (h : ∀ A' c' w', OwnS w' base e size A' c' (css ++ news) → OwnS w' base e size A c css → w.grownBy w' (A.map (·.block)) → Below base w w' → wpList P ops Q rest (a.put o.dst (.slice A' (n + m) c')) w') : wpList P ops Q (o :: rest) a w := by
  subst hn
  obtain ⟨A', c', w', hrun, h2, h3, h4, h5⟩ := run_append_both (P := P) (ty := o.type) (cn := cn) hE hown B hr hm h1 h63 hbytes hbase
  have hlen : (css ++ news).length = css.length + m := by rw [List.length_append, hm]
  rw [hlen] at hrun
  refine wpList_plain hgd fun K hK => ?_
  unfold Oper.wp execOp
  simp only [ho, resolve, invoke, builtin, Sem.run_bind, Sem.run_pure, Result.andThen_ok, List.map_toArray, List.map_cons, List.map_nil, hs, hx, hrun]
  exact hK _ _ (h A' c' w' h2 h3 h4 h5)

/-- the frames as they are made -/
structure MS where
  done : List Frm
  x : Int
  rest : Int
def MS.share (s : MS) (x : Sml) : Int := min s.rest (20 * x.share)
def MS.nextX (s : MS) (x : Sml) : Int := s.x + 1 + x.step.tmod (9000 + ((s.done.length : Int) - 2))
def MS.step (s : MS) (x : Sml) : MS := ⟨s.done ++ [⟨s.x, x.light, s.share x, 0, 0⟩], s.nextX x, s.rest - s.share x⟩
def MS.frames (s : MS) : List Frm := s.done ++ [⟨s.x, 0, 0, 0, 0⟩]
def ms0 : MS := ⟨[⟨-20000, 3000, 1000, 0, 0⟩, ⟨-10000, 2000, 0, 0, 0⟩], 5000, 9000⟩
def msAt (l : List Sml) (k : Nat) : MS := (l.take k).foldl MS.step ms0
def addRest (F : List Frm) (r : Int) : List Frm := F.set 1 { F.getD 1 frm0 with share := (F.getD 1 frm0).share + r }
def madeF (l : List Sml) : List Frm := addRest (msAt l (min l.length 7)).frames (msAt l (min l.length 7)).rest
def madeW (l : List Sml) : Int := (msAt l (min l.length 7)).x + 20000
def wtAt (width : Int) (x : Sml) : Wt := ⟨-20000 + (x.at_ * 7).tmod width, x.kilos⟩
def madeL (l : List Sml) : List Wt := (l.take (min l.length 8)).map (wtAt (madeW l))

theorem msAt_succ (l : List Sml) {k : Nat} (h : k < l.length) : msAt l (k + 1) = (msAt l k).step l[k] := by
  unfold msAt
  rw [List.take_succ_eq_append_getElem h, List.foldl_append]
  rfl
theorem msAt_len (l : List Sml) : ∀ k, k ≤ l.length → (msAt l k).done.length = k + 2
  | 0, _ => rfl
  | k + 1, h => by
    rw [msAt_succ l (by omega)]
    show ((msAt l k).done ++ _).length = _
    rw [List.length_append, msAt_len l k (by omega)]
    rfl
end Go.Proofs.Ytcdfnlgimbecgaa

namespace Go.Proofs.Ytcdfnlgimbecgaa
open Go.RowKit

/-- a box of one row -/
theorem own_box {w : World} {base e size g : Nat} {cs : List Value} (h : w.heap[g]? = some (.cells cs.toArray e (0, 0))) (hl : cs.length = size) (hb : base ≤ g) : OwnS w base e size (some ⟨g, 0, none⟩) 1 [cs] :=
  ⟨⟨by simp [hl], .inr ⟨g, 1, cs.toArray, rfl, hb, h, Nat.le_refl _, by unfold maxLen; omega, by simp [hl], by simp; exact List.take_of_length_le (by omega)⟩⟩, by intro c hc; rw [List.mem_singleton] at hc; subst hc; exact hl⟩

theorem own_row {w : World} {base size c g i T : Nat} {css : List (List Value)} {cs : List Value} (hT : IsRow Try.prog T size) (h : OwnS w base T size (some ⟨g, 0, none⟩) c css) (hi : css[i]? = some cs) {p : Nat} (hp : p = i * size) : ∀ w1, From w w1 → (loadVar T ⟨g, p, none⟩).run Try.prog w1 = .ok (.agg cs.toArray) w1 := by
  intro w1 hb
  subst hp
  obtain ⟨b, off, e, _, hl⟩ := h.rd.ld hT hi
  simp only [Option.some.injEq, Addr.mk.injEq, and_true] at e
  obtain ⟨rfl, rfl⟩ := e
  have h1 := hl w1 hb
  rw [Nat.zero_add] at h1
  exact h1

theorem ownBlock_slice (A : Option Addr) (n c : Nat) : Value.ownBlock (.slice A n c) = A.map (·.block) := by cases A <;> rfl

theorem wpList_append_o {P : Program} {w : World} {ops : Array Oper} {rest : List Oper} {o : Oper} {a : Act} {Q : Exit → Act → World → Prop} {t e size bytes base c m cn : Nat} {A : Option Addr} {ad : Addr} {css news : List (List Value)} (hgd : o.guard = none) (s x : Operand)
    (ho : o.op = .call { callee := .builtin .append, args := #[s, x], argTypes := #[t, t] })
    (hE : EI P t e size bytes) (n : Nat) (hn : n = css.length) (hs : a.eval s = .slice A n c) (hown : OwnS w base e size A c css) (hx : a.eval x = .slice (some ad) m cn) (B : Nat) (hr : Rd w B size (some ad) news) (hm : m = news.length)
    (h1 : ∀ cs ∈ news, ∀ u ∈ cs, u.oneCell' = true) (h63 : css.length + m ≤ maxLen) (hbytes : (css.length + m) * bytes ≤ 140737488355328) (hbase : base ≤ w.heap.size)
    (h : ∀ A' c' w', OwnS w' base e size A' c' (css ++ news) → w.grownBy w' (A.map (·.block)) → Below base w w' → (A'.map (·.block) = A.map (·.block) ∨ A'.map (·.block) = some w.heap.size) → wpList P ops Q rest (a.put o.dst (.slice A' (n + m) c')) w') : wpList P ops Q (o :: rest) a w := by
  subst hn
  subst hm
  obtain ⟨ht, i, z, hi, hz, hs', hb, hzs, h0⟩ := hE
  have hlen : ∀ cs ∈ css ++ news, cs.length = size := fun cs hc => by
    rcases List.mem_append.1 hc with h | h
    · exact hown.2 cs h
    · exact hr.len cs h
  obtain ⟨v', w', hrun, h2, h3, _, h5⟩ := run_append_own_at (P := P) w base t o.type e i z size bytes ht hi hz hs' hb hzs h0 (.slice A css.length c) css.length css.flatten hown.1 ad news.length cn news.flatten (flat_len news hr.len)
    (fun j u hu => by obtain ⟨ad', h, hc⟩ := hr.flat j u hu; injection h with h; rw [h]; exact hc)
    (fun u hu => by obtain ⟨cs, hcs, hu'⟩ := List.mem_flatten.1 hu; exact h1 cs hcs u hu') h63 hbytes hbase
  obtain ⟨A', c', rfl, h4⟩ := OwnS.of (css := css ++ news) (by rw [List.flatten_append]; exact h2) (by simp) hlen
  rw [ownBlock_slice, ownBlock_slice] at h5
  rw [ownBlock_slice] at h3
  refine wpList_plain hgd fun K hK => ?_
  unfold Oper.wp execOp
  simp only [ho, resolve, invoke, builtin, Sem.run_bind, Sem.run_pure, Result.andThen_ok, List.map_toArray, List.map_cons, List.map_nil, hs, hx, hrun]
  have := h A' c' w' h4 h3 ((Below.refl _ _).grown h3 hbase (fun k hk => by
    cases A with
    | none => cases hk
    | some q => injection hk with hk; subst hk; exact (hown.lt rfl).1)) h5
  rw [List.length_append]
  exact hK _ _ this
end Go.Proofs.Ytcdfnlgimbecgaa
