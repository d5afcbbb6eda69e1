/-
  The boxes after one change, as the reference makes them.
-/
import Derived.Test.YtccjddbcdmgefaaRefCargo
namespace Go.Proofs.Ytccjddbcdmgefaa
open Go.RowKit

theorem g_ld {P : Program} {w : World} {ops : Array Oper} {rest : List Oper} {a : Act} {Q : Exit → Act → World → Prop} (T : Nat) {x : Operand} {d : Option Nat} {ty : TypeId} {pos : String} {aft : Array Edge} {gd : Option (Nat × Bool)}
    (h : wpList P ops Q (⟨d, .load T x, ty, pos, aft, gd⟩ :: rest) a w) : wpList P ops Q (⟨d, .load T x, ty, pos, aft, gd⟩ :: rest) a w := h
theorem g_st {P : Program} {w : World} {ops : Array Oper} {rest : List Oper} {a : Act} {Q : Exit → Act → World → Prop} (T : Nat) {x y : Operand} {d : Option Nat} {ty : TypeId} {pos : String} {aft : Array Edge} {gd : Option (Nat × Bool)}
    (h : wpList P ops Q (⟨d, .store T x y, ty, pos, aft, gd⟩ :: rest) a w) : wpList P ops Q (⟨d, .store T x y, ty, pos, aft, gd⟩ :: rest) a w := h

theorem wpList_append_n {P : Program} {w : World} {ops : Array Oper} {rest : List Oper} {o : Oper} {a : Act} {Q : Exit → Act → World → Prop} {t e size bytes base c m cn : Nat} {A X : Option Addr} {css news : List (List Value)} (hgd : o.guard = none) (s x : Operand)
    (ho : o.op = .call { callee := .builtin .append, args := #[s, x], argTypes := #[t, t] })
    (hE : EI P t e size bytes) (n : Nat) (hn : n = css.length) (hs : a.eval s = .slice A n c) (hown : OwnS w base e size A c css) (hx : a.eval x = .slice X m cn) (B : Nat) (hr : Rd w B size X news) (hm : m = news.length)
    (h1 : ∀ cs ∈ news, ∀ u ∈ cs, u.oneCell' = true) (h63 : css.length + m ≤ maxLen) (hbytes : (css.length + m) * bytes ≤ 140737488355328) (hbase : base ≤ w.heap.size)
    (h : ∀ A' c' w', OwnS w' base e size A' c' (css ++ news) → w.grownBy w' (Value.ownBlock (.slice A css.length c)) → Below base w w' → wpList P ops Q rest (a.put o.dst (.slice A' (n + m) c')) w') : wpList P ops Q (o :: rest) a w := by
  subst hn
  refine wpList_append_rd hgd s x ho hE hs hown hx B hr hm h1 h63 hbytes hbase fun A' c' w' h2 h3 h4 => ?_
  have := h A' c' w' h2 h3 h4
  rwa [List.length_append, ← hm]

theorem Rd.newS (w : World) (o : Obj) (t size : Nat) (cs : List Value) (hl : cs.length = size) : Rd ((w.alloc o).alloc (.cells cs.toArray t)) ((w.alloc o).alloc (.cells cs.toArray t)).heap.size size (some ⟨w.heap.size + 1, 0, none⟩) [cs] := by
  have h := Rd.new2 (w.alloc o) t size cs hl
  have e : (w.alloc o).heap.size = w.heap.size + 1 := by simp
  rw [e] at h
  exact h

def skipB (call : Int) (b : Box) : List Box := if b.load = call then [] else if b.dis = call then [{ b with dis := call + 1 }] else [b]
def skipL (l : List Box) (call : Int) : List Box := l.flatMap (skipB call)

theorem skipL_succ (l : List Box) (call : Int) (k : Nat) (hk : k < l.length) : skipL (l.take (k + 1)) call = skipL (l.take k) call ++ skipB call l[k] := by
  unfold skipL
  rw [List.take_succ_eq_append_getElem hk, List.flatMap_append]
  simp only [List.flatMap_cons, List.flatMap_nil, List.append_nil]

theorem skipL_len (l : List Box) (call : Int) : (skipL l call).length ≤ l.length := by
  unfold skipL
  induction l with
  | nil => simp
  | cons b l ih =>
    have : (skipB call b).length ≤ 1 := by
      unfold skipB
      split <;> try split
      all_goals simp
    simp only [List.flatMap_cons, List.length_append, List.length_cons]
    omega

set_option maxRecDepth 100000 in
set_option maxHeartbeats 2000000 in
theorem ref_skip (A : Option Addr) (c : Nat) (l : List Box) (n : Nat) (hn : n = l.length) (call : Int) (hc0 : 0 ≤ call) (hc1 : call ≤ 1000) (w : World) (hA : Rd w w.heap.size 9 A (l.map Box.cells)) (hl : l.length ≤ 1000000) :
    Calls Try.prog 59 #[.slice A n c, .int .i64 call] w fun e w' => ∃ A' c', e = .returned (.slice A' (skipL l call).length c') ∧ OwnS w' w.heap.size 73 9 A' c' ((skipL l call).map Box.cells) ∧ Below w.heap.size w w' := by
  subst hn
  go_enter Try.func59, Try.ntmps59
  go_wp2
  go_loopw [5, 6] (fun v i wr => ∃ k : Nat, k ≤ l.length ∧ i = .int .i64 k ∧ (∃ D d, v = .slice D (skipL (l.take k) call).length d ∧ OwnS wr w.heap.size 73 9 D d ((skipL (l.take k) call).map Box.cells)) ∧ Below w.heap.size w wr) (fun _ i _ => l.length - (intOf i).toNat)
  case atStart => exact ⟨0, by omega, rfl, ⟨none, 0, rfl, OwnS.nil _ _ _ _⟩, Below.refl _ _⟩
  case round =>
    obtain ⟨k, hk, rfl, ⟨D, d, rfl, hown⟩, hb⟩ := hrel
    have hlen := skipL_len (l.take k) call
    rw [List.length_take_of_le hk] at hlen
    by_cases hlt : k < l.length
    · obtain ⟨bb, off, rfl, hb1, hld⟩ := Box.ld hA (map_get Box.cells l k hlt)
      have HL := Lib.hid hld
      have hst := skipL_succ l call k hlt
      have HST := Lib.hid hst
      have hbs := hb.size
      clear hld hst
      by_cases h1 : l[k].load = call
      · have hs1 : skipB call l[k] = [] := by unfold skipB; rw [if_pos h1]
        have HS1 := Lib.hid hs1
        have hq : (l[k].load == call) = true := by simpa using h1
        clear hs1 h1
        go_wp2_with (first | (refine wpList_ld rfl 73 _ rfl _ rfl _ (HL.out _ hb) ?_))
        go_roundw
        case rel => exact ⟨k + 1, by omega, by go_num, ⟨D, d, by rw [HST.out, HS1.out, List.append_nil], by rw [HST.out, HS1.out, List.append_nil]; exact hown.alloc _⟩, hb.alloc hb.size _⟩
        case measure => simp [intOf]; omega
      · have hq : (l[k].load == call) = false := by simpa using h1
        by_cases h2 : l[k].dis = call
        · have hs1 : skipB call l[k] = [{ l[k] with dis := call + 1 }] := by unfold skipB; rw [if_neg h1, if_pos h2]
          have HS1 := Lib.hid hs1
          have hq2 : (l[k].dis == call) = true := by simpa using h2
          clear hs1 h1 h2
          go_wp2_with (first
            | (refine wpList_ld rfl 73 _ rfl _ rfl _ (HL.out _ hb) ?_)
            | (at_builtin; go_loud (refine wpList_append_n rfl _ _ rfl Box.ei (skipL (l.take k) call).length (by simp) rfl ((hown.alloc _).alloc _) rfl _ (Rd.newS _ _ 73 9 (Box.cells { l[k] with dis := call + 1 }) rfl) rfl (Box.ones [_]) (by unfold maxLen; simp; omega) (by simp; omega) (by simp; omega) ?_); intro A4 c4 w4 hown4 hg4 hb4))
          go_roundw
          case rel => exact ⟨k + 1, by omega, by go_num, ⟨A4, c4, by rw [HST.out, HS1.out]; simp, by rw [HST.out, HS1.out]; simpa using hown4⟩, ((hb.alloc hb.size _).alloc (by simp; omega) _).trans hb4⟩
          case measure => simp [intOf]; omega
        · have hs1 : skipB call l[k] = [l[k]] := by unfold skipB; rw [if_neg h1, if_neg h2]
          have HS1 := Lib.hid hs1
          have hq2 : (l[k].dis == call) = false := by simpa using h2
          clear hs1 h1 h2
          go_wp2_with (first
            | (refine wpList_ld rfl 73 _ rfl _ rfl _ (HL.out _ hb) ?_)
            | (at_builtin; go_loud (refine wpList_append_n rfl _ _ rfl Box.ei (skipL (l.take k) call).length (by simp) rfl ((hown.alloc _).alloc _) rfl _ (Rd.newS _ _ 73 9 l[k].cells rfl) rfl (Box.ones [_]) (by unfold maxLen; simp; omega) (by simp; omega) (by simp; omega) ?_); intro A4 c4 w4 hown4 hg4 hb4))
          go_roundw
          case rel => exact ⟨k + 1, by omega, by go_num, ⟨A4, c4, by rw [HST.out, HS1.out]; simp, by rw [HST.out, HS1.out]; simpa using hown4⟩, ((hb.alloc hb.size _).alloc (by simp; omega) _).trans hb4⟩
          case measure => simp [intOf]; omega
    · obtain rfl : k = l.length := by omega
      rw [List.take_length] at hown hlen
      have HTL : Hid (l.take l.length = l) := List.take_length
      go_wp2
      go_ret
      exact ⟨D, d, by rw [HTL.out]; rfl, hown, hb⟩

theorem erase_eq (l : List Box) (t : Nat) (ht : t < l.length) : (l.take (t + 1)).eraseIdx t = (l.take t).eraseIdx t := by
  rw [List.take_succ_eq_append_getElem ht, List.eraseIdx_append_of_length_le (by simp; omega), List.eraseIdx_of_length_le (l := l.take t) (by simp; omega)]
  simp [List.length_take_of_le (Nat.le_of_lt ht)]
theorem erase_ne (l : List Box) (t k : Nat) (hk : k < l.length) (h : k ≠ t) : (l.take (k + 1)).eraseIdx t = (l.take k).eraseIdx t ++ [l[k]] := by
  rw [List.take_succ_eq_append_getElem hk]
  rcases Nat.lt_or_ge t k with h1 | h1
  · rw [List.eraseIdx_append_of_lt_length (by simp; omega)]
  · rw [List.eraseIdx_of_length_le (by simp; omega), List.eraseIdx_of_length_le (l := l.take k) (by simp; omega)]
theorem erase_len (l : List Box) (t k : Nat) : ((l.take k).eraseIdx t).length ≤ k := by
  have := List.length_eraseIdx_le (l.take k) t
  simp at this
  omega

set_option maxRecDepth 100000 in
set_option maxHeartbeats 2000000 in
theorem ref_without (A : Option Addr) (c : Nat) (l : List Box) (n : Nat) (hn : n = l.length) (t : Nat) (ht : t < l.length) (w : World) (hA : Rd w w.heap.size 9 A (l.map Box.cells)) (hl : l.length ≤ 1000000) :
    Calls Try.prog 61 #[.slice A n c, .int .i64 t] w fun e w' => ∃ A' c', e = .returned (.slice A' (l.eraseIdx t).length c') ∧ OwnS w' w.heap.size 73 9 A' c' ((l.eraseIdx t).map Box.cells) ∧ Below w.heap.size w w' := by
  subst hn
  go_enter Try.func61, Try.ntmps61
  go_wp2
  go_loopw [5, 6] (fun v i wr => ∃ k : Nat, k ≤ l.length ∧ i = .int .i64 k ∧ (∃ D d, v = .slice D ((l.take k).eraseIdx t).length d ∧ OwnS wr w.heap.size 73 9 D d (((l.take k).eraseIdx t).map Box.cells)) ∧ Below w.heap.size w wr) (fun _ i _ => l.length - (intOf i).toNat)
  case atStart => exact ⟨0, by omega, rfl, ⟨none, 0, rfl, OwnS.nil _ _ _ _⟩, Below.refl _ _⟩
  case round =>
    obtain ⟨k, hk, rfl, ⟨D, d, rfl, hown⟩, hb⟩ := hrel
    have hlen := erase_len l t k
    by_cases hlt : k < l.length
    · by_cases h1 : k = t
      · subst h1
        have HE := Lib.hid (erase_eq l k hlt)
        go_wp2
        go_roundw
        case rel => exact ⟨k + 1, by omega, by go_num, ⟨D, d, by rw [HE.out], by rw [HE.out]; exact hown⟩, hb⟩
        case measure => simp [intOf]; omega
      · have hq : ((k : Int) != (t : Int)) = true := by simp; omega
        have HE := Lib.hid (erase_ne l t k hlt h1)
        obtain ⟨bb, off, rfl, hb1, hld⟩ := Box.ld hA (map_get Box.cells l k hlt)
        have HL := Lib.hid hld
        have hbs := hb.size
        obtain ⟨E, hE⟩ : ∃ E, E = (l.take k).eraseIdx t := ⟨_, rfl⟩
        rw [← hE] at hown hlen HE ⊢
        clear hld h1 hE
        go_wp2_with (first
            | (refine wpList_ld rfl 73 _ rfl _ rfl _ (HL.out _ hb) ?_)
            | (at_builtin; go_loud (refine wpList_append_n rfl _ _ rfl Box.ei E.length (by simp) rfl (hown.alloc _) rfl _ (Rd.new2 _ 73 9 l[k].cells rfl) rfl (Box.ones [_]) (by unfold maxLen; simp; omega) (by simp; omega) (by simp; omega) ?_); intro A4 c4 w4 hown4 hg4 hb4))
        go_roundw
        case rel => exact ⟨k + 1, by omega, by go_num, ⟨A4, c4, by rw [HE.out]; simp, by rw [HE.out]; simpa using hown4⟩, (hb.alloc hb.size _).trans hb4⟩
        case measure => simp [intOf]; omega
    · obtain rfl : k = l.length := by omega
      rw [List.take_length] at hown hlen
      have HTL : Hid (l.take l.length = l) := List.take_length
      go_wp2
      go_ret
      exact ⟨D, d, by rw [HTL.out]; rfl, hown, hb⟩

theorem flat_set {size : Nat} (css : List (List Value)) (hl : ∀ cs ∈ css, cs.length = size) (t : Nat) (ht : t < css.length) (cs : List Value) (hcs : cs.length = size) (cur : List Value) (h : cur.take (css.length * size) = css.flatten) :
    (cur.take (t * size) ++ cs ++ cur.drop (t * size + size)).take (css.length * size) = (css.set t cs).flatten := by
  obtain ⟨X, hX⟩ : ∃ X, X = (css.take t).flatten := ⟨_, rfl⟩
  obtain ⟨Z, hZ⟩ : ∃ Z, Z = (css.drop (t + 1)).flatten := ⟨_, rfl⟩
  have e1 : css.flatten = X ++ css[t] ++ Z := by
    rw [hX, hZ]
    have h9 := congrArg List.flatten (List.take_append_drop t css)
    rw [List.flatten_append, List.drop_eq_getElem_cons ht, List.flatten_cons] at h9
    rw [← h9, List.append_assoc]
  have e2 : (css.set t cs).flatten = X ++ cs ++ Z := by
    rw [hX, hZ, List.set_eq_take_append_cons_drop, if_pos ht]
    simp
  have lX : X.length = t * size := by rw [hX, flat_len _ (fun c hc => hl c (List.mem_of_mem_take hc)), List.length_take_of_le (Nat.le_of_lt ht)]
  have lY : css[t].length = size := hl _ (List.getElem_mem ht)
  have lZ : Z.length = (css.length - (t + 1)) * size := by rw [hZ, flat_len _ (fun c hc => hl c (List.mem_of_mem_drop hc)), List.length_drop]
  have lA : css.length * size = t * size + size + Z.length := by
    rw [lZ, ← Nat.succ_mul, ← Nat.add_mul]
    congr 1
    omega
  have e3 : cur = X ++ css[t] ++ Z ++ cur.drop (css.length * size) := by rw [← e1, ← h, List.take_append_drop]
  rw [e2]
  generalize cur.drop (css.length * size) = R at e3
  subst e3
  rw [lA]
  have a1 : (X ++ css[t] ++ Z ++ R).take (t * size) = X := by rw [← lX]; simp [List.append_assoc]
  have a2 : (X ++ css[t] ++ Z ++ R).drop (t * size + size) = Z ++ R := by
    have : t * size + size = (X ++ css[t]).length := by rw [List.length_append, lX, lY]
    rw [this, List.append_assoc (X ++ css[t])]
    simp
  rw [a1, a2]
  have : t * size + size + Z.length = (X ++ cs ++ Z).length := by simp only [List.length_append, lX, hcs]
  rw [this, ← List.append_assoc (X ++ cs) Z R]
  exact List.take_left' rfl

/-- a store of an element into what the call owns -/
theorem wpList_st_own {P : Program} {w : World} {ops : Array Oper} {rest : List Oper} {o : Oper} {a : Act} {Q : Exit → Act → World → Prop} {T base g size c t : Nat} {css : List (List Value)} {v : Value} {cs : List Value} (hgd : o.guard = none) (x y : Operand) (ho : o.op = .store T x y)
    (hx : a.eval x = .pointer (some ⟨g, t * size, none⟩)) (hy : a.eval y = v) (hi : (P.info? T).map (·.size) = some size) (hv : v.cells.toList = cs) (hn : cs.length = size) (hown : OwnS w base T size (some ⟨g, 0, none⟩) c css) (ht : t < css.length) (h1 : ∀ u ∈ cs, u.oneCell' = true)
    (h : ∀ w', OwnS w' base T size (some ⟨g, 0, none⟩) c (css.set t cs) → w.grownBy w' (some g) → wpList P ops Q rest (a.put o.dst undef) w') : wpList P ops Q (o :: rest) a w := by
  have hl := hown.2
  rcases hown.1.2 with ⟨h0, _⟩ | ⟨g', cap, cur, he, hb, hg, hnc, hcm, hs, htake⟩
  · cases h0
  · simp at he
    obtain ⟨rfl, rfl⟩ := he
    have hfit : t * size + size ≤ cur.size := by
      rw [hs, ← Nat.succ_mul]
      exact Nat.mul_le_mul_right _ (by omega)
    refine wpList_st hgd x y ho hx hy hi hv hn hg hfit h1 fun cur' w' h2 h3 h4 h5 => h w' ⟨⟨?_, .inr ⟨g, c, cur', ?_, hb, h4, ?_, hcm, h3.trans hs, ?_⟩⟩, ?_⟩ h5
    · rw [flat_len _ (size := size) (fun d hd => by
        rcases List.mem_or_eq_of_mem_set hd with h6 | h6
        · exact hl d h6
        · rw [h6]; exact hn)]
    · simp
    · simpa using hnc
    · rw [h2, List.length_set]
      exact flat_set css hl t ht cs hn cur.toList htake
    · intro d hd
      rcases List.mem_or_eq_of_mem_set hd with h6 | h6
      · exact hl d h6
      · rw [h6]; exact hn

theorem OwnS.empty_new (w : World) (base e size : Nat) (hb : base ≤ w.heap.size) : OwnS (w.alloc (.cells #[] e)) base e size (some ⟨w.heap.size, 0, none⟩) 0 [] :=
  ⟨⟨by simp, .inr ⟨w.heap.size, 0, #[], rfl, hb, heap_alloc_new w _, Nat.le_refl _, Nat.zero_le _, by simp, by simp⟩⟩, by simp⟩

def nextAt (l : List Box) (now kind kilos : Int) (t : Nat) (b : Box) : List Box × Int :=
  if (kind < 4 ∧ b.load < now) ∨ (kind = 4 ∧ b.dis < now) then ([], 370)
  else if kind = 3 ∨ (kind = 2 ∧ b.load + 1 = b.dis) then (l.eraseIdx t, 0)
  else if kind = 2 then (l.set t { b with load := b.load + 1 }, 0)
  else if boxB { b with kilos := kilos } then (l.set t { b with kilos := kilos }, 0) else ([], 372)

def nextL (l : List Box) (calls now : Int) (kind call box kilos : Int) : List Box × Int :=
  if kind < 1 ∨ 4 < kind then ([], 371)
  else if kind = 1 then
    if call < 0 ∨ calls - 2 < call then ([], 6) else if call < now then ([], 370) else (skipL l call, 0)
  else
    match l[(idx (fun b : Box => b.id == box) l).toNat]? with
    | some b => if idx (fun b : Box => b.id == box) l < 0 then ([], 6) else nextAt l now kind kilos (idx (fun b : Box => b.id == box) l).toNat b
    | none => ([], 6)

theorem nextL_none {l : List Box} {calls now kind call box kilos : Int} (h1 : 1 < kind) (h4 : kind ≤ 4) (hi : idx (fun b : Box => b.id == box) l = -1) : nextL l calls now kind call box kilos = ([], 6) := by
  unfold nextL
  rw [if_neg (by omega), if_neg (by omega), hi]
  split
  · rw [if_pos (by omega)]
  · rfl
theorem nextL_some {l : List Box} {calls now kind call box kilos : Int} {t : Nat} (h1 : 1 < kind) (h4 : kind ≤ 4) (ht : t < l.length) (hi : idx (fun b : Box => b.id == box) l = t) : nextL l calls now kind call box kilos = nextAt l now kind kilos t l[t] := by
  unfold nextL
  rw [if_neg (by omega), if_neg (by omega), hi]
  simp only [Int.toNat_natCast, List.getElem?_eq_getElem ht]
  rw [if_neg (by omega)]
end Go.Proofs.Ytccjddbcdmgefaa
