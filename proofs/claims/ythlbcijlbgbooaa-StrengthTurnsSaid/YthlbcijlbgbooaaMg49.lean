/-
  twistlocklaw18: StrengthTurns, walked.
-/
import Derived.Test.YthlbcijlbgbooaaMg45
import Derived.Test.YthlbcijlbgbooaaMg47
import Derived.Test.YthlbcijlbgbooaaMg48
import Derived.Deep.Cut
import Derived.RegionTactic
import Derived.BigRegion

namespace Go.Proofs.Ythlbcijlbgbooaa
open Go.RowKit

/-- the frames, the first k of them doubled -/
def dblTo (F : List Frm) (k : Nat) : List Frm := (F.take k).map (putX (fun x => 2 * x)) ++ F.drop k
theorem dblTo_get (F : List Frm) {k : Nat} (h : k < F.length) : (dblTo F k)[k]? = some F[k] := by
  unfold dblTo
  rw [List.getElem?_append_right (by simp; omega)]
  simp [show min k F.length = k by omega, h]
theorem dblTo_len (F : List Frm) (k : Nat) (h : k ≤ F.length) : (dblTo F k).length = F.length := by
  unfold dblTo
  simp
  omega
theorem dblTo_set (F : List Frm) {k : Nat} (h : k < F.length) : (dblTo F k).set k (putX (fun x => 2 * x) F[k]) = dblTo F (k + 1) := by
  unfold dblTo
  rw [List.set_append_right _ _ (by simp; omega), List.take_succ_eq_append_getElem h, List.map_append, List.append_assoc]
  congr 1
  have e : k - ((F.take k).map (putX fun x => 2 * x)).length = 0 := by simp; omega
  rw [e, List.drop_eq_getElem_cons h]
  rfl
theorem dblTo_all (F : List Frm) : dblTo F F.length = dblF F := by
  unfold dblTo dblF
  simp
/-- a box of one row -/
theorem own_box {w : World} {base e size g : Nat} {cs : List Value} (h : w.heap[g]? = some (.cells cs.toArray e (0, 0))) (hl : cs.length = size) (hb : base ≤ g) : OwnS w base e size (some ⟨g, 0, none⟩) 1 [cs] :=
  ⟨⟨by simp [hl], .inr ⟨g, 1, cs.toArray, rfl, hb, h, Nat.le_refl _, by unfold maxLen; omega, by simp [hl], by simp; exact List.take_of_length_le (by omega)⟩⟩, by intro c hc; rw [List.mem_singleton] at hc; subst hc; exact hl⟩
theorem own_row {w : World} {base size c g i T : Nat} {css : List (List Value)} {cs : List Value} (hT : IsRow Try.prog T size) (h : OwnS w base T size (some ⟨g, 0, none⟩) c css) (hi : css[i]? = some cs) {p : Nat} (hp : p = i * size) : ∀ w1, From w w1 → (loadVar T ⟨g, p, none⟩).run Try.prog w1 = .ok (.agg cs.toArray) w1 := by
  intro w1 hb
  subst hp
  obtain ⟨b, off, e, _, hl⟩ := h.rd.ld hT hi
  simp only [Option.some.injEq, Addr.mk.injEq, and_true] at e
  obtain ⟨rfl, rfl⟩ := e
  have h1 := hl w1 hb
  rw [Nat.zero_add] at h1
  exact h1

/-- a store into a box -/
theorem LawSt.box {w0 w w' : World} {base g cf d b : Nat} {D : Option Addr} {F : List Frm} {L : List Wt} (h : LawSt w0 w base g cf D d F L) (h2 : w.grownBy w' (some b)) (_hb : b < w.heap.size) (hg : g < b) (hD : ∀ a, D = some a → a.block < b) : LawSt w0 w' base g cf D d F L := by
  have hb := (h.fr.lt rfl).1
  refine ⟨h.fr.keep fun a ha => h2.block _ (h.fr.lt ha).2 (fun e => ?_), h.wt.keep fun a ha => h2.block _ (h.wt.lt ha).2 (fun e => ?_), h.apart, h.from_.grown h2 h.from_.size (fun q hq => ?_), Nat.le_trans h.base_ h2.size, h.w0b⟩
  · injection ha with ha
    subst ha
    injection e with e
    simp only at e
    omega
  · injection e with e
    have := hD a ha
    omega
  · injection hq with hq
    have := h.w0b
    simp only at hb
    omega

theorem LawSt.under {w0 w w' : World} {base g cf d B : Nat} {D : Option Addr} {F : List Frm} {L : List Wt} (h : LawSt w0 w base g cf D d F L) (hb : Below B w w') (hg : g < B) (hD : ∀ a, D = some a → a.block < B) (hB : w0.heap.size ≤ B) : LawSt w0 w' base g cf D d F L := by
  refine ⟨h.fr.keep fun a ha => ?_, h.wt.keep fun a ha => hb.block _ (hD a ha), h.apart, h.from_.trans (hb.mono hB), Nat.le_trans h.base_ hb.size, h.w0b⟩
  injection ha with ha
  subst ha
  exact hb.block _ hg

theorem ownBlock_slice (A : Option Addr) (n c : Nat) : Value.ownBlock (.slice A n c) = A.map (·.block) := by cases A <;> rfl
theorem wpList_append_o {P : Program} {w : World} {ops : Array Oper} {rest : List Oper} {o : Oper} {a : Act} {Q : Exit → Act → World → Prop} {t e size bytes base c m cn : Nat} {A : Option Addr} {ad : Addr} {css news : List (List Value)} (hgd : o.guard = none) (s x : Operand)
    (ho : o.op = .call { callee := .builtin .append, args := #[s, x], argTypes := #[t, t] })
    (hE : EI P t e size bytes) (n : Nat) (hn : n = css.length) (hs : a.eval s = .slice A n c) (hown : OwnS w base e size A c css) (hx : a.eval x = .slice (some ad) m cn) (B : Nat) (hr : Rd w B size (some ad) news) (hm : m = news.length)
    (h1 : ∀ cs ∈ news, ∀ u ∈ cs, u.oneCell' = true) (h63 : css.length + m ≤ maxLen) (hbytes : (css.length + m) * bytes ≤ 140737488355328) (hbase : base ≤ w.heap.size)
    (h : ∀ A' c' w', OwnS w' base e size A' c' (css ++ news) → w.grownBy w' (A.map (·.block)) → Below base w w' → (A'.map (·.block) = A.map (·.block) ∨ A'.map (·.block) = some w.heap.size) → wpList P ops Q rest (a.put o.dst (.slice A' (n + m) c')) w') : wpList P ops Q (o :: rest) a w := by
  subst hn
  subst hm
  obtain ⟨ht, i, z, hi, hz, hs', hb, hzs, h0⟩ := hE
  have hlen : ∀ cs ∈ css ++ news, cs.length = size := fun cs hc => by
    rcases List.mem_append.1 hc with h | h
    · exact hown.2 cs h
    · exact hr.len cs h
  obtain ⟨v', w', hrun, h2, h3, _, h5⟩ := run_append_own_at (P := P) w base t o.type e i z size bytes ht hi hz hs' hb hzs h0 (.slice A css.length c) css.length css.flatten hown.1 ad news.length cn news.flatten (flat_len news hr.len)
    (fun j u hu => by obtain ⟨ad', h, hc⟩ := hr.flat j u hu; injection h with h; rw [h]; exact hc)
    (fun u hu => by obtain ⟨cs, hcs, hu'⟩ := List.mem_flatten.1 hu; exact h1 cs hcs u hu') h63 hbytes hbase
  obtain ⟨A', c', rfl, h4⟩ := OwnS.of (css := css ++ news) (by rw [List.flatten_append]; exact h2) (by simp) hlen
  rw [ownBlock_slice, ownBlock_slice] at h5
  rw [ownBlock_slice] at h3
  refine wpList_plain hgd fun K hK => ?_
  unfold Oper.wp execOp
  simp only [ho, resolve, invoke, builtin, Sem.run_bind, Sem.run_pure, Result.andThen_ok, List.map_toArray, List.map_cons, List.map_nil, hs, hx, hrun]
  have := h A' c' w' h4 h3 ((Below.refl _ _).grown h3 hbase (fun k hk => by
    cases A with
    | none => cases hk
    | some q => injection hk with hk; subst hk; exact (hown.lt rfl).1)) h5
  rw [List.length_append]
  exact hK _ _ this


/-- the weights, the first k of them at odd places -/
def oddTo (L : List Wt) (k : Nat) : List Wt := (L.take k).map oddW ++ L.drop k
theorem oddTo_get (L : List Wt) {k : Nat} (h : k < L.length) : (oddTo L k)[k]? = some L[k] := by
  unfold oddTo
  rw [List.getElem?_append_right (by simp; omega)]
  simp [show min k L.length = k by omega, h]
theorem oddTo_len (L : List Wt) (k : Nat) (h : k ≤ L.length) : (oddTo L k).length = L.length := by
  unfold oddTo
  simp
  omega
theorem oddTo_set (L : List Wt) {k : Nat} (h : k < L.length) : (oddTo L k).set k (oddW L[k]) = oddTo L (k + 1) := by
  unfold oddTo
  rw [List.set_append_right _ _ (by simp; omega), List.take_succ_eq_append_getElem h, List.map_append, List.append_assoc]
  congr 1
  have e : k - ((L.take k).map oddW).length = 0 := by simp; omega
  rw [e, List.drop_eq_getElem_cons h]
  rfl
theorem set_cellsW {F : List Wt} {i j : Nat} {v : Value} (hi : i < F.length) (h : i < (F.map Wt.cells).length) (f' : Wt) (hf : f'.cells = (F[i].cells).set j v) : (F.map Wt.cells).set i (((F.map Wt.cells)[i]'h).set j v) = (F.set i f').map Wt.cells := by
  rw [List.map_set, hf]
  simp
theorem LawSt.storeW {w0 w w' : World} {base g cf d gd : Nat} {F : List Frm} {L L' : List Wt} (h : LawSt w0 w base g cf (some ⟨gd, 0, none⟩) d F L) (h1 : OwnS w' base 46 2 (some ⟨gd, 0, none⟩) d (L'.map Wt.cells)) (h2 : w.grownBy w' (some gd)) : LawSt w0 w' base g cf (some ⟨gd, 0, none⟩) d F L' := by
  have hg := (h.wt.lt rfl).1
  have hap := h.apart _ rfl
  refine ⟨h.fr.keep fun a ha => h2.block _ (h.fr.lt ha).2 (fun e => ?_), h1, h.apart, h.from_.grown h2 h.from_.size (fun q hq => ?_), Nat.le_trans h.base_ h2.size, h.w0b⟩
  · injection ha with ha
    subst ha
    injection e with e
    exact hap e.symm
  · injection hq with hq
    have := h.w0b
    simp only at hg
    omega

theorem build_stressG (f g : FracV) {a : Act} {s t : Nat} {d : Option Nat} {ty : TypeId} {pos : String} {aft : Array Edge} {gd : Option (Nat × Bool)} (w : World) (hx : a.eval (.tmp s) = f.val) (hy : a.eval (.tmp t) = g.val) :
    (execOp a.eval ⟨d, .build 40 #[(0, .tmp s), (1, .tmp t)], ty, pos, aft, gd⟩).run Try.prog w = .ok (.value (Str.val ⟨f, g⟩)) w :=
  build_stress (d := d) (ty := ty) (pos := pos) (aft := aft) f g w hx hy


set_option maxRecDepth 100000 in
set_option maxHeartbeats 8000000 in
theorem law_Turns (A : Option Addr) (c n : Nat) (l : List Sml) (by_ : Int) (hn : n = l.length) (hok : ∀ x ∈ l, x.ok) (hnc : n ≤ c) (hby : -32768 ≤ by_ ∧ by_ ≤ 32767) (w : World) (h : Rd w w.heap.size 5 A (l.map Sml.cells)) (hl : l.length ≤ 20000000000000) :
    Calls Try.prog 7 #[.slice A n c, .int .i16 by_] w fun e w' => e = .returned (.bool true) ∧ Below w.heap.size w w' := by
  have HMA := Lib.hid (fun (w1 : World) (hb : From w w1) => law_Made A c n l hn hok hnc w1 ((h.below hb (Nat.le_refl _)).more hb.size) hl)
  obtain ⟨t, r0, M, _⟩ := madeF_is hok
  have hwt := made_wts hok
  have hL8 := madeL_len l
  obtain ⟨F, hF⟩ : ∃ F, F = madeF l := ⟨_, rfl⟩
  obtain ⟨L, hL⟩ : ∃ L, L = madeL l := ⟨_, rfl⟩
  obtain ⟨xl, hxl⟩ : ∃ xl, xl = madeW l - 20000 := ⟨_, rfl⟩
  rw [← hF, ← hxl] at M
  rw [← hL] at hL8
  rw [← hL, ← hxl] at hwt
  obtain ⟨m, hm⟩ : ∃ m, m = F.length := ⟨_, rfl⟩
  obtain ⟨q, hq⟩ : ∃ q, q = L.length := ⟨_, rfl⟩
  obtain ⟨nn, hnn⟩ : ∃ nn, nn = F.length - 1 := ⟨_, rfl⟩
  have hlen : F.length = t.length + 3 := by rw [M.eq]; simp
  have hm3 : 3 ≤ m ∧ m ≤ 10 := by have := M.len; omega
  have hMP : ∀ w1, MadePost w1 l = fun e w' => ∃ g c D d, e = .returned (.tuple #[.slice (some ⟨g, 0, none⟩) m c, .slice D q d]) ∧ OwnS w' w1.heap.size 44 5 (some ⟨g, 0, none⟩) c (F.map Frm.cells) ∧
    OwnS w' w1.heap.size 46 2 D d (L.map Wt.cells) ∧ (∀ a, D = some a → a.block ≠ g) ∧ Below w1.heap.size w1 w' := by
    intro w1
    unfold MadePost
    rw [hm, hq, hF, hL]
  have HMP := Lib.hid hMP
  have HM := Lib.hid M
  have HWT := Lib.hid hwt
  have HLN := Lib.hid (And.intro hm (And.intro hq (And.intro hnn (And.intro hm3 hL8))))
  have wN : IntKind.i64.wrap ((m : Int) - 1) = (nn : Int) := by rw [wrap_i64 (by omega) (by omega)]; omega
  clear hMP hn hok hl M hwt hF hL hxl hL8 hlen hm hq hnn hm3 h
  have wB : IntKind.i64.wrap by_ = by_ := wrap_i64 (by omega) (by omega)
  go_enter Try.func7, Try.ntmps7
  go_wp2_with (first
    | (go_at_call 12; refine (law_awake _).mono ?_; rintro e w1 ⟨rfl, hb1⟩; have C1 : Hid (From w w1) := hb1; clear hb1)
    | (go_at_call 14; refine (HMA.out _ C1.out).mono ?_; rw [HMP.out]; rintro e w2 ⟨g, cf, D, d, rfl, hf2, hl2, hap2, hb2⟩; have HST2 : Hid (LawSt w w2 w1.heap.size g cf D d (dblTo F 0) L) := ⟨hf2, hl2, hap2, C1.out.trans (hb2.mono C1.out.size), hb2.size, C1.out.size⟩; clear hf2 hl2 hap2 hb2 HMA HMP))
  have HOW0 : Hid (OwnS w2 w2.heap.size 44 5 none 0 (((F.take 0).map fun f => moveF by_ (putX (fun x => 2 * x) f)).map Frm.cells)) := OwnS.nil _ _ _ _
  have HG2 : Hid (g < w2.heap.size) := (HST2.out.fr.lt rfl).2
  have HB2 : Hid (w1.heap.size ≤ w2.heap.size) := HST2.out.base_
  have HD2 : Hid (∀ a, D = some a → a.block < w2.heap.size) := fun a ha => (HST2.out.wt.lt ha).2
  have HW2 : Hid (w.heap.size ≤ w2.heap.size) := HST2.out.from_.size
  go_loopw [8, 38] (fun bv jv wq => ∃ (k : Nat) (Ao : Option Addr) (co : Nat), k ≤ m ∧ jv = .int .i64 k ∧ bv = .slice Ao k co ∧ LawSt w wq w1.heap.size g cf D d (dblTo F k) L ∧ OwnS wq w2.heap.size 44 5 Ao co (((F.take k).map fun f => moveF by_ (putX (fun x => 2 * x) f)).map Frm.cells) ∧ w2.heap.size ≤ wq.heap.size) (fun _ jv _ => m - (intOf jv).toNat)
  case atStart => exact ⟨0, none, 0, Nat.zero_le _, rfl, rfl, HST2.out, HOW0.out, Nat.le_refl _⟩
  case round =>
    clear HOW0 HST2
    obtain ⟨k, Ao, co, hk, rfl, rfl, hst, how, hsz⟩ := hrel
    have HST := Lib.hid hst
    have HOW := Lib.hid how
    have HSZ := Lib.hid hsz
    clear hst how hsz
    by_cases hkm : k < m
    · have hkF : k < F.length := by have := HLN.out; omega
      have hki : (k : Int) < (m : Int) := by omega
      have hm10 : m ≤ 10 := by have := HLN.out; omega
      have hld : (loadVar 44 ⟨g, k * 5, none⟩).run Try.prog wr = .ok (F[k]).val wr := own_row Frm.row HST.out.fr (i := k) (cs := F[k].cells) (by rw [List.getElem?_map, dblTo_get F hkF]; rfl) rfl wr (Below.refl _ _)
      obtain ⟨f, hf⟩ : ∃ f, f = F[k] := ⟨_, rfl⟩
      have hset := dblTo_set F hkF
      have htk : (F.take (k + 1)).map (fun f => moveF by_ (putX (fun x => 2 * x) f)) = (F.take k).map (fun f => moveF by_ (putX (fun x => 2 * x) f)) ++ [moveF by_ (putX (fun x => 2 * x) f)] := by rw [List.take_succ_eq_append_getElem hkF, List.map_append, hf]; rfl
      have hfx := HM.out.xs F[k] (List.getElem_mem hkF)
      have hxl := HM.out.x
      rw [← hf] at hld hset hfx
      have w1' : IntKind.i64.wrap (2 * f.x) = 2 * f.x := wrap_i64 (by omega) (by omega)
      have w2' : IntKind.i64.wrap (2 * f.x + by_) = 2 * f.x + by_ := wrap_i64 (by omega) (by omega)
      have HLD := Lib.hid hld
      have HSET := Lib.hid hset
      have HTK := Lib.hid htk
      have hkD : k < (dblTo F k).length := by rw [dblTo_len F k (by omega)]; exact hkF
      have HGE : Hid ((dblTo F k)[k] = f) := by
        have h1 := dblTo_get F hkF
        rw [List.getElem?_eq_getElem hkD] at h1
        injection h1 with h1
        rw [hf]
        exact h1
      have HLK : Hid ((((F.take k).map fun f => moveF by_ (putX (fun x => 2 * x) f)).map Frm.cells).length = k) := by unfold Hid; simp; omega
      clear hld hf hset htk hfx hxl
      go_upto_region 10 with (first
        | ((with_reducible refine g_ld 44 ?_); refine wpList_ld rfl _ _ rfl _ rfl _ HLD.out ?_))
      have HBX : Hid ((wr.alloc (.cells #[.int .i64 f.x, .int .i64 f.light, .int .i64 f.share, .int .i64 f.shear, .int .i64 f.bend] 44)).heap[wr.heap.size]? = some (.cells (f.cells).toArray 44 (0, 0))) := heap_alloc_new wr _
      have CFN : Hid (From wr (wr.alloc (.cells #[.int .i64 f.x, .int .i64 f.light, .int .i64 f.share, .int .i64 f.shear, .int .i64 f.bend] 44))) := (Below.refl _ _).alloc (Nat.le_refl _) _
      have HST1 := Lib.hid (HST.out.step CFN.out)
      have HOW1 := Lib.hid (HOW.out.below CFN.out (Nat.le_refl _))
      have HGR : Hid (g < wr.heap.size) := (HST.out.fr.lt rfl).2
      have HRS : Hid (wr.heap.size < (wr.alloc (.cells #[.int .i64 f.x, .int .i64 f.light, .int .i64 f.share, .int .i64 f.shear, .int .i64 f.bend] 44)).heap.size) := (Array.getElem?_eq_some_iff.1 HBX.out).1
      go_upto_region 11 with (first
        | ((with_reducible refine g_st 3 ?_); refine wpList_stO0 (i := k) (v := .int .i64 (2 * f.x)) rfl _ _ rfl rfl rfl (by kernel_rfl) rfl rfl HST1.out.fr (by rw [List.length_map]; exact hkD) (by omega) ?_; intro w5 how5 hgr5; rw [set_cells hkD _ (putX (fun x => 2 * x) f) (by rw [HGE.out]; rfl), HSET.out] at how5))
      have HST5 := Lib.hid (HST1.out.store how5 hgr5)
      have HBX5 := Lib.hid ((hgr5.block _ HRS.out (by intro e; injection e with e; have := HGR.out; omega)).trans HBX.out)
      have HOW5 := Lib.hid (HOW1.out.keep (fun a ha => hgr5.block _ (HOW1.out.lt ha).2 (by intro e; injection e with e; have := (HOW1.out.lt ha).1; have := HG2.out; omega)))
      have HSZ5 : Hid (wr.heap.size < w5.heap.size) := Nat.lt_of_lt_of_le HRS.out hgr5.size
      have HWL : Hid (∀ a, D = some a → a.block < wr.heap.size) := fun a ha => (HST.out.wt.lt ha).2
      have HOL : Hid (∀ a, Ao = some a → a.block < wr.heap.size) := fun a ha => (HOW.out.lt ha).2
      clear how5 hgr5 HST1 HOW1 HBX HST HOW
      have HBO := Lib.hid (own_box (base := wr.heap.size) HBX5.out rfl (Nat.le_refl _))
      have HLB := Lib.hid (own_int HBO.out (i := 0) (j := 0) (cs := f.cells) rfl rfl (p := 0) rfl w5 (Below.refl _ _))
      try simp only [Act.put]
      go_upto_region 12 with (first
        | ((with_reducible refine g_ld 3 ?_); refine wpList_ld rfl _ _ rfl _ rfl _ HLB.out ?_)
        | ((with_reducible refine g_st 3 ?_); refine wpList_stO (size := 5) (i := 0) (j := 0) (v := .int .i64 (2 * f.x + by_)) rfl _ _ rfl rfl rfl (by kernel_rfl) rfl rfl HBO.out (by simp) (by omega) ?_; intro w6 how6 hgr6))
      have HBO6 := Lib.hid how6
      have HST6 : Hid (LawSt w w6 w1.heap.size g cf D d (dblTo F (k + 1)) L) := HST5.out.box hgr6 HSZ5.out HGR.out (fun a ha => HWL.out a ha)
      have HOW6 := Lib.hid (HOW5.out.keep (fun a ha => hgr6.block _ (HOW5.out.lt ha).2 (by intro e; injection e with e; have := HOL.out a ha; omega)))
      have HSZ6 : Hid (wr.heap.size < w6.heap.size) := Nat.lt_of_lt_of_le HSZ5.out hgr6.size
      have HL6 : Hid ((loadVar 44 ⟨wr.heap.size, 0, none⟩).run Try.prog w6 = .ok (moveF by_ (putX (fun x => 2 * x) f)).val w6) := own_row Frm.row HBO6.out (i := 0) (cs := Frm.cells (moveF by_ (putX (fun x => 2 * x) f))) rfl rfl w6 (Below.refl _ _)
      clear how6 hgr6 HBO HST5 HOW5
      try simp only [Act.put]
      go_wp2_with (first
        | ((with_reducible refine g_ld 44 ?_); refine wpList_ld rfl _ _ rfl _ rfl _ HL6.out ?_)
        | (at_builtin; go_loud (refine wpList_append_n rfl _ _ rfl Frm.ei k HLK.out.symm rfl (HOW6.out.alloc _) rfl _ (Rd.new2 w6 44 5 (Frm.cells (moveF by_ (putX (fun x => 2 * x) f))) rfl) rfl (by intro cs hc v hv; rw [List.mem_singleton] at hc; subst hc; exact Frm.one _ v hv) (by rw [HLK.out]; unfold maxLen; omega) (by rw [HLK.out]; omega) (by have h1 := HSZ.out; have h2 := HSZ6.out; simp; omega) ?_); intro A7 c7 w7 how7 hg7 hb7))
      have HOW7 := Lib.hid how7
      have HST7 := Lib.hid ((HST6.out.step ((Below.refl _ _).alloc (Nat.le_refl _) (.cells (Frm.cells (moveF by_ (putX (fun x => 2 * x) f))).toArray 44))).under hb7 HG2.out HD2.out HW2.out)
      have HSZ7 : Hid (w2.heap.size ≤ w7.heap.size) := by
        have h1 := hb7.size
        have h2 := HSZ.out
        have h3 := HSZ6.out
        unfold Hid
        simp at h1
        omega
      clear how7 hg7 hb7
      go_roundw
      case rel =>
        refine ⟨k + 1, A7, c7, by omega, by go_num, rfl, HST7.out, ?_, HSZ7.out⟩
        have h1 := HOW7.out
        rw [HTK.out, List.map_append]
        exact h1
      case measure => simp [intOf]; omega
    · obtain rfl : k = m := by omega
      have hkk : ¬ (k : Int) < (k : Int) := by omega
      obtain ⟨wa, hwa⟩ : ∃ wa, wa = wr := ⟨_, rfl⟩
      subst hwa
      obtain ⟨G, hG⟩ : ∃ G, G = dblF F := ⟨_, rfl⟩
      have hdk : dblTo F k = G := by rw [HLN.out.1, dblTo_all, hG]
      have hmv : (F.take k).map (fun f => moveF by_ (putX (fun x => 2 * x) f)) = G.map (moveF by_) := by
        rw [List.take_of_length_le (by have := HLN.out; omega), hG]
        unfold dblF
        rw [List.map_map]
        rfl
      rw [hdk] at HST
      rw [hmv] at HOW
      have hGl : G.length = k := by rw [hG]; unfold dblF; rw [List.length_map, ← HLN.out.1]
      have hGx : ∀ f ∈ G, -200000 ≤ f.x ∧ f.x ≤ 200000 := by
        intro f hf
        rw [hG] at hf
        obtain ⟨e, he, rfl⟩ := List.mem_map.1 hf
        have h1 := HM.out.xs e he
        have h2 := HM.out.x
        show -200000 ≤ 2 * e.x ∧ 2 * e.x ≤ 200000
        omega
      have HGL := Lib.hid (And.intro hGl (And.intro hG hGx))
      have HOW0 : Hid (OwnS wa wa.heap.size 44 5 none 0 (((mirL G).take 0).map Frm.cells)) := OwnS.nil _ _ _ _
      clear hdk hmv hGl hG hGx
      go_wp2
      go_loopw [9, 64] (fun bv jv wq => ∃ (j : Nat) (Aj : Option Addr) (cj : Nat), j ≤ k ∧ jv = .int .i64 j ∧ bv = .slice Aj j cj ∧ OwnS wq wa.heap.size 44 5 Aj cj (((mirL G).take j).map Frm.cells) ∧ From wa wq) (fun _ jv _ => k - (intOf jv).toNat)
      case atStart => exact ⟨0, none, 0, Nat.zero_le _, rfl, rfl, HOW0.out, Below.refl _ _⟩
      case round =>
        clear HOW0
        obtain ⟨j, Aj, cj, hj, rfl, rfl, how, hb⟩ := hrel
        have HOJ := Lib.hid how
        have HBJ := Lib.hid hb
        clear how hb
        by_cases hjk : j < k
        · have hjki : (j : Int) < (k : Int) := by omega
          obtain ⟨nk, hnk⟩ : ∃ nk, nk + j = nn := ⟨nn - j, by have := HLN.out; omega⟩
          have hnkG : nk < G.length := by have := HLN.out; have := HGL.out.1; omega
          have wK : IntKind.i64.wrap ((nn : Int) - (j : Int)) = (nk : Int) := by have := HLN.out; rw [wrap_i64 (by omega) (by omega)]; omega
          have hnki : (nk : Int) < (k : Int) := by have := HGL.out.1; omega
          obtain ⟨y, hy⟩ : ∃ y, y = G[nk].x := ⟨_, rfl⟩
          have hyb := HGL.out.2.2 G[nk] (List.getElem_mem hnkG)
          rw [← hy] at hyb
          have wY : IntKind.i64.wrap (-y) = -y := wrap_i64 (by omega) (by omega)
          have HLY := Lib.hid (own_int HST.out.fr (i := nk) (j := 0) (cs := G[nk].cells) (v := y) (by rw [List.getElem?_map, List.getElem?_eq_getElem hnkG]; rfl) (by rw [hy]; rfl) (p := nk * 5) rfl wr HBJ.out)
          have HY : Hid (mirF G j = ⟨-y, (mirF G j).light, (mirF G j).share, 0, 0⟩) := by
            unfold Hid
            have e : frmX G (G.length - 1 - j) = y := by
              have e2 : G.length - 1 - j = nk := by have := HLN.out; have := HGL.out.1; omega
              rw [e2, frmX_get hnkG, hy]
            unfold mirF
            rw [e]
          have HNK := Lib.hid (And.intro hnk hnkG)
          have htj : (mirL G).take (j + 1) = (mirL G).take j ++ [mirF G j] := by
            rw [List.take_succ_eq_append_getElem (by rw [mirL_len]; have := HGL.out.1; omega), mirL_getElem]
          have HTJ := Lib.hid htj
          have HLJ : Hid ((((mirL G).take j).map Frm.cells).length = j) := by unfold Hid; rw [List.length_map, List.length_take, mirL_len]; have := HGL.out.1; omega
          clear hy hyb hnk hnkG htj
          by_cases hjn : j < nn
          · have hjni : (j : Int) < (nn : Int) := by omega
            obtain ⟨n1, hn1⟩ : ∃ n1, n1 + 1 = nn := ⟨nn - 1, by omega⟩
            obtain ⟨p1, hp1⟩ : ∃ p1, p1 + j = n1 := ⟨n1 - j, by omega⟩
            have hpG : p1 < G.length := by have := HNK.out; omega
            have hpk : (p1 : Int) < (k : Int) := by have := HGL.out.1; omega
            have v1 : IntKind.i64.wrap ((nn : Int) - 1) = (n1 : Int) := by have := HLN.out; rw [wrap_i64 (by omega) (by omega)]; omega
            have v2 : IntKind.i64.wrap ((n1 : Int) - (j : Int)) = (p1 : Int) := by have := HLN.out; rw [wrap_i64 (by omega) (by omega)]; omega
            obtain ⟨fp, hfp⟩ : ∃ fp, fp = G[p1] := ⟨_, rfl⟩
            have hmf : mirF G j = ⟨-y, fp.light, fp.share, 0, 0⟩ := by
              rw [HY.out]
              have e1 : G.length - 2 - j = p1 := by have := HGL.out.1; have := HLN.out; omega
              have e2 : G.getD p1 frm0 = fp := by rw [List.getD_eq_getElem?_getD, List.getElem?_eq_getElem hpG, hfp]; rfl
              have e3 : j < G.length - 1 := by have := HGL.out.1; have := HLN.out; omega
              unfold mirF
              simp only [if_pos e3, e1, e2]
            have HMF := Lib.hid hmf
            have hboth : (wr.alloc (.cells #[.int .i64 (-y), .int .i64 0, .int .i64 0, .int .i64 0, .int .i64 0] 44)).cell? ⟨g, p1 * 5 + 1, none⟩ = some (.int .i64 fp.light) ∧ (wr.alloc (.cells #[.int .i64 (-y), .int .i64 0, .int .i64 0, .int .i64 0, .int .i64 0] 44)).cell? ⟨g, p1 * 5 + 2, none⟩ = some (.int .i64 fp.share) := by
              obtain ⟨gq, oq, eq, hgq, hcell⟩ := Frm.at_ ((HST.out.fr.rd.below HBJ.out (Nat.le_refl _)).more HBJ.out.size) p1 hpG
              simp only [Option.some.injEq, Addr.mk.injEq, and_true] at eq
              obtain ⟨rfl, rfl⟩ := eq
              have hcell := hcell _ (((Below.refl wr.heap.size wr).alloc (Nat.le_refl _) (.cells #[.int .i64 (-y), .int .i64 0, .int .i64 0, .int .i64 0, .int .i64 0] 44)))
              rw [← hfp, Nat.zero_add] at hcell
              exact ⟨hcell.2.1, hcell.2.2.1⟩
            obtain ⟨hcl, hcs⟩ := hboth
            have hgq : g < wr.heap.size := by have h1 := (HST.out.fr.lt rfl).2; have h2 := HBJ.out.size; simp only at h1; omega
            have hbk : (wr.alloc (.cells #[.int .i64 (-y), .int .i64 0, .int .i64 0, .int .i64 0, .int .i64 0] 44)).heap[wr.heap.size]? = some (.cells #[.int .i64 (-y), .int .i64 0, .int .i64 0, .int .i64 0, .int .i64 0] 44 (0, 0)) := heap_alloc_new wr _
            have hb1 : (wr.alloc (.cells #[.int .i64 (-y), .int .i64 0, .int .i64 0, .int .i64 0, .int .i64 0] 44)).cell? ⟨wr.heap.size, 1, none⟩ = some (.int .i64 0) := by rw [cell_of_row _ _ 1 _ _ _ hbk]; rfl
            have hb2 : (wr.alloc (.cells #[.int .i64 (-y), .int .i64 0, .int .i64 0, .int .i64 0, .int .i64 0] 44)).cell? ⟨wr.heap.size, 2, none⟩ = some (.int .i64 0) := by rw [cell_of_row _ _ 2 _ _ _ hbk]; rfl
            have hz1 : (wr.alloc (.cells #[.int .i64 (-y), .int .i64 0, .int .i64 0, .int .i64 0, .int .i64 0] 44)).frozen? ⟨wr.heap.size, 1, none⟩ = false := by unfold World.frozen?; rw [hbk]; rfl
            have hz2 : (wr.alloc (.cells #[.int .i64 (-y), .int .i64 0, .int .i64 0, .int .i64 0, .int .i64 0] 44)).frozen? ⟨wr.heap.size, 2, none⟩ = false := by unfold World.frozen?; rw [hbk]; rfl
            have hgw : g ≠ wr.heap.size := by omega
            have hgw' : ¬ wr.heap.size = g := by omega
            have HBK := Lib.hid hbk
            have HW0 : Hid (From wr (wr.alloc (.cells #[.int .i64 (-y), .int .i64 0, .int .i64 0, .int .i64 0, .int .i64 0] 44))) := (Below.refl _ _).alloc (Nat.le_refl _) _
            clear hfp hmf hgq hbk hn1 hp1 hpG
            go_upto_region 19 with (first
              | ((with_reducible refine g_ld 3 ?_); refine wpList_ld rfl _ _ rfl _ rfl _ HLY.out ?_))
            generalize wr.alloc (.cells #[.int .i64 (-y), .int .i64 0, .int .i64 0, .int .i64 0, .int .i64 0] 44) = wv at hcl hcs hb1 hb2 hz1 hz2 HBK HW0 ⊢
            go_region
            have hq1 := heap_setCell_same wv wr.heap.size 1 _ _ (.int .i64 fp.light) HBK.out
            have hq2 := heap_setCell_same _ wr.heap.size 2 _ _ (.int .i64 fp.share) hq1
            have HWZ0 := Lib.hid ((HW0.out.setCell (p := ⟨wr.heap.size, 1, none⟩) (Nat.le_refl _) (.int .i64 fp.light)).setCell (p := ⟨wr.heap.size, 2, none⟩) (Nat.le_refl _) (.int .i64 fp.share)).drew
            obtain ⟨wz, hwz⟩ : ∃ wz, wz = ((wv.setCell ⟨wr.heap.size, 1, none⟩ (.int .i64 fp.light)).setCell ⟨wr.heap.size, 2, none⟩ (.int .i64 fp.share)).drew := ⟨_, rfl⟩
            have HWZ : Hid (From wr wz) := by rw [hwz]; exact HWZ0.out
            have HBO : Hid (OwnS wz wr.heap.size 44 5 (some ⟨wr.heap.size, 0, none⟩) 1 [Frm.cells (mirF G j)]) := by
              refine own_box ?_ rfl (Nat.le_refl _)
              rw [hwz, HMF.out]
              exact hq2
            rw [← hwz]
            clear hq1 hq2 HWZ0 hwz HBK HW0 hcl hcs hb1 hb2 hz1 hz2
            have HLR : Hid ((loadVar 44 ⟨wr.heap.size, 0, none⟩).run Try.prog wz = .ok (mirF G j).val wz) := own_row Frm.row HBO.out (i := 0) (cs := Frm.cells (mirF G j)) rfl rfl wz (Below.refl _ _)
            have HOZ := Lib.hid (HOJ.out.below HWZ.out (Nat.le_refl _))
            have HCZ : Hid (From wa wz) := HBJ.out.trans (HWZ.out.mono HBJ.out.size)
            have hj10 : j ≤ 10 := by have := HLN.out; have := HGL.out.1; omega
            clear HBO
            go_wp2_with (first
              | ((with_reducible refine g_ld 44 ?_); refine wpList_ld rfl _ _ rfl _ rfl _ HLR.out ?_)
              | (at_builtin; go_loud (refine wpList_append_n rfl _ _ rfl Frm.ei j HLJ.out.symm rfl (HOZ.out.alloc _) rfl _ (Rd.new2 wz 44 5 (Frm.cells (mirF G j)) rfl) rfl (by intro cs hc v hv; rw [List.mem_singleton] at hc; subst hc; exact Frm.one _ v hv) (by rw [HLJ.out]; unfold maxLen; omega) (by rw [HLJ.out]; omega) (by have h1 := HCZ.out.size; simp; omega) ?_); intro A7 c7 w7 how7 hg7 hb7))
            have HOW7 := Lib.hid how7
            have C7 : Hid (From wa w7) := (HCZ.out.alloc HCZ.out.size _).trans hb7
            clear how7 hg7 hb7
            go_roundw
            case rel =>
              refine ⟨j + 1, A7, c7, by omega, by go_num, rfl, ?_, C7.out⟩
              have h1 := HOW7.out
              rw [HTJ.out, List.map_append]
              exact h1
            case measure => simp [intOf]; omega
          · have hjni : ¬ (j : Int) < (nn : Int) := by omega
            go_upto_region 20 with (first
              | ((with_reducible refine g_ld 3 ?_); refine wpList_ld rfl _ _ rfl _ rfl _ HLY.out ?_))
            have HWZ : Hid (From wr (wr.alloc (.cells #[.int .i64 (-y), .int .i64 0, .int .i64 0, .int .i64 0, .int .i64 0] 44))) := (Below.refl _ _).alloc (Nat.le_refl _) _
            have HBO0 : Hid ((wr.alloc (.cells #[.int .i64 (-y), .int .i64 0, .int .i64 0, .int .i64 0, .int .i64 0] 44)).heap[wr.heap.size]? = some (.cells #[.int .i64 (-y), .int .i64 0, .int .i64 0, .int .i64 0, .int .i64 0] 44 (0, 0))) := heap_alloc_new wr _
            generalize (wr.alloc (.cells #[.int .i64 (-y), .int .i64 0, .int .i64 0, .int .i64 0, .int .i64 0] 44)) = wz at HWZ HBO0 ⊢
            have HBO : Hid (OwnS wz wr.heap.size 44 5 (some ⟨wr.heap.size, 0, none⟩) 1 [Frm.cells (mirF G j)]) := by
              refine own_box ?_ rfl (Nat.le_refl _)
              rw [HY.out]
              have e3 : ¬ j < G.length - 1 := by have := HGL.out.1; have := HLN.out; omega
              unfold mirF
              simp only [if_neg e3]
              exact HBO0.out
            clear HBO0
            have HLR : Hid ((loadVar 44 ⟨wr.heap.size, 0, none⟩).run Try.prog wz = .ok (mirF G j).val wz) := own_row Frm.row HBO.out (i := 0) (cs := Frm.cells (mirF G j)) rfl rfl wz (Below.refl _ _)
            have HOZ := Lib.hid (HOJ.out.below HWZ.out (Nat.le_refl _))
            have HCZ : Hid (From wa wz) := HBJ.out.trans (HWZ.out.mono HBJ.out.size)
            have hj10 : j ≤ 10 := by have := HLN.out; have := HGL.out.1; omega
            clear HBO
            go_wp2_with (first
              | ((with_reducible refine g_ld 44 ?_); refine wpList_ld rfl _ _ rfl _ rfl _ HLR.out ?_)
              | (at_builtin; go_loud (refine wpList_append_n rfl _ _ rfl Frm.ei j HLJ.out.symm rfl (HOZ.out.alloc _) rfl _ (Rd.new2 wz 44 5 (Frm.cells (mirF G j)) rfl) rfl (by intro cs hc v hv; rw [List.mem_singleton] at hc; subst hc; exact Frm.one _ v hv) (by rw [HLJ.out]; unfold maxLen; omega) (by rw [HLJ.out]; omega) (by have h1 := HCZ.out.size; simp; omega) ?_); intro A7 c7 w7 how7 hg7 hb7))
            have HOW7 := Lib.hid how7
            have C7 : Hid (From wa w7) := (HCZ.out.alloc HCZ.out.size _).trans hb7
            clear how7 hg7 hb7
            go_roundw
            case rel =>
              refine ⟨j + 1, A7, c7, by omega, by go_num, rfl, ?_, C7.out⟩
              have h1 := HOW7.out
              rw [HTJ.out, List.map_append]
              exact h1
            case measure => simp [intOf]; omega
        · obtain rfl : j = k := by omega
          have hjj : ¬ (j : Int) < (j : Int) := by omega
          have HST3 := Lib.hid (HST.out.step HBJ.out)
          have HMV := Lib.hid (HOW.out.below HBJ.out (Nat.le_refl _))
          have hmj : (mirL G).take j = mirL G := List.take_of_length_le (by rw [mirL_len, HGL.out.1]; exact Nat.le_refl _)
          have HTN : Hid (OwnS wr wa.heap.size 44 5 Aj cj ((mirL G).map Frm.cells)) := by
            have h1 := HOJ.out
            rw [hmj] at h1
            exact h1
          have HSB : Hid (w2.heap.size ≤ wa.heap.size ∧ wa.heap.size ≤ wr.heap.size) := ⟨HSZ.out, HBJ.out.size⟩
          obtain ⟨wb, hwb⟩ : ∃ wb, wb = wr := ⟨_, rfl⟩
          subst hwb
          have HMB : Hid (∀ a, Ao = some a → a.block < wb.heap.size) := fun a ha => (HMV.out.lt ha).2
          have HTB : Hid (∀ a, Aj = some a → a.block < wb.heap.size) := fun a ha => (HTN.out.lt ha).2
          have HGB : Hid (g < wb.heap.size ∧ ∀ a, D = some a → a.block < wb.heap.size) := by
            have h1 := HG2.out
            have h2 := HSB.out
            exact ⟨by omega, fun a ha => by have := HD2.out a ha; omega⟩
          have HWB : Hid (w.heap.size ≤ wb.heap.size) := by have h1 := HW2.out; have h2 := HSB.out; unfold Hid; omega
          have HI1 : Hid (OwnS wb wb.heap.size 46 2 none 0 (((L.take 0).map fun u => moveW by_ (oddW u)).map Wt.cells)) := OwnS.nil _ _ _ _
          have HI2 : Hid (OwnS wb wb.heap.size 46 2 none 0 (((L.take 0).map fun u => mirW (oddW u)).map Wt.cells)) := OwnS.nil _ _ _ _
          have HL0 : Hid (LawSt w wb w1.heap.size g cf D d G (oddTo L 0)) := by
            have e : oddTo L 0 = L := by unfold oddTo; simp
            unfold Hid
            rw [e]
            exact HST3.out
          clear HST HOW HOJ HBJ HSZ HST3 hmj
          go_wp2
          go_loopw [10, 11, 104] (fun tv av jv wq => ∃ (i : Nat) (A1 : Option Addr) (c1 : Nat) (A2 : Option Addr) (c2 : Nat), i ≤ q ∧ jv = .int .i64 i ∧ tv = .slice A1 i c1 ∧ av = .slice A2 i c2 ∧ LawSt w wq w1.heap.size g cf D d G (oddTo L i) ∧ OwnS wq w2.heap.size 44 5 Ao co ((G.map (moveF by_)).map Frm.cells) ∧ OwnS wq wa.heap.size 44 5 Aj cj ((mirL G).map Frm.cells) ∧
            OwnS wq wb.heap.size 46 2 A1 c1 (((L.take i).map fun u => moveW by_ (oddW u)).map Wt.cells) ∧ OwnS wq wb.heap.size 46 2 A2 c2 (((L.take i).map fun u => mirW (oddW u)).map Wt.cells) ∧ (∀ b, A1.map (·.block) = some b → A2.map (·.block) = some b → False) ∧ wb.heap.size ≤ wq.heap.size) (fun _ _ jv _ => q - (intOf jv).toNat)
          case atStart => exact ⟨0, none, 0, none, 0, Nat.zero_le _, rfl, rfl, rfl, HL0.out, HMV.out, HTN.out, HI1.out, HI2.out, (fun b hb => by cases hb), Nat.le_refl _⟩
          case round =>
            clear HI1 HI2 HL0 HMV HTN
            obtain ⟨i, A1, c1, A2, c2, hi, rfl, rfl, rfl, hst, hmv, htn, how1, how2, hap, hsz⟩ := hrel
            have HST := Lib.hid hst
            have HMV := Lib.hid hmv
            have HTN := Lib.hid htn
            have HO1 := Lib.hid how1
            have HO2 := Lib.hid how2
            have HAP := Lib.hid hap
            have HSZ := Lib.hid hsz
            clear hst hmv htn how1 how2 hap hsz
            by_cases hiq : i < q
            · have hiL : i < L.length := by have := HLN.out; omega
              have hiqi : (i : Int) < (q : Int) := by omega
              have hi8 : i ≤ 8 := by have := HLN.out; omega
              obtain ⟨gd, hgd⟩ := HST.out.wt.some (by intro e; have h1 : ((oddTo L i).map Wt.cells).length = 0 := (by rw [e]; rfl); rw [List.length_map, oddTo_len L i (by omega)] at h1; omega)
              subst hgd
              have hld : (loadVar 46 ⟨gd, i * 2, none⟩).run Try.prog wr = .ok (L[i]).val wr := own_row Wt.row HST.out.wt (i := i) (cs := L[i].cells) (by rw [List.getElem?_map, oddTo_get L hiL]; rfl) rfl wr (Below.refl _ _)
              obtain ⟨u, hu⟩ : ∃ u, u = L[i] := ⟨_, rfl⟩
              have hset := oddTo_set L hiL
              have hti : (L.take (i + 1)) = L.take i ++ [u] := by rw [List.take_succ_eq_append_getElem hiL, hu]
              have hub := HWT.out L[i] (List.getElem_mem hiL)
              have hxl := HM.out.x
              rw [← hu] at hld hset hub
              have v1 : IntKind.i64.wrap (2 * u.x) = 2 * u.x := wrap_i64 (by omega) (by omega)
              have v2 : IntKind.i64.wrap (2 * u.x + 1) = 2 * u.x + 1 := wrap_i64 (by omega) (by omega)
              have v3 : IntKind.i64.wrap (2 * u.x + 1 + by_) = 2 * u.x + 1 + by_ := wrap_i64 (by omega) (by omega)
              have v4 : IntKind.i64.wrap (-2 * u.x) = -2 * u.x := wrap_i64 (by omega) (by omega)
              have v5 : IntKind.i64.wrap (-2 * u.x - 1) = -(2 * u.x + 1) := by rw [wrap_i64 (by omega) (by omega)]; omega
              have HLD := Lib.hid hld
              have HSET := Lib.hid hset
              have HTI := Lib.hid hti
              have hiD : i < (oddTo L i).length := by rw [oddTo_len L i (by omega)]; exact hiL
              have HGE : Hid ((oddTo L i)[i] = u) := by
                have h1 := oddTo_get L hiL
                rw [List.getElem?_eq_getElem hiD] at h1
                injection h1 with h1
                rw [hu]
                exact h1
              have HLI : Hid (∀ f : Wt → Wt, (((L.take i).map f).map Wt.cells).length = i) := fun f => by rw [List.length_map, List.length_map, List.length_take]; omega
              clear hld hu hset hti hub hxl
              go_upto_region 25 with (first
                | ((with_reducible refine g_ld 46 ?_); refine wpList_ld rfl _ _ rfl _ rfl _ HLD.out ?_))
              have HBX : Hid ((wr.alloc (.cells #[.int .i64 u.x, .int .i64 u.kilos] 46)).heap[wr.heap.size]? = some (.cells (u.cells).toArray 46 (0, 0))) := heap_alloc_new wr _
              have CFN : Hid (From wr (wr.alloc (.cells #[.int .i64 u.x, .int .i64 u.kilos] 46))) := (Below.refl _ _).alloc (Nat.le_refl _) _
              have HST4 := Lib.hid (HST.out.step CFN.out)
              have HMV4 := Lib.hid (HMV.out.below CFN.out (Nat.le_refl _))
              have HTN4 := Lib.hid (HTN.out.below CFN.out (Nat.le_refl _))
              have HO14 := Lib.hid (HO1.out.below CFN.out (Nat.le_refl _))
              have HO24 := Lib.hid (HO2.out.below CFN.out (Nat.le_refl _))
              have HRS : Hid (wr.heap.size < (wr.alloc (.cells #[.int .i64 u.x, .int .i64 u.kilos] 46)).heap.size) := (Array.getElem?_eq_some_iff.1 HBX.out).1
              have HGD : Hid (gd < wb.heap.size ∧ gd < w2.heap.size) := ⟨HGB.out.2 _ rfl, HD2.out _ rfl⟩
              go_upto_region 26 with (first
                | ((with_reducible refine g_st 3 ?_); refine wpList_stO0 (i := i) (v := .int .i64 (2 * u.x + 1)) rfl _ _ rfl rfl rfl (by kernel_rfl) rfl rfl HST4.out.wt (by rw [List.length_map]; exact hiD) (by omega) ?_; intro w5 how5 hgr5; rw [set_cellsW hiD _ (oddW u) (by rw [HGE.out]; rfl), HSET.out] at how5))
              have hgw : gd < wr.heap.size := by have h1 := HGD.out.1; have h2 := HSZ.out; omega
              have HST5 := Lib.hid (HST4.out.storeW how5 hgr5)
              have HBX5 := Lib.hid ((hgr5.block _ HRS.out (by intro e; injection e with e; omega)).trans HBX.out)
              have HMV5 := Lib.hid (HMV4.out.keep (fun a ha => hgr5.block _ (HMV4.out.lt ha).2 (by intro e; injection e with e; have h1 := (HMV4.out.lt ha).1; have h2 := HGD.out.2; omega)))
              have HTN5 := Lib.hid (HTN4.out.keep (fun a ha => hgr5.block _ (HTN4.out.lt ha).2 (by intro e; injection e with e; have h1 := (HTN4.out.lt ha).1; have h2 := HGD.out.2; have h3 := HSB.out; omega)))
              have HO15 := Lib.hid (HO14.out.keep (fun a ha => hgr5.block _ (HO14.out.lt ha).2 (by intro e; injection e with e; have h1 := (HO14.out.lt ha).1; have h2 := HGD.out.1; omega)))
              have HO25 := Lib.hid (HO24.out.keep (fun a ha => hgr5.block _ (HO24.out.lt ha).2 (by intro e; injection e with e; have h1 := (HO24.out.lt ha).1; have h2 := HGD.out.1; omega)))
              have HS5 : Hid (wr.heap.size < w5.heap.size) := Nat.lt_of_lt_of_le HRS.out hgr5.size
              have HL1 : Hid (∀ b, A1.map (·.block) = some b → b < wr.heap.size) := by
                intro b hb
                obtain ⟨a, ha, rfl⟩ := Option.map_eq_some_iff.1 hb
                exact (HO1.out.lt ha).2
              have HL2 : Hid (∀ b, A2.map (·.block) = some b → b < wr.heap.size) := by
                intro b hb
                obtain ⟨a, ha, rfl⟩ := Option.map_eq_some_iff.1 hb
                exact (HO2.out.lt ha).2
              clear how5 hgr5 HST4 HMV4 HTN4 HO14 HO24 HST HMV HTN HO1 HO2 HBX hgw
              have HBO := Lib.hid (own_box (base := wr.heap.size) HBX5.out rfl (Nat.le_refl _))
              have HLX := Lib.hid (own_int HBO.out (i := 0) (j := 0) (cs := u.cells) rfl rfl (p := 0) rfl w5 (Below.refl _ _))
              have HLK := Lib.hid (own_int HBO.out (i := 0) (j := 1) (cs := u.cells) rfl rfl (p := 1) rfl w5 (Below.refl _ _))
              try simp only [Act.put]
              go_upto_region 27 with (first
                | ((with_reducible refine g_ld 3 ?_); refine wpList_ld rfl _ _ rfl _ rfl _ HLX.out ?_)
                | ((with_reducible refine g_ld 3 ?_); refine wpList_ld rfl _ _ rfl _ rfl _ HLK.out ?_)
                | (at_builtin; go_loud (refine wpList_append_o rfl _ _ rfl Wt.ei i (HLI.out _).symm rfl (HO15.out.alloc _) rfl _ (Rd.new2 w5 46 2 (Wt.cells (moveW by_ (oddW u))) rfl) rfl (by intro cs hc v hv; rw [List.mem_singleton] at hc; subst hc; exact Wt.one _ v hv) (by rw [HLI.out]; unfold maxLen; omega) (by rw [HLI.out]; omega) (by have h1 := HS5.out; have h2 := HSZ.out; simp; omega) ?_); intro A7 c7 w7 how7 hg7 hb7 ho7))
              have hs5 : (w5.alloc (.cells #[.int .i64 (2 * u.x + 1 + by_), .int .i64 u.kilos] 46)).heap.size = w5.heap.size + 1 := by simp
              have HC5 : Hid (From w5 (w5.alloc (.cells (Wt.cells (moveW by_ (oddW u))).toArray 46))) := (Below.refl _ _).alloc (Nat.le_refl _) _
              have HST7 := Lib.hid ((HST5.out.step HC5.out).under hb7 HGB.out.1 HGB.out.2 HWB.out)
              have HMV7 := Lib.hid ((HMV5.out.below HC5.out (Nat.le_refl _)).keep (fun a ha => hb7.block _ (HMB.out a ha)))
              have HTN7 := Lib.hid ((HTN5.out.below HC5.out (Nat.le_refl _)).keep (fun a ha => hb7.block _ (HTB.out a ha)))
              have HO17 := Lib.hid how7
              have HO27 := Lib.hid ((HO25.out.below HC5.out (Nat.le_refl _)).keep (fun a ha => hg7.block _ (by have h1 := (HO25.out.lt ha).2; rw [hs5]; omega) (fun e => HAP.out a.block e.symm (by rw [ha]; rfl))))
              have HBX7 := Lib.hid ((hg7.block wr.heap.size (by have h1 := HS5.out; rw [hs5]; omega) (fun e => by have h1 := HL1.out _ e.symm; omega)).trans ((HC5.out.block wr.heap.size HS5.out).trans HBX5.out))
              have HAP7 : Hid (∀ b, A7.map (·.block) = some b → A2.map (·.block) = some b → False) := by
                intro b hb hb'
                rcases ho7 with h1 | h1
                · exact HAP.out b (h1.symm.trans hb) hb'
                · rw [h1] at hb
                  injection hb with hb
                  have h2 := HL2.out b hb'
                  have h3 := HS5.out
                  rw [hs5] at hb
                  omega
              have HS7 : Hid (w5.heap.size + 1 ≤ w7.heap.size) := by have h1 := hg7.size; rw [hs5] at h1; exact h1
              clear how7 hg7 hb7 ho7 hs5 HC5 HST5 HMV5 HTN5 HO15 HO25 HBX5 HBO HLX HLK HAP
              have HBO := Lib.hid (own_box (base := wr.heap.size) HBX7.out rfl (Nat.le_refl _))
              have HLX := Lib.hid (own_int HBO.out (i := 0) (j := 0) (cs := u.cells) rfl rfl (p := 0) rfl w7 (Below.refl _ _))
              have HLK := Lib.hid (own_int HBO.out (i := 0) (j := 1) (cs := u.cells) rfl rfl (p := 1) rfl w7 (Below.refl _ _))
              try simp only [Act.put]
              go_wp2_with (first
                | ((with_reducible refine g_ld 3 ?_); refine wpList_ld rfl _ _ rfl _ rfl _ HLX.out ?_)
                | ((with_reducible refine g_ld 3 ?_); refine wpList_ld rfl _ _ rfl _ rfl _ HLK.out ?_)
                | (at_builtin; go_loud (refine wpList_append_o rfl _ _ rfl Wt.ei i (HLI.out _).symm rfl (HO27.out.alloc _) rfl _ (Rd.new2 w7 46 2 (Wt.cells (mirW (oddW u))) rfl) rfl (by intro cs hc v hv; rw [List.mem_singleton] at hc; subst hc; exact Wt.one _ v hv) (by rw [HLI.out]; unfold maxLen; omega) (by rw [HLI.out]; omega) (by have h1 := HS5.out; have h2 := HSZ.out; have h3 := HS7.out; simp; omega) ?_); intro A8 c8 w8 how8 hg8 hb8 ho8))
              have hs7 : (w7.alloc (.cells #[.int .i64 (-(2 * u.x + 1)), .int .i64 u.kilos] 46)).heap.size = w7.heap.size + 1 := by simp
              have HC7 : Hid (From w7 (w7.alloc (.cells (Wt.cells (mirW (oddW u))).toArray 46))) := (Below.refl _ _).alloc (Nat.le_refl _) _
              have HST8 := Lib.hid ((HST7.out.step HC7.out).under hb8 HGB.out.1 HGB.out.2 HWB.out)
              have HMV8 := Lib.hid ((HMV7.out.below HC7.out (Nat.le_refl _)).keep (fun a ha => hb8.block _ (HMB.out a ha)))
              have HTN8 := Lib.hid ((HTN7.out.below HC7.out (Nat.le_refl _)).keep (fun a ha => hb8.block _ (HTB.out a ha)))
              have HO28 := Lib.hid how8
              have HL7 : Hid (∀ b, A7.map (·.block) = some b → b < w7.heap.size) := by
                intro b hb
                obtain ⟨a, ha, rfl⟩ := Option.map_eq_some_iff.1 hb
                exact (HO17.out.lt ha).2
              have HO18 := Lib.hid ((HO17.out.below HC7.out (Nat.le_refl _)).keep (fun a ha => hg8.block _ (by have h1 := (HO17.out.lt ha).2; rw [hs7]; omega) (fun e => HAP7.out a.block (by rw [ha]; rfl) e.symm)))
              have HAP8 : Hid (∀ b, A7.map (·.block) = some b → A8.map (·.block) = some b → False) := by
                intro b hb hb'
                rcases ho8 with h1 | h1
                · exact HAP7.out b hb (h1.symm.trans hb')
                · rw [h1] at hb'
                  injection hb' with hb'
                  have h2 := HL7.out b hb
                  rw [hs7] at hb'
                  omega
              have HS8 : Hid (wb.heap.size ≤ w8.heap.size) := by
                have h1 := hg8.size
                rw [hs7] at h1
                have h2 := HS7.out
                have h3 := HS5.out
                have h4 := HSZ.out
                unfold Hid
                omega
              clear how8 hg8 hb8 ho8 hs7
              go_roundw
              case rel =>
                refine ⟨i + 1, A7, c7, A8, c8, by omega, by go_num, rfl, rfl, HST8.out, HMV8.out, HTN8.out, ?_, ?_, HAP8.out, HS8.out⟩
                · have h1 := HO18.out
                  rw [HTI.out, List.map_append, List.map_append]
                  exact h1
                · have h1 := HO28.out
                  rw [HTI.out, List.map_append, List.map_append]
                  exact h1
              case measure => simp [intOf]; omega
            · obtain rfl : i = q := by omega
              have hii : ¬ (i : Int) < (i : Int) := by omega
              obtain ⟨W, hW⟩ : ∃ W, W = L.map oddW := ⟨_, rfl⟩
              have hoW : oddTo L i = W := by
                have e : i = L.length := HLN.out.2.1
                unfold oddTo
                rw [hW, List.take_of_length_le (by omega), List.drop_eq_nil_of_le (by omega), List.append_nil]
              have ho1 : (L.take i).map (fun u => moveW by_ (oddW u)) = W.map (moveW by_) := by
                rw [List.take_of_length_le (by have := HLN.out; omega), hW, List.map_map]
                rfl
              have ho2 : (L.take i).map (fun u => mirW (oddW u)) = W.map mirW := by
                rw [List.take_of_length_le (by have := HLN.out; omega), hW, List.map_map]
                rfl
              rw [hoW] at HST
              rw [ho1] at HO1
              rw [ho2] at HO2
              have hWl : W.length = i := by rw [hW, List.length_map]; exact HLN.out.2.1.symm
              have hH : Hull G W := by rw [HGL.out.2.1, hW]; exact hull_dbl HM.out L HWT.out (by have := HLN.out; omega)
              have hbd : ∀ f ∈ G, -500000 ≤ f.x + by_ ∧ f.x + by_ ≤ 500000 := fun f hf => by have := HGL.out.2.2 f hf; omega
              have hxx : ∀ u ∈ W, ∀ f ∈ G, f.x ≠ u.x := by rw [HGL.out.2.1, hW]; exact dbl_odd F L
              have HH := Lib.hid hH
              have HBD := Lib.hid hbd
              have HXX := Lib.hid hxx
              have HCa := Lib.hid (hull_ok hH).2.2
              have HCb := Lib.hid (hull_ok (hull_move hH by_ hbd)).2.2
              have HCc := Lib.hid (hull_ok (hull_mir hH hxx)).2.2
              have HWL := Lib.hid hWl
              have HJ10 : Hid (j = G.length ∧ 3 ≤ j ∧ j ≤ 10 ∧ nn + 1 = j ∧ i ≤ 8) := by have h1 := HLN.out; have h2 := HGL.out.1; unfold Hid; omega
              clear hW hoW ho1 ho2 hWl hH hbd hxx
              go_wp2_with (first
                | (go_at_call 15; refine (curve_good HCa.out (some ⟨g, 0, none⟩) D cf d _ _ HJ10.out.1 HWL.out.symm wr HST.out.fr.rd HST.out.wt.rd (by have := HJ10.out; omega) (by rw [HWL.out]; have := HJ10.out; omega)).mono ?_; rintro e x1 ⟨B1, d1, rfl, hr9, hb9, _, _⟩; have HX1 := Lib.hid (HST.out.step hb9); have CX1 : Hid (From wr x1) := hb9; have R1 := Lib.hid hr9; clear hr9 hb9 HCa)
                | (go_at_call 15; refine (curve_good HCb.out Ao A1 co c1 _ _ (by rw [List.length_map]; exact HJ10.out.1) (by rw [List.length_map]; exact HWL.out.symm) x1 ((HMV.out.rd.below CX1.out (Nat.le_refl _)).more CX1.out.size) ((HO1.out.rd.below CX1.out (Nat.le_refl _)).more CX1.out.size) (by rw [List.length_map]; have := HJ10.out; omega) (by rw [List.length_map, HWL.out]; have := HJ10.out; omega)).mono ?_; rintro e x2 ⟨B2, d2, rfl, hr9, hb9, _, _⟩; have HX2 := Lib.hid (HX1.out.step hb9); have DX2 : Hid (From x1 x2) := hb9; have CX2 : Hid (From wr x2) := CX1.out.trans (hb9.mono CX1.out.size); have R2 := Lib.hid hr9; clear hr9 hb9 HCb)
                | (go_at_call 15; refine (curve_good HCc.out Aj A2 cj c2 _ _ (by rw [mirL_len]; exact HJ10.out.1) (by rw [List.length_map]; exact HWL.out.symm) x2 ((HTN.out.rd.below CX2.out (Nat.le_refl _)).more CX2.out.size) ((HO2.out.rd.below CX2.out (Nat.le_refl _)).more CX2.out.size) (by rw [mirL_len]; have := HJ10.out; omega) (by rw [List.length_map, HWL.out]; have := HJ10.out; omega)).mono ?_; rintro e x3 ⟨B3, d3, rfl, hr9, hb9, _, _⟩; have HX3 := Lib.hid (HX2.out.step hb9); have DX3 : Hid (From x2 x3) := hb9; have R3 := Lib.hid hr9; clear hr9 hb9 HCc))
              have hG0 : 0 < G.length := by have := HJ10.out; omega
              obtain ⟨g1, o1, rfl⟩ := curveS_some R1.out hG0
              obtain ⟨g2, o2, rfl⟩ := curveS_some R2.out (by rw [List.length_map]; exact hG0)
              obtain ⟨g3, o3, rfl⟩ := curveS_some R3.out (by rw [mirL_len]; exact hG0)
              have E1 : Hid (From x1 x3) := DX2.out.trans (DX3.out.mono DX2.out.size)
              have HZ := Lib.hid (fun w1 => frac_Of 0 (by omega) (by omega) w1)
              clear hG0 CX1 CX2 DX2 HMV HTN HO1 HO2 HST HX1 HX2 HAP HSZ
              go_loopw [167] (fun jv wq => ∃ p : Nat, p ≤ j ∧ jv = .int .i64 p ∧ From x3 wq) (fun jv _ => j - (intOf jv).toNat)
              case atStart => exact ⟨0, Nat.zero_le _, rfl, Below.refl _ _⟩
              case round =>
                obtain ⟨p, hp, rfl, hbp⟩ := hrel
                have HBP := Lib.hid hbp
                clear hbp
                by_cases hpj : p < j
                · obtain ⟨pp, hpp⟩ : ∃ pp, pp + p = nn := ⟨nn - p, by have := HJ10.out; omega⟩
                  have hpji : (p : Int) < (j : Int) := by omega
                  have hppj : (pp : Int) < (j : Int) := by have := HJ10.out; omega
                  have hj10 : j ≤ 10 := HJ10.out.2.2.1
                  have wP : IntKind.i64.wrap ((nn : Int) - (p : Int)) = (pp : Int) := by have := HJ10.out; rw [wrap_i64 (by omega) (by omega)]; omega
                  have hpG : p < G.length := by have := HJ10.out; omega
                  obtain ⟨s1, hs1⟩ : ∃ s, s = strF G (secL G W) (addAll (secL G W)).a0 (kF (secL G W)) p := ⟨_, rfl⟩
                  have hlaw := turns_law HH.out by_ HBD.out HXX.out p (by have := HJ10.out; omega) hs1 rfl rfl
                  have hpe : G.length - 1 - p = pp := by have := HJ10.out; omega
                  rw [hpe] at hlaw
                  have h1f : s1.fits := by rw [hs1]; exact str_fits _ _ _ _ _
                  have HV1 := Lib.hid (fun w1 (hb : From wr w1) => str_fld R1.out (s := s1) (by rw [hs1]; exact curveS_get G _ hpG) w1 (E1.out.trans ((HBP.out.trans (hb.mono HBP.out.size)).mono E1.out.size)))
                  have HV2 := Lib.hid (fun w1 (hb : From wr w1) => str_fld R2.out (s := s1) (by rw [← hlaw.1]; exact curveS_get (G.map (moveF by_)) _ (by rw [List.length_map]; exact hpG)) w1 (DX3.out.trans ((HBP.out.trans (hb.mono HBP.out.size)).mono DX3.out.size)))
                  have HV3 := Lib.hid (fun w1 (hb : From wr w1) => str_fld R3.out (k := pp) (s := ⟨(subL (ofL 0) s1.shear).1, s1.bend⟩) (by rw [← hlaw.2]; exact curveS_get (mirL G) _ (by rw [mirL_len]; have := HJ10.out; omega)) w1 (HBP.out.trans (hb.mono HBP.out.size)))
                  have HF1 := Lib.hid h1f
                  have HCR : Hid (From wr wr) := Below.refl _ _
                  clear hs1 hlaw hpe h1f hpG hpp
                  go_upto_region 37 with fail
                  try simp only [Act.put]
                  refine region_turnsA (n := j) (kk := p) (g1 := g1) (o1 := o1) (c1 := d1) (fo := ofL 0) (f1 := s1.shear) (r1 := subL (ofL 0) s1.shear) hpji rfl (by kernel_rfl) (by kernel_rfl) (by kernel_rfl) rfl rfl (NewF wr.heap.size) NewF.stays
                    (fun w1 hb => HZ.out w1) (fun w1 hb => (HV1.out w1 hb).1) (fun w1 hb => frac_Sub _ _ (ofL_fits ⟨by omega, by omega⟩) HF1.out.1 w1) (fun w1 hb => law_sure _ _ w1) (fun w1 hb => NewF.new hb.size) ?_
                  rintro u25 w10 hb10 ⟨g25, rfl, hg25, hf25⟩
                  have HF25 := Lib.hid hf25
                  have HG25 := Lib.hid hg25
                  have C10 : Hid (From wr w10) := hb10
                  clear hb10 hf25 hg25
                  simp only [List.drop_succ_cons, List.drop_zero]
                  simp only [Act.put, List.setIfInBounds_toArray, List.set_cons_succ, List.set_cons_zero]
                  go_upto_region 38 with ((with_reducible refine g_st 37 ?_); refine wpList_stF (f := (subL (ofL 0) s1.shear).1) rfl _ _ rfl rfl rfl HF25.out ?_; intro w11 hfb11 hgr11)
                  have HF11 := Lib.hid hfb11
                  have C11 : Hid (From wr w11) := C10.out.grown hgr11 C10.out.size (by intro x hx; injection hx with hx; have := HG25.out; omega)
                  clear hfb11 hgr11
                  try simp only [Act.put]
                  refine region_turnsB (n := j) (kk := p) (nn := nn) (p := pp) (g1 := g1) (o1 := o1) (c1 := d1) (g2 := g2) (o2 := o2) (c2 := d2) (g3 := g3) (o3 := o3) (c3 := d3) (g25 := g25) (s1 := s1) (s2 := s1) (s3 := ⟨(subL (ofL 0) s1.shear).1, s1.bend⟩) (fn := (subL (ofL 0) s1.shear).1) (fb := s1.bend) hpji hppj wP rfl (by kernel_rfl) (by kernel_rfl) (by kernel_rfl) rfl rfl rfl rfl rfl rfl
                    (fun w1 hb => (HV1.out w1 (C11.out.trans (hb.mono C11.out.size))).2.2) (fun w1 hb => (HV2.out w1 (C11.out.trans (hb.mono C11.out.size))).2.2) (fun a w1 h1 h2 => op_str_neq s1 w1 h1 h2)
                    (fun w1 hb => (HV3.out w1 (C11.out.trans (hb.mono C11.out.size))).2.2) (fun w1 hb => (HF11.out.below hb HF11.out.lt).ld) (fun w1 hb => (HV1.out w1 (C11.out.trans (hb.mono C11.out.size))).2.1)
                    (fun a w1 h1 h2 => build_stressG _ _ w1 h1 h2) (fun a w1 h1 h2 => op_str_neq _ w1 h1 h2) ?_
                  intro w12 hb12
                  have C12 : Hid (From wr w12) := C11.out.trans (hb12.mono C11.out.size)
                  clear hb12
                  simp only [List.drop_succ_cons, List.drop_zero]
                  simp only [Act.put, List.setIfInBounds_toArray, List.set_cons_succ, List.set_cons_zero]
                  go_wp2
                  go_roundw
                  case rel => exact ⟨p + 1, by omega, by go_num, HBP.out.trans (C12.out.mono HBP.out.size)⟩
                  case measure => simp [intOf]; omega
                · obtain rfl : p = j := by omega
                  have hpp : ¬ (p : Int) < (p : Int) := by omega
                  go_wp2
                  go_ret
                  exact ⟨rfl, HX3.out.from_.trans (HBP.out.mono HX3.out.from_.size)⟩
end Go.Proofs.Ythlbcijlbgbooaa
