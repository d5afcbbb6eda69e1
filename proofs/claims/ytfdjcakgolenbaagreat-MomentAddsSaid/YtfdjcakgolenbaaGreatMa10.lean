/-
  The abstract run: calls of functions that change places are sound: the state behind them.
-/
import Derived.Test.YtfdjcakgolenbaaGreatMa9
namespace Go.Proofs.YtfdjcakgolenbaaGreat
open Go.RowKit
section
variable {P : Program} {w w' w0 : World} {ρ ρ' ρ1 : Nat -> Option Rl} {base base' : Nat} {ro ro' ra1 : Nat -> Prop} {S0 : Pm} {N : Nat} {B : Bs} {S : Sx} {a : Act} {v : Value}
theorem EnR.more {l : Nat} {e : En} (h : EnR w ρ base ro l e) (hb : base' <= base) (hro : ∀ b, ro b -> ro' b) : EnR w ρ base' ro' l e := by
 have hav : ∀ {x v}, AVR w ρ base ro x v -> AVR w ρ base' ro' x v := fun h => h.mono (fun _ _ _ => rfl) (Ext.refl _) hb hro
 cases e with
 | box T cells =>
  obtain ⟨b, cs, h1, h4, h5⟩ := h;exact ⟨b, cs, h1, h4, h5.1, fun j x v hx hv => hav (h5.2 j x v hx hv)⟩
 | row fr t T m =>
  obtain ⟨A, c, css, h1, h2, h3, h5⟩ := h;exact ⟨A, c, css, h1, h2.base_le (rb_more fr hb), h3, fun k cs j x v k1 k2 k3 => hav (h5 k cs j x v k1 k2 k3)⟩
 | map fr ag c t T m =>
  obtain ⟨b, es, clock, h1, h2, h3, h4⟩ := h;exact ⟨b, es, clock, h1, h2, h3, h4.map_ fun x v hx => hav hx⟩
 | iter ml c seen left => exact h
 | stamp ml c key => exact h
 | dead => exact h
structure Clean (B : Bs) (S : Sx) (loc : Nat) : Prop where
 t : ∀ d x, lookT B S d = some x -> AV.has loc x = false
 b : ∀ l T cs, lookE B S l = some (.box T cs) -> AV.hasL loc cs = false
 r : ∀ l e, lookE B S l = some e -> refTo loc e = false
theorem kill_t {l d : Nat} {x : AV} (h : lookT B (kill l S) d = some x) : lookT B S d = some x \/ x = .un := by
 unfold lookT kill at h;rw [alook_killT] at h;unfold lookT
 cases hd : alook S.t d with
 | none => rw [hd] at h; exact .inl h
 | some y =>
  rw [hd] at h;simp only [Option.map_some, Option.some.injEq] at h;split at h
  . exact .inr h.symm
  . exact .inl (by rw [h])
theorem kill_e {l k : Nat} {e : En} (h : lookE B (kill l S) k = some e) : ∃ e0, lookE B S k = some e0 /\ (e = e0 \/ e = killEn l e0) := by
 unfold lookE kill at h;rw [alook_killE] at h;unfold lookE
 cases hd : alook S.e k with
 | none => rw [hd] at h; exact ⟨e, h, .inl rfl⟩
 | some y =>
  rw [hd] at h;simp only [Option.map_some, Option.some.injEq] at h;exact ⟨y, rfl, .inr h.symm⟩
theorem drop_e {l k : Nat} {e : En} (h : lookE B ⟨S.t, dropRef l S.e, S.n⟩ k = some e) : ∃ e0, lookE B S k = some e0 /\ (e = e0 \/ e = .dead) := by
 unfold lookE at h;simp only [alook_dropRef] at h;unfold lookE
 cases hd : alook S.e k with
 | none => rw [hd] at h; exact ⟨e, h, .inl rfl⟩
 | some y =>
  rw [hd] at h;simp only [Option.map_some, Option.some.injEq] at h;refine ⟨y, rfl, ?_⟩;split at h
  . exact .inr h.symm
  . exact .inl h.symm
theorem killL_has {l loc : Nat} {cs : List AV} (h : AV.hasL loc cs = false) : AV.hasL loc (killL l cs) = false := by
 refine hasL_of fun j x hx => ?_;rw [killL_get] at hx
 cases hj : cs[j]? with
 | none => rw [hj] at hx; cases hx
 | some y =>
  rw [hj] at hx;simp only [Option.map_some, Option.some.injEq] at hx;subst hx;split
  . rfl
  . exact hasL_get h hj
theorem Clean.kill_ {loc : Nat} (h : Clean B S loc) (l : Nat) : Clean B (kill l S) loc := by
 refine ⟨fun d x hx => ?_, fun k T cs he => ?_, fun k e he => ?_⟩
 . rcases kill_t hx with h1 | rfl
   . exact h.t d x h1
   . rfl
 . obtain ⟨e0, h1, h2 | h2⟩ := kill_e he
   . subst h2; exact h.b k T cs h1
   . cases e0 with
     | box T' cs' => cases h2; exact killL_has (h.b k _ cs' h1)
     | row fr t T m => cases h2
     | map fr ag c t T m => cases h2
     | iter ml c seen left => cases h2
     | stamp ml c key => cases h2
     | dead => cases h2
 . obtain ⟨e0, h1, h2 | h2⟩ := kill_e he
   . subst h2; exact h.r k _ h1
   . have := h.r k e0 h1;rw [h2];cases e0 <;> exact this
theorem Clean.drop_ {loc : Nat} (h : Clean B S loc) (l : Nat) : Clean B ⟨S.t, dropRef l S.e, S.n⟩ loc := by
 refine ⟨h.t, fun k T cs he => ?_, fun k e he => ?_⟩
 . obtain ⟨e0, h1, h2 | h2⟩ := drop_e he
   . subst h2; exact h.b k T cs h1
   . cases h2
 . obtain ⟨e0, h1, h2 | h2⟩ := drop_e he
   . subst h2; exact h.r k _ h1
   . subst h2; rfl
theorem killAll_ok : ∀ {ls : List Nat} {S : Sx}, freeAll B ls = true -> SimR w0 S0 N B S a w ρ ro -> SimR w0 S0 N B (killAll ls S) a w ρ ro /\ (∀ l ∈ ls, Clean B (killAll ls S) l) /\ (killAll ls S).n = S.n /\ ∀ l, Clean B S l -> Clean B (killAll ls S) l
 | [], S, _, H => ⟨H, (fun _ h => by cases h), rfl, fun _ h => h⟩
 | l :: ls, S, h, H => by
  unfold freeAll at h;simp only [Bool.and_eq_true] at h;obtain ⟨⟨⟨_, hq⟩, hr⟩, hls⟩ := h;have H1 := H.killed l;obtain ⟨H2, hr2⟩ := H1.dropped (loc := l) hr;have hc : Clean B ⟨(kill l S).t, dropRef l (kill l S).e, (kill l S).n⟩ l := by
   have hk := kill_quiet (S := S) hq;refine ⟨hk.1, fun k T cs he => ?_, hr2⟩;obtain ⟨e0, h1, h2 | h2⟩ := drop_e he
   . subst h2; exact hk.2 k T cs h1
   . cases h2
  obtain ⟨k1, k2, k3, k4⟩ := killAll_ok (ls := ls) hls H2;refine ⟨k1, fun l' hl' => ?_, k3, fun l' hl' => k4 l' ((hl'.kill_ l).drop_ l)⟩;rcases List.mem_cons.1 hl' with rfl | hl'
  . exact k4 _ hc
  . exact k2 l' hl'
theorem dropAll_ok : ∀ {ls : List Nat} {S : Sx}, freeAll B ls = true -> SimR w0 S0 N B S a w ρ ro -> SimR w0 S0 N B (dropAll ls S) a w ρ ro /\ (∀ l ∈ ls, ∀ k e, lookE B (dropAll ls S) k = some e -> refTo l e = false) /\ (dropAll ls S).n = S.n /\ ∀ l, (∀ k e, lookE B S k = some e -> refTo l e = false) -> ∀ k e, lookE B (dropAll ls S) k = some e -> refTo l e = false
 | [], S, _, H => ⟨H, (fun _ h => by cases h), rfl, fun _ h => h⟩
 | l :: ls, S, h, H => by
  unfold freeAll at h;simp only [Bool.and_eq_true] at h;obtain ⟨⟨⟨_, hq⟩, hr⟩, hls⟩ := h;obtain ⟨H2, hr2⟩ := H.dropped (loc := l) hr;obtain ⟨k1, k2, k3, k4⟩ := dropAll_ok (ls := ls) hls H2;refine ⟨k1, fun l' hl' => ?_, k3, fun l' hl' => k4 l' fun k e he => ?_⟩
  . rcases List.mem_cons.1 hl' with rfl | hl'
    . exact k4 _ hr2
    . exact k2 l' hl'
  . obtain ⟨e0, h1, h2 | h2⟩ := drop_e he
    . subst h2; exact hl' k _ h1
    . subst h2; rfl
theorem forget_ok {fx : Bool} {ls : List Nat} (hf : freeAll B ls = true) (H : SimR w0 S0 N B S a w ρ ro) : SimR w0 S0 N B (forget fx ls S) a w ρ ro /\ (∀ l ∈ ls, ∀ k e, lookE B (forget fx ls S) k = some e -> refTo l e = false) /\ (fx = false -> ∀ l ∈ ls, Clean B (forget fx ls S) l) := by
 unfold forget
 cases fx with
 | true =>
  obtain ⟨k1, k2, _, _⟩ := dropAll_ok (S := S) hf H;exact ⟨k1, k2, fun h => by cases h⟩
 | false =>
  obtain ⟨k1, k2, _, _⟩ := killAll_ok (S := S) hf H;exact ⟨k1, fun l hl => (k2 l hl).r, fun _ => k2⟩
theorem alook_renE {g : Nat -> Nat} {l : Nat} {e : En} : ∀ {es : List (Nat × En)}, alook (renE g es) l = some e -> ∃ k e0, g k = l /\ e = En.ren g e0 /\ alook es k = some e0
 | (k0, e0) :: es, h => by
  unfold renE at h;rw [alook_cons] at h;split at h
  . rename_i hk;cases h;exact ⟨k0, e0, hk, rfl, by rw [alook_cons, if_pos rfl]⟩
  . rename_i hk;obtain ⟨k, e1, h1, h2, h3⟩ := alook_renE h;exact ⟨k, e1, h1, h2, by rw [alook_cons, if_neg (by rintro rfl; exact hk h1)]; exact h3⟩
 | [], h => by cases h
theorem renE_some {g : Nat -> Nat} {k : Nat} : ∀ {es : List (Nat × En)}, memN k (keysOf es) = true -> ∃ e, alook (renE g es) (g k) = some e
 | (k0, e0) :: es, h => by
  unfold renE;rw [alook_cons];split
  . exact ⟨_, rfl⟩
  . rename_i hk;simp only [keysOf, memN, Bool.or_eq_true, beq_iff_eq] at h;rcases h with rfl | h
    . exact absurd rfl hk
    . exact renE_some h
 | [], h => by cases h
theorem alook_key {α : Type} {k : Nat} {x : α} : ∀ {l : List (Nat × α)}, alook l k = some x -> memN k (keysOf l) = true
 | (j, y) :: l, h => by
  rw [alook_cons] at h;simp only [keysOf, memN, Bool.or_eq_true, beq_iff_eq];split at h
  . rename_i e; exact .inl e
  . exact .inr (alook_key h)
 | [], h => by cases h
theorem maxK_lt : ∀ {ks : List Nat} {n k : Nat}, memN k ks = true -> k < maxK n ks
 | j :: ks, n, k, h => by
  simp only [memN, Bool.or_eq_true, beq_iff_eq] at h;have hle : ∀ (l : List Nat) (n : Nat), n <= maxK n l := by
   intro l
   induction l with
   | nil => intro n; exact Nat.le_refl n
   | cons j l ih =>
    intro n;unfold maxK;split
    . exact ih n
    . have := ih (j + 1); omega
  unfold maxK;split
  . rcases h with rfl | h
    . have := hle ks n; omega
    . exact maxK_lt h
  . rcases h with rfl | h
    . have := hle ks (j + 1); omega
    . exact maxK_lt h
 | [], _, _, h => by cases h
theorem allK_lt {ks : List Nat} : ∀ {n l : Nat}, allK ks n = true -> l < n -> memN l ks = true
 | n + 1, l, h, hl => by
  simp only [allK, Bool.and_eq_true] at h;rcases Nat.lt_or_ge l n with h1 | h1
  . exact allK_lt h.2 h1
  . rw [show l = n by omega]; exact h.1
 | 0, _, _, hl => by omega
theorem newFree_get {g : Nat -> Nat} {n k : Nat} : ∀ {ks : List Nat}, newFree B g n ks = true -> memN k ks = true -> n <= k -> alook B.e (g k) = none
 | j :: ks, h, hm, hk => by
  unfold newFree at h;simp only [Bool.and_eq_true, Bool.or_eq_true, decide_eq_true_eq, Option.isNone_iff_eq_none] at h;simp only [memN, Bool.or_eq_true, beq_iff_eq] at hm;rcases hm with rfl | hm
  . exact h.1.resolve_left (by omega)
  . exact newFree_get h.2 hm hk
 | [], _, h, _ => by cases h
theorem freeAll_get {l : Nat} : ∀ {ls : List Nat}, freeAll B ls = true -> l ∈ ls -> alook B.e l = none
 | j :: ls, h, hm => by
  unfold freeAll at h;simp only [Bool.and_eq_true, Option.isNone_iff_eq_none] at h;rcases List.mem_cons.1 hm with rfl | hm
  . exact h.1.1.1
  . exact freeAll_get h.2 hm
 | [], _, h => by cases h
theorem alook_append' {α : Type} : ∀ (l m : List (Nat × α)) (d : Nat), alook (l ++ m) d = (match alook l d with | some x => some x | none => alook m d)
 | [], m, d => rfl
 | (k, x) :: l, m, d => by
  rw [List.cons_append, alook_cons, alook_cons, alook_append' l m d];split <;> rfl
theorem SimR.called (H : SimR w0 S0 N B S a w ρ ro) {locs : List Nat} {es : List (Nat × En)} {n : Nat} (hlen : locs.length = n) (hnd : locs.Nodup) (hsome : ∀ l ∈ locs, ∃ r, ρ l = some r) (hfree : freeAll B locs = true) (hall : allK (keysOf es) n = true) (hnew : newFree B (renN locs S.n) n (keysOf es) = true) {fx : Bool} (hfx : S0.fx = true -> fx = true) (hL : Left w w' (ρL ρ locs) ρ1 ro ra1 es fx) :
 ∃ ρ', SimR w0 S0 N B ⟨(forget fx locs S).t, renE (renN locs S.n) es ++ (forget fx locs S).e, S.n + (maxK n (keysOf es) - n)⟩ a w' ρ' (fun b => ro b \/ ra1 b) /\ ∀ k r, ρ1 k = some r -> ρ' (renN locs S.n k) = some r := by
 obtain ⟨H1, hclr, hcl⟩ := forget_ok (fx := fx) (S := S) hfree H;have hlt : ∀ {l r}, ρ l = some r -> l < S.n := fun h => by
  rcases Nat.lt_or_ge _ S.n with h1 | h1
  . exact h1
  . have := H.fresh _ h1; rw [h] at this; cases this
 have hloc : ∀ {k l}, locs[k]? = some l -> l < S.n := fun h => by
  obtain ⟨r, hr⟩ := hsome _ (List.mem_of_getElem? h);exact hlt hr
 classical
 obtain ⟨ρ', hρ'⟩ : ∃ ρ' : Nat -> Option Rl, ρ' = fun l => if h : ∃ k : Nat, locs[k]? = some l then ρ1 h.choose else if S.n <= l then ρ1 (n + (l - S.n)) else ρ l := ⟨_, rfl⟩
 have F1 : ∀ {k l}, locs[k]? = some l -> ρ' l = ρ1 k := by
  intro k l h;have hex : ∃ k : Nat, locs[k]? = some l := ⟨k, h⟩
  rw [hρ'];simp only [dif_pos hex];have h2 := hex.choose_spec;have hk := (List.getElem?_eq_some_iff.1 h).1;have : hex.choose = k := (List.getElem?_inj (by exact (List.getElem?_eq_some_iff.1 h2).1) hnd).1 (h2.trans h.symm);rw [this]
 have F2 : ∀ {l}, S.n <= l -> ρ' l = ρ1 (n + (l - S.n)) := by
  intro l h;rw [hρ'];have hno : ¬ ∃ k : Nat, locs[k]? = some l := by
   rintro ⟨k, hk⟩
   have := hloc hk;omega
  simp only [dif_neg hno, if_pos h]
 have F3 : ∀ {l : Nat}, l < S.n -> (∀ k : Nat, locs[k]? ≠ some l) -> ρ' l = ρ l := by
  intro l h h2;rw [hρ'];have hno : ¬ ∃ k : Nat, locs[k]? = some l := by
   rintro ⟨k, hk⟩
   exact h2 k hk
  simp only [dif_neg hno, if_neg (show ¬ S.n <= l by omega)]
 have G1 : ∀ {k l : Nat}, locs[k]? = some l -> renN locs S.n k = l := fun h => by unfold renN; rw [h]
 have G2 : ∀ {k : Nat}, n <= k -> renN locs S.n k = S.n + (k - n) := fun h => by unfold renN; rw [List.getElem?_eq_none (by omega), hlen]
 have F4 : ∀ k, ρ' (renN locs S.n k) = ρ1 k := by
  intro k;rcases Nat.lt_or_ge k n with h | h
  . have hk : locs[k]? = some (locs[k]'(by omega)) := List.getElem?_eq_getElem _;rw [G1 hk];exact F1 hk
  . rw [G2 h, F2 (by omega)];congr 1;omega
 have back : ∀ {l : Nat} {r : Rl}, ρ' l = some r -> (∃ k : Nat, l = renN locs S.n k /\ ρ1 k = some r) \/ (ρ l = some r /\ l < S.n /\ ∀ k : Nat, locs[k]? ≠ some l) := by
  intro l r h;by_cases hex : ∃ k : Nat, locs[k]? = some l
  . obtain ⟨k, hk⟩ := hex;exact .inl ⟨k, (G1 hk).symm, (F1 hk).symm.trans h⟩
  . rcases Nat.lt_or_ge l S.n with h1 | h1
    . have h2 : ∀ k : Nat, locs[k]? ≠ some l := fun k hk => hex ⟨k, hk⟩;exact .inr ⟨(F3 h1 h2).symm.trans h, h1, h2⟩
    . refine .inl ⟨n + (l - S.n), ?_, (F2 h1).symm.trans h⟩;rw [G2 (by omega)];omega
 have hgivenB : ∀ {k : Nat} {r : Rl} {b : Nat}, ρL ρ locs k = some r -> r.blk = some b -> ∃ l : Nat, locs[k]? = some l /\ ρ l = some r := fun h _ => ρL_from h;have hkeepH : ∀ {l : Nat} {r : Rl} {b : Nat}, ρ l = some r -> r.blk = some b -> (∀ k : Nat, locs[k]? ≠ some l) -> w'.heap[b]? = w.heap[b]? := by
  intro l r b h1 h2 h3;refine hL.from_.block b (H.own l r b h1 h2).1 fun k r' hk hb => ?_;obtain ⟨l', hl', hr'⟩ := ρL_from hk;exact H.apart l l' r r' b (fun e => h3 k (e ▸ hl')) h1 hr' h2 hb
 have hro : ∀ b, ro b -> b < w.heap.size -> w'.heap[b]? = w.heap[b]? := by
  intro b hb hlt;refine hL.from_.block b hlt fun k r' hk hb' => ?_;obtain ⟨l', hl', hr'⟩ := ρL_from hk;exact (H.own l' r' b hr' hb').2.1 hb
 have hsol : ∀ {l : Nat} {r : Rl}, ρ l = some r -> ((¬ ∃ k : Nat, locs[k]? = some l) \/ (r.solid || fx) = true) -> ρ' l = some r := by
  intro l r h1 h2;by_cases hex : ∃ k : Nat, locs[k]? = some l
  . obtain ⟨k, hk⟩ := hex;rw [F1 hk];exact hL.solid k r (by rw [ρL_at hk]; exact h1) (h2.resolve_left fun h => h ⟨k, hk⟩)
  . rw [F3 (hlt h1) fun k hk => hex ⟨k, hk⟩];exact h1
 have hav : ∀ {x v}, AVR w ρ w0.heap.size ro x v -> (fx = false -> ∀ l ∈ locs, AV.has l x = false) -> AVR w' ρ' w0.heap.size (fun b => ro b \/ ra1 b) x v := fun h hx => (h.away (q := fun l => fx = false /\ ∃ k : Nat, locs[k]? = some l) (fun l hq => by obtain ⟨hf, k, hk⟩ := hq; exact hx hf l (List.mem_of_getElem? hk)) fun l r h1 h2 => hsol h1 (by
  cases hf : fx with
  | true => exact .inr (by simp)
  | false => exact h2.imp (fun h q => h ⟨hf, q⟩) fun h => by simp [h])).mono hro (Ext.refl _) (Nat.le_refl _) fun b hb => .inl hb
 have hbase : w0.heap.size <= w.heap.size := H.from_.size;have hnotin : ∀ {l : Nat} {e : En}, alook (renE (renN locs S.n) es) l = none -> lookE B (forget fx locs S) l = some e -> ∀ k : Nat, locs[k]? ≠ some l := by
  intro l e h1 _ k hk;have hkn : k < n := by have := (List.getElem?_eq_some_iff.1 hk).1; omega
  obtain ⟨e', he'⟩ := renE_some (g := renN locs S.n) (allK_lt hall hkn);rw [G1 hk, h1] at he';cases he'
 refine ⟨ρ', ⟨?_, H.size, H.defers, fun b hb => ?_, fun d x hx => ?_, fun l e he => ?_, fun l l' r r' b hne h1 h2 h3 h4 => ?_, fun l hl => ?_, fun l r b h1 h2 => ?_, fun b hb hlt0 => ?_, fun l r h1 h2 => hsol (H.solid l r h1 h2) (.inr (by
  cases hs : r.solid with
  | true => rfl
  | false => rw [hs] at h2; exact hfx h2)), fun d x hx => H1.disT d x hx, fun l e he => ?_⟩, fun k r h => by rw [F4]; exact h⟩
 . refine ⟨hL.from_.os.trans H.from_.os, hL.from_.tape.trans H.from_.tape, hL.from_.output.trans H.from_.output, Nat.le_trans hbase hL.from_.size, fun k hk hnp => ?_⟩;refine (hL.from_.block k (by omega) fun i r hi hr => ?_).trans (H.from_.block k hk hnp);obtain ⟨l, hl, hlr⟩ := ρL_from hi;rcases (H.own l r k hlr hr).2.2 with h | ⟨r0, h, h'⟩
   . omega
   . exact hnp l r0 h h'
 . rcases hb with hb | hb
   . exact Nat.lt_of_lt_of_le (H.roB b hb) hL.from_.size
   . exact (hL.rd b hb).1
 . obtain ⟨u, h1, h2⟩ := H1.tm d x hx;exact ⟨u, h1, hav h2 fun hf l hl => (hcl hf l hl).t d x hx⟩
 . unfold lookE at he;dsimp only at he;have hap := alook_append' (renE (renN locs S.n) es) (forget fx locs S).e l
   cases hr : alook (renE (renN locs S.n) es) l with
   | some e1 =>
    rw [hap, hr] at he;simp only [Option.some.injEq] at he;subst he;obtain ⟨k, e0, rfl, rfl, h3⟩ := alook_renE hr;exact ((hL.en k e0 h3).more hbase fun b hb => .inr hb).ren fun l r h => by rw [F4]; exact h
   | none =>
    rw [hap, hr] at he;have he' : lookE B (forget fx locs S) l = some e := he;have hni := hnotin hr he';have h1 := H1.en l e he';obtain ⟨r, hr1⟩ := h1.none;have hl' : ρ' l = ρ l := F3 (hlt hr1) hni
    cases e with
    | box T cs =>
     obtain ⟨b, us, k1, k4, k5⟩ := h1;exact ⟨b, us, hl'.trans k1, (hkeepH k1 rfl hni).trans k4, k5.1, fun j x v hx hv => hav (k5.2 j x v hx hv) fun hf q hq => hasL_get ((hcl hf q hq).b l T cs he') hx⟩
    | row fr t T m =>
     obtain ⟨A, c, css, k1, k2, k3, k5⟩ := h1;exact ⟨A, c, css, hl'.trans k1, k2.keep fun ad ha => hkeepH k1 (by simp [Rl.blk, ha]) hni, k3, fun k cs j x v q1 q2 q3 => hav (k5 k cs j x v q1 q2 q3) fun _ q _ => hasL_get (cellsAV_has _ _ _ _) q2⟩
    | map fr ag c t T m =>
     obtain ⟨b, es', clock, k1, k2, k3, k4⟩ := h1;exact ⟨b, es', clock, hl'.trans k1, (hkeepH k1 rfl hni).trans k2, k3, k4.map_ fun x v hx => hav hx fun _ q _ => elAV_has _ _ _ _ _⟩
    | iter ml c seen left =>
     obtain ⟨b, b2, es', clock, since, stamps, c0, k1, k2, k3, k4, k5⟩ := h1;have hml : ∀ k : Nat, locs[k]? ≠ some ml := fun k hk => by
      have := hclr ml (List.mem_of_getElem? hk) l _ he';simp [refTo] at this
     exact ⟨b, b2, es', clock, since, stamps, c0, hl'.trans k1, (F3 (hlt k2) hml).trans k2, (hkeepH k2 rfl hml).trans k3, (hkeepH k1 rfl hni).trans k4, k5⟩
    | stamp ml c key =>
     obtain ⟨b, es', clock, s, e, k1, k2, k3, k4⟩ := h1;have hml : ∀ k : Nat, locs[k]? ≠ some ml := fun k hk => by
      have := hclr ml (List.mem_of_getElem? hk) l _ he';simp [refTo] at this
     exact ⟨b, es', clock, s, e, hl'.trans k1, (F3 (hlt k2) hml).trans k2, (hkeepH k2 rfl hml).trans k3, k4⟩
    | dead => exact ⟨r, hl'.trans hr1⟩
 . have hmix : ∀ {l l' : Nat} {r r' : Rl} {b k : Nat}, l = renN locs S.n k -> ρ1 k = some r -> ρ l' = some r' -> (∀ k : Nat, locs[k]? ≠ some l') -> r.blk = some b -> r'.blk ≠ some b := by
    intro l l' r r' b k _ q2 q3 q4 q5 q6;have q7 := (H.own l' r' b q3 q6).1;rcases (hL.own k r b q2 q5).2.2 with q8 | ⟨r0, q8, q9⟩
    . omega
    . obtain ⟨l2, q10, q11⟩ := ρL_from q8;exact H.apart l2 l' r0 r' b (fun e => q4 k (e ▸ q10)) q11 q3 q9 q6
   rcases back h1 with ⟨k, q1, q2⟩ | ⟨q1, q2, q3⟩
   . rcases back h2 with ⟨k', q3, q4⟩ | ⟨q3, q4, q5⟩
     . exact hL.apart k k' r r' b (fun e => hne (by rw [q1, q3, e])) q2 q4 h3 h4
     . exact hmix q1 q2 q3 q5 h3 h4
   . rcases back h2 with ⟨k', q4, q5⟩ | ⟨q4, q5, q6⟩
     . exact hmix q4 q5 q1 q3 h4 h3
     . exact H.apart l l' r r' b hne q1 q4 h3 h4
 . dsimp only at hl;rw [F2 (by omega)];refine hL.fresh _ ?_
   cases hm : memN (n + (l - S.n)) (keysOf es) with
   | false => rfl
   | true =>
    have := maxK_lt (n := n) hm;omega
 . rcases back h1 with ⟨k, q1, q2⟩ | ⟨q1, q2, q3⟩
   . obtain ⟨q3, q4, q5⟩ := hL.own k r b q2 h2;rcases q5 with q5 | ⟨r0, q5, q6⟩
     . refine ⟨q3, fun hb => ?_, .inl (by omega)⟩;rcases hb with hb | hb
       . have := H.roB b hb; omega
       . exact q4 hb
     . obtain ⟨l2, q7, q8⟩ := ρL_from q5;have q9 := H.own l2 r0 b q8 q6;rw [G1 q7] at q1;subst q1;exact ⟨q3, fun hb => hb.elim q9.2.1 q4, q9.2.2⟩
   . have q4 := H.own l r b q1 h2;exact ⟨Nat.lt_of_lt_of_le q4.1 hL.from_.size, fun hb => hb.elim q4.2.1 fun hb => q4.2.1 ((hL.rd b hb).2 q4.1), q4.2.2⟩
 . rcases hb with hb | hb
   . exact H.roS b hb hlt0
   . exact H.roS b ((hL.rd b hb).2 (by omega)) hlt0
 . rw [alook_append']
   cases hr : alook (renE (renN locs S.n) es) l with
   | none => exact H1.disE l e he
   | some e1 =>
    exfalso;obtain ⟨k, e0, hk, _, h3⟩ := alook_renE hr;have hm := alook_key h3;rcases Nat.lt_or_ge k n with h | h
    . have hk2 : locs[k]? = some (locs[k]'(by omega)) := List.getElem?_eq_getElem _;rw [G1 hk2] at hk;have := freeAll_get hfree (List.mem_of_getElem? hk2);rw [hk, he] at this;cases this
    . have := newFree_get hnew hm h;rw [hk, he] at this;cases this
end
section
variable {P : Program} {w w' w0 : World} {ρ ρ' : Nat -> Option Rl} {base : Nat} {ro ro' : Nat -> Prop} {S0 : Pm} {N : Nat} {B : Bs} {S : Sx} {a : Act}
theorem made_rowsV {z : Value} {size : Nat} (hz : z.cells.size = size) (h0 : 0 < size) : ∀ n, (madeCells z.cells (n * size)).toList = (List.replicate n z.cells.toList).flatten := by
 intro n;apply List.ext_getElem?;intro j;have hall : ∀ cs ∈ List.replicate n z.cells.toList, cs.length = size := by
  intro cs hcs;rw [(List.mem_replicate.1 hcs).2];simpa using hz
 by_cases hj : j < n * size
 . have hdm := Nat.div_add_mod j size;have hm := Nat.mod_lt j h0;have hk : j / size < n := (Nat.div_lt_iff_lt_mul h0).2 hj;have e : j = j / size * size + j % size := by rw [Nat.mul_comm]; exact hdm.symm
   have h1 := flat_get (List.replicate n z.cells.toList) hall (j / size) (j % size) hm;rw [<- e] at h1;rw [h1];rw [List.getElem?_replicate, if_pos hk, Option.bind_some];simp only [madeCells, hz, Array.toList_map, Array.toList_range, List.getElem?_map, List.getElem?_range hj, Option.map_some];rw [Array.getElem!_eq_getD];have hm2 : j % size < z.cells.size := by omega
   simp [hm2]
 . have h1 : (madeCells z.cells (n * size)).toList.length = n * size := by simp [size_madeCells]
   have h2 : (List.replicate n z.cells.toList).flatten.length = n * size := by rw [flat_len _ hall, List.length_replicate]
   rw [List.getElem?_eq_none (by omega), List.getElem?_eq_none (by omega)]
theorem makeN_ok (H : Sim w0 S0 N B S a w) {T e d n c : Nat} {t : Tc} {f : Bool} {x : Unit -> List t.el} {S' : Sx} {l cc : Operand} {ty : TypeId} {pos : String} {aft : Array Edge} {gd : Option (Nat × Bool)} {css : List (List Value)} (hB : alook B.e S.n = none) (hp : putT B ⟨S.t, (S.n, .row f t e x) :: S.e, S.n + 1⟩ N d (.own S.n) = some S') (hn : (x ()).length = n)
 (hrun : ∃ w', (Instr.makeSlice T (a.eval l) (a.eval cc)).run P w = .ok (.slice (some ⟨w.heap.size, 0, none⟩) n c) w' /\ w'.ownsRow w.heap.size e t.size (.slice (some ⟨w.heap.size, 0, none⟩) n c) n css.flatten /\ w.grownBy w' none) (hlen : css.length = n) (hcl : ∀ cs ∈ css, cs.length = t.size)
 (hcell : ∀ (k : Nat) (cs : List Value) (w' : World) (ρ' : Nat -> Option Rl) (ro' : Nat -> Prop), css[k]? = some cs -> Each w' ρ' w0.heap.size ro' (cellsAV f t fun _ => (x ()).getD k t.dflt) cs) :
 OpM P ⟨some d, .makeSlice T l cc, ty, pos, aft, gd⟩ a w (Sim w0 S0 N B S') := by
 obtain ⟨ρ, ro, H⟩ := H;obtain ⟨w', hrun, hrow, hg⟩ := hrun;have hnone := H.fresh S.n (Nat.le_refl _);have hkeep : ∀ q, q < w.heap.size -> w'.heap[q]? = w.heap[q]? := fun q hq => hg.block q hq (by simp);have hown : OwnS w' w.heap.size e t.size (some ⟨w.heap.size, 0, none⟩) c css := ⟨by rw [hlen]; exact hrow, hcl⟩
 have hlt : w.heap.size < w'.heap.size := (hown.lt rfl).2;have hown2 : OwnS w' (rb f w0.heap.size) e t.size (some ⟨w.heap.size, 0, none⟩) c css := hown.base_le (Nat.le_trans (rb_le _ _) H.from_.size);have H2 := H.upd (w' := w') (loc := S.n) (n := S.n + 1) (r := .row (some ⟨w.heap.size, 0, none⟩) n c) (e := .row f t e x) (H.from_.grown hg fun k hk => by cases hk) hg.size (fun q hq _ => hkeep q hq) (fun q hq2 => by
  have hq3 : some w.heap.size = some q := hq2;injection hq3 with hq3;subst hq3;exact .inr ⟨Nat.le_refl _, hlt⟩) hB (Nat.le_succ _) (Nat.lt_succ_self _) (.inl (ext_new hnone)) (.inl fun b hb => by rw [hnone] at hb; cases hb) (by
  refine ⟨some ⟨w.heap.size, 0, none⟩, c, css, by rw [hn]; exact updR_self _ _ _, hown2, by rw [hn]; exact hlen, fun k cs j y u r1 r2 r3 => (hcell k cs _ _ _ r1).2 j y u r2 r3⟩)
 refine .inl ⟨_, _, ?_, _, _, H2.put hp (.own _ _ _ _ (updR_self _ _ _))⟩;unfold execOp;simp only [Sem.run_bind, hrun, Result.andThen_ok, Sem.run_pure]
theorem make0_ok {C : Cx} (hty : TyOk P C.ty) (H : Sim w0 S0 N B S a w) {T e sz b d : Nat} {t : Tc} {kk : IntKind} {k : Unit -> Int} {S' : Sx} {l cc : Operand} {k0 : IntKind} {ty : TypeId} {pos : String} {aft : Array Edge} {gd : Option (Nat × Bool)} (hT : tiOf C.ty T = some (.slice e sz b)) (hl : getO B S l = .lit k0 0) (hc : (getO B S cc).asInt = some (kk, k)) (hsz : t.size = sz) (hB : alook B.e S.n = none) (hp : putT B ⟨S.t, (S.n, .row true t e fun _ => []) :: S.e, S.n + 1⟩ N d (.own S.n) = some S') (hv : 0 <= k () /\ k () * b <= 281474976710656) :
 OpM P ⟨some d, .makeSlice T l cc, ty, pos, aft, gd⟩ a w (Sim w0 S0 N B S') := by
 obtain ⟨ρ, ro, H'⟩ := id H;obtain ⟨i, _, hi, htb⟩ := tiOf_ hty hT;obtain ⟨⟨hu, j, z, hj, hz, hjs, hjb, hzs, hs0⟩, hb0⟩ := ei_of htb hi;have e1 : a.eval l = .int k0 0 := by have := H'.get l; rw [hl] at this; exact this.lit_
 have e2 : a.eval cc = .int kk (k ()) := asInt_ hc (H'.get cc);obtain ⟨c, hck⟩ := Int.eq_ofNat_of_zero_le hv.1;have hcb : c * b <= 281474976710656 := by
  have h3 := hv.2;rw [hck] at h3;have h4 : ((c * b : Nat) : Int) <= 281474976710656 := by rw [Int.natCast_mul]; exact h3
  omega
 have hcm : c <= maxLen := by
  have : c * 1 <= c * b := Nat.mul_le_mul_left _ hb0;unfold maxLen;omega
 subst hsz;refine makeN_ok (css := []) H hB hp rfl ?_ rfl (by simp) (fun k cs w' ρ' ro' h => by simp at h) (c := c);rw [e1, e2, hck];exact run_make_own w w.heap.size T e j z t.size hu hj hz hjs k0 kk c (by rw [hjb, Nat.mul_comm]; exact hcb) hcm (Nat.le_refl _)
theorem makeF_ok {C : Cx} (hty : TyOk P C.ty) (H : Sim w0 S0 N B S a w) {T e sz b d : Nat} {t : Tc} {k0 kk : IntKind} {n k : Unit -> Int} {f : Bool} {x : Unit -> t.el} {ie : TInf} {S' : Sx} {l cc : Operand} {ty : TypeId} {pos : String} {aft : Array Edge} {gd : Option (Nat × Bool)} (hT : tiOf C.ty T = some (.slice e sz b)) (hl : getO B S l = .int k0 n) (hc : (getO B S cc).asInt = some (kk, k)) (hie : alook C.ty e = some ie) (hel : elOf t (.agg ie.z) = some (f, x)) (hz0 : ie.z.isEmpty = false) (hsz : t.size = sz) (hB : alook B.e S.n = none) (hp : putT B ⟨S.t, (S.n, .row f t e fun _ => List.replicate (n ()).toNat (x ())) :: S.e, S.n + 1⟩ N d (.own S.n) = some S') (hv : 0 <= n () /\ n () = k () /\ n () * b <= 281474976710656) :
 OpM P ⟨some d, .makeSlice T l cc, ty, pos, aft, gd⟩ a w (Sim w0 S0 N B S') := by
 obtain ⟨ρ, ro, H'⟩ := id H;obtain ⟨i, _, hi, htb⟩ := tiOf_ hty hT;obtain ⟨⟨hu, j, z, hj, hz, hjs, hjb, hzs, hs0⟩, hb0⟩ := ei_of htb hi;have e1 : a.eval l = .int k0 (n ()) := by have := H'.get l; rw [hl] at this; exact this.int_
 have e2 : a.eval cc = .int kk (k ()) := asInt_ hc (H'.get cc);obtain ⟨v1, v2, v3⟩ := hv;rw [<- v2] at e2;obtain ⟨c, hck⟩ := Int.eq_ofNat_of_zero_le v1;have hcb : c * b <= 281474976710656 := by
  have h3 := v3;rw [hck] at h3;have h4 : ((c * b : Nat) : Int) <= 281474976710656 := by rw [Int.natCast_mul]; exact h3
  omega
 have hcm : c <= maxLen := by
  have : c * 1 <= c * b := Nat.mul_le_mul_left _ hb0;unfold maxLen;omega
 subst hsz;have hc0 : (n ()).toNat = c := by rw [hck]; rfl
 have hzE : ∀ (w' : World) (ρ' : Nat -> Option Rl) (ro' : Nat -> Prop), Each w' ρ' w0.heap.size ro' (cellsAV f t x) z.cells.toList := by
  intro w' ρ' ro';obtain ⟨j', z', hj', hz', hE⟩ := tyB_zero (w := w') (ρ := ρ') (base := w0.heap.size) (ro := ro') (hty e ie hie) hz0;rw [hj] at hj';injection hj' with hj';subst hj';rw [hz] at hz';injection hz' with hz';subst hz';obtain ⟨vs, q1, q2, q3⟩ := elOf_ok hel (AVR.agg ie.z z.cells.toList hE.1 hE.2);have : vs = z.cells.toList := by
   have q4 : (Value.agg z.cells.toList.toArray).cells = z.cells.toList.toArray := rfl;rw [q4] at q1;exact (congrArg Array.toList q1).symm
  rw [this] at q3;exact q3
 have hzl : z.cells.toList.length = t.size := by simpa using hzs
 refine makeN_ok (css := List.replicate c z.cells.toList) H hB hp (by rw [List.length_replicate]) ?_ (by rw [List.length_replicate, hc0]) (fun cs h => by rw [(List.mem_replicate.1 h).2]; exact hzl) (fun q cs w' ρ' ro' h => ?_) (c := c)
 . rw [e1, e2, hck];obtain ⟨w', r1, r2, r3⟩ := run_make_full (P := P) w w.heap.size T e j z t.size hu hj hz hjs k0 kk c (by rw [hjb, Nat.mul_comm]; exact hcb) hcm (Nat.le_refl _);refine ⟨w', ?_, ?_, r3⟩
   . exact r1
   . rw [made_rowsV hzs hs0] at r2;exact r2
 . rw [List.getElem?_replicate] at h;split at h
   . rename_i hq;cases h;have e3 : (List.replicate (n ()).toNat (x ())).getD q t.dflt = x () := by
      rw [List.getD_eq_getElem?_getD, List.getElem?_replicate, if_pos (by omega)];rfl
     have e4 : (fun (_ : Unit) => (List.replicate (n ()).toNat (x ())).getD q t.dflt) = x := by funext u; exact e3
     rw [e4];exact hzE w' ρ' ro'
   . cases h
end
section
variable {P : Program} {w w' w0 : World} {ρ ρ' : Nat -> Option Rl} {base : Nat} {ro ro' : Nat -> Prop} {S0 : Pm} {N : Nat} {B : Bs} {S : Sx} {a : Act}
theorem slice_ok {C : Cx} (hty : TyOk P C.ty) (H : Sim w0 S0 N B S a w) {T e sz b len d : Nat} {parts : Array (Nat × Operand)} {t : Tc} {xs : List AV} {f : Bool} {es : List (Unit -> t.el)} {S' : Sx} {ty : TypeId} {pos : String} {aft : Array Edge} {gd : Option (Nat × Bool)} (hT : tiOf C.ty T = some (.slice e sz b)) (hin : inOrder 0 (parts.toList.map fun p => (p.1, getO B S p.2)) = some xs) (hes : elsOf t xs = some (f, es)) (hsz : t.size = sz) (hlen : es.length = len) (hmax : len * sz <= 16777216) (hB : alook B.e S.n = none) (hp : putT B ⟨S.t, (S.n, .row f t e fun _ => es.map fun g => g ()) :: S.e, S.n + 1⟩ N d (.own S.n) = some S') :
 OpM P ⟨some d, .buildSlice T len parts, ty, pos, aft, gd⟩ a w (Sim w0 S0 N B S') := by
 obtain ⟨ρ, ro, H⟩ := H;obtain ⟨i, _, hi, htb⟩ := tiOf_ hty hT;obtain ⟨⟨hu, j, z, hj, hz, hjs, _, hzs, hs0⟩, _⟩ := ei_of htb hi;subst hsz;obtain ⟨h1, h2⟩ := inOrder_ok hin;have hE : Each w ρ w0.heap.size ro (parts.toList.map fun p => getO B S p.2) (parts.toList.map fun p => a.eval p.2) := each_map fun p _ => H.get p.2;have hxs : xs = parts.toList.map fun p => getO B S p.2 := by rw [<- h1]; simp
 rw [<- hxs] at hE;obtain ⟨css, q1, q2, q3⟩ := elsOf_ok hes hE;have hcl : ∀ cs ∈ css, cs.length = t.size := fun cs hcs => by
  obtain ⟨k, hk⟩ := List.mem_iff_getElem?.1 hcs;have hlt := (List.getElem?_eq_some_iff.1 hk).1;exact (q3 k cs _ hk (List.getElem?_eq_getElem (by omega))).1
 have hpl : parts.toList.length = len := by
  have : css.length = parts.toList.length := by
   have := congrArg List.length q1;simpa using this.symm
  omega
 have h2' : parts.toList.map (·.1) = List.range' 0 parts.toList.length := by simpa [Function.comp_def] using h2
 have hfill := fill_rows (size := t.size) (parts.toList.map fun p => (p.1, a.eval p.2)) css 0 [] (((Array.range (len * t.size)).map fun (k : Nat) => z.cells[k % z.cells.size]!).toList) (by rw [<- q1]; simp) (by simpa [Function.comp_def] using h2') hcl (by simp) (by simp [<- hpl]);have hrun : (execOp a.eval ⟨some d, .buildSlice T len parts, ty, pos, aft, gd⟩).run P w = .ok (.value (.slice (some ⟨w.heap.size, 0, none⟩) len len)) (w.alloc (.cells css.flatten.toArray e)) := by
  have hparts : (parts.map fun (i, x) => (i, a.eval x)).toList = parts.toList.map fun p => (p.1, a.eval p.2) := by simp
  have hz0 := run_zeroValue (w := w) hj hz;unfold execOp;simp only [Instr.buildSlice, underlying, sizeOf, typeInfo, Sem.run_bind, Sem.run_pure, Result.andThen_ok, run_program, hu, hj, hjs];by_cases h0 : len = 0
  . subst h0;have hp0 : parts.toList = [] := List.eq_nil_of_length_eq_zero hpl;have hc0 : css = [] := List.eq_nil_of_length_eq_zero (by omega);simp only [Nat.zero_mul, show ¬ (0 > 2 ^ 24) by decide, if_true, if_false, Sem.run_bind, Sem.run_pure, Result.andThen_ok, hparts, hp0, List.map_nil, hc0];rw [Instr.fill];have e0 : Array.range 0 = #[] := by apply Array.ext'; simp
    simp only [e0, List.map_toArray, List.map_nil, List.flatten_nil];rfl
  have hne : ¬ len * t.size = 0 := fun h => by rcases Nat.mul_eq_zero.1 h with h | h <;> omega
  simp only [show ¬ (len * t.size > 2 ^ 24) by omega, hne, if_false, Sem.run_bind, Sem.run_pure, Result.andThen_ok, hz0, hparts];rw [List.nil_append, Array.toArray_toList] at hfill;rw [hfill, List.nil_append];rfl
 have hnone := H.fresh S.n (Nat.le_refl _);have hkeep : ∀ q, q < w.heap.size -> (w.alloc (.cells css.flatten.toArray e)).heap[q]? = w.heap[q]? := fun q hq => Below.heap_alloc w _ q hq;have hlen3 : (es.map fun g => g ()).length = len := by simp [hlen]
 have hcl3 : css.length = len := by omega
 have hml : css.length <= maxLen := by
  have : len * 1 <= len * t.size := Nat.mul_le_mul_left _ hs0;unfold maxLen;omega
 have hown := own_rows (base := rb f w0.heap.size) (heap_alloc_new w (.cells css.flatten.toArray e)) hcl (Nat.le_trans (rb_le _ _) H.from_.size) hml;rw [hcl3] at hown;have H2 := H.upd (w' := w.alloc (.cells css.flatten.toArray e)) (loc := S.n) (n := S.n + 1) (r := .row (some ⟨w.heap.size, 0, none⟩) len len) (e := .row f t e fun _ => es.map fun g => g ()) (H.from_.alloc _) (by simp) (fun q hq _ => hkeep q hq) (fun q hq2 => by
  have hq3 : some w.heap.size = some q := hq2;injection hq3 with hq3;subst hq3;exact .inr ⟨Nat.le_refl _, by simp⟩) hB (Nat.le_succ _) (Nat.lt_succ_self _) (.inl (ext_new hnone)) (.inl fun b hb => by rw [hnone] at hb; cases hb) (by
  refine ⟨some ⟨w.heap.size, 0, none⟩, len, css, by rw [hlen3]; exact updR_self _ _ _, hown, by rw [hlen3]; exact hcl3, fun k cs j y u r1 r2 r3 => ?_⟩
  . have hk := (List.getElem?_eq_some_iff.1 r1).1;have hke : es[k]? = some (es[k]'(by omega)) := List.getElem?_eq_getElem _;have r4 := (q3 k cs _ r1 hke).2;rw [show ((es.map fun g => g ()).getD k t.dflt) = (es[k]'(by omega)) () by simp [List.getD_eq_getElem?_getD, hke]] at r2;exact (r4.2 j y u r2 r3).mono (fun q _ hlt => hkeep q hlt) (ext_new hnone) (Nat.le_refl _) fun _ h => h)
 refine .inl ⟨_, _, hrun, _, _, H2.put hp (.own _ _ _ _ (updR_self _ _ _))⟩
theorem storeO_ok {C : Cx} (hty : TyOk P C.ty) (H : Sim w0 S0 N B S a w) {T : Nat} {i : TInf} {x y : Operand} {t : Tc} {loc off T' : Nat} {k : Unit -> Int} {fr f : Bool} {l : Unit -> List t.el} {e : Unit -> t.el} {cs : List AV} {ty : TypeId} {pos : String} {aft : Array Edge} {gd : Option (Nat × Bool)} (hi : alook C.ty T = some i) (hc : cellsOf (getO B S y) = some cs) (hx : getO B S x = .orp t loc k off) (he : lookE B S loc = some (.row fr t T' l)) (hl : cs.length = i.sz) (hfit : off + i.sz <= t.size) (h1 : cs.all AV.one = true) (hB : alook B.e loc = none) (hel : elOf t (.agg ((cellsAV fr t fun _ => (l ()).getD (k ()).toNat t.dflt).take off ++ cs ++ (cellsAV fr t fun _ => (l ()).getD (k ()).toNat t.dflt).drop (off + i.sz))) = some (f, e)) (hf : fr = true -> f = true) :
 OpM P ⟨none, .store T x y, ty, pos, aft, gd⟩ a w (Sim w0 S0 N B ⟨S.t, (loc, .row fr t T' fun _ => (l ()).set (k ()).toNat (e ())) :: S.e, S.n⟩) := by
 obtain ⟨ρ, ro, H⟩ := H;have hax := H.get x;rw [hx] at hax;obtain ⟨A, n, c, b, hA, rfl, hk0, hkn, hxe⟩ := hax.orp_;obtain ⟨A', c', css, hA', hown, hlen, hcell⟩ := H.en _ _ he;rw [hA] at hA';injection hA' with hA';injection hA' with e1 e2 e3;subst e1; subst e2; subst e3;obtain ⟨vs, hv, hE2⟩ := cellsOf_ok hc (H.get y);obtain ⟨j, hj, hjs, _⟩ := tyB_info (hty T i hi);have hvl : vs.length = i.sz := by rw [<- hE2.1]; exact hl
 obtain ⟨kk, hkk⟩ : ∃ kk : Nat, kk = (k ()).toNat := ⟨_, rfl⟩
 rw [<- hkk] at hxe hel ⊢;have hklt : kk < css.length := by omega
 obtain ⟨h63, h0⟩ | ⟨g, cap, cur, heq, hbase, hg, hnc, hcm, hcs, htake⟩ := hown.1.2
 . cases h63
 . simp only [Value.slice.injEq, Option.some.injEq, Addr.mk.injEq, and_true, true_and] at heq;obtain ⟨rfl, rfl⟩ := heq;have hflat := flat_len css hown.2;have hrowfit : kk * t.size + off + i.sz <= css.length * t.size := by
    have : (kk + 1) * t.size <= css.length * t.size := Nat.mul_le_mul_right _ hklt;rw [Nat.add_mul] at this;omega
   have hcapfit : css.length * t.size <= c * t.size := Nat.mul_le_mul_right _ hnc;have hrun := run_store_cells (P := P) (w := w) (T := T) (n := i.sz) (g := b) (off := kk * t.size + off) (t := T') (cur := cur) (v := a.eval y) (cs := vs) (by rw [hj]; simp [hjs]) (cells_toList hv) hvl hg (by omega) (all_one h1 hE2);generalize hcur' : (cur.toList.take (kk * t.size + off) ++ vs ++ cur.toList.drop (kk * t.size + off + i.sz)).toArray = cur' at hrun;have hexec : (execOp a.eval ⟨none, .store T x y, ty, pos, aft, gd⟩).run P w = .ok .skip (w.setRow b cur') := by
    unfold execOp;simp only [Instr.storeAt, Instr.sureAddr, hxe, Sem.run_bind, Sem.run_pure, Result.andThen_ok, hrun]
   have hln : loc < S.n := by
    rcases Nat.lt_or_ge loc S.n with h | h
    . exact h
    . have := H.fresh loc h; rw [hA] at this; cases this
   have hnb : ¬ ro b := (H.own loc _ b hA rfl).2.1;have hw : ∀ b', ro b' -> b' < w.heap.size -> (w.setRow b cur').heap[b']? = w.heap[b']? := fun b' hb' _ => setRow_other _ _ _ _ (fun e => hnb (e ▸ hb'));generalize hrow : (css[kk]).take off ++ vs ++ (css[kk]).drop (off + i.sz) = row' at *
   have hrl : (css[kk]).length = t.size := hown.2 _ (List.getElem_mem hklt);have hrl' : row'.length = t.size := by rw [<- hrow]; simp [hrl, hvl]; omega
   have hset : cur'.toList.take (css.length * t.size) = (css.set kk row').flatten := by
    have hsn := set_flatN css hown.2 kk off i.sz vs hklt hfit hvl;rw [hrow] at hsn;rw [<- hsn, <- hcur'];have hsplit : cur.toList = css.flatten ++ cur.toList.drop (css.length * t.size) := by
     rw [<- htake, List.take_append_drop]
    have e1 : (css.flatten ++ cur.toList.drop (css.length * t.size)).take (kk * t.size + off) = css.flatten.take (kk * t.size + off) := List.take_append_of_le_length (by omega);have e2 : (css.flatten ++ cur.toList.drop (css.length * t.size)).drop (kk * t.size + off + i.sz) = css.flatten.drop (kk * t.size + off + i.sz) ++ cur.toList.drop (css.length * t.size) := List.drop_append_of_le_length (by omega);rw [hsplit, e1, e2, <- List.append_assoc];exact List.take_left' (by simp only [List.length_append, List.length_take, List.length_drop, hflat, hvl]; omega)
   have hown2 : OwnS (w.setRow b cur') (rb fr w0.heap.size) T' t.size (some ⟨b, 0, none⟩) c (css.set kk row') := by
    refine ⟨⟨?_, .inr ⟨b, c, cur', by simp, hbase, setRow_heap w b _ _ T' _ hg, by simpa using hnc, hcm, ?_, ?_⟩⟩, fun r hr => ?_⟩
    . rw [List.length_set];rw [flat_len (css.set kk row') (fun r hr => by
       rcases List.mem_or_eq_of_mem_set hr with h | h
       . exact hown.2 r h
       . rw [h]; exact hrl'), List.length_set]
    . rw [<- hcur'];simp [hvl];omega
    . rw [List.length_set]; exact hset
    . rcases List.mem_or_eq_of_mem_set hr with h | h
      . exact hown.2 r h
      . rw [h]; exact hrl'
   have hold : Each w ρ w0.heap.size ro (cellsAV fr t fun _ => (l ()).getD kk t.dflt) css[kk] := row_each hrl fun j y v q1 q2 => hcell _ _ j y v (List.getElem?_eq_getElem hklt) q1 q2;have hnew := (((hold.take off).append hE2).append (hold.drop (off + i.sz)))
   rw [hrow] at hnew;obtain ⟨us, hus, husl, hE3⟩ := elOf_ok hel (.agg _ _ hnew.1 hnew.2);have hus' : us = row' := by
    have : row'.toArray = us.toArray := hus;exact (List.toArray_inj this).symm
   subst hus';have H2 := H.upd (w' := w.setRow b cur') (loc := loc) (n := S.n) (r := .row (some ⟨b, 0, none⟩) (l ()).length c) (e := .row fr t T' fun _ => (l ()).set kk (e ())) (H.from_.grown (setRow_grown _ _ _) (H.mine hA rfl)) (by rw [setRow_size]; exact Nat.le_refl _) (fun b' hb' hne => setRow_other _ _ _ _ (fun e => hne _ hA (by rw [e]; rfl))) (fun b' hb' => .inl ⟨_, hA, hb'⟩) hB (Nat.le_refl _) hln (.inl (by rw [updR_same hA]; exact Ext.refl _)) (.inl fun q hq => by rw [hA] at hq; cases hq) (by
    refine ⟨some ⟨b, 0, none⟩, c, css.set kk us, by simp only [List.length_set]; exact updR_self _ _ _, hown2, by simp [hlen], fun k' cs' j y u q1 q2 q3 => ?_⟩;rw [updR_same hA];refine AVR.mono ?_ hw (Ext.refl _) (Nat.le_refl _) fun _ h => h;rw [List.getElem?_set] at q1;split at q1
    . rename_i hkk';subst hkk'
      first | rw [if_pos hklt] at q1 | skip
      injection q1 with q1;subst q1;rw [show ((l ()).set kk (e ())).getD kk t.dflt = e () by simp [List.getD_eq_getElem?_getD, List.getElem?_set_self (show kk < (l ()).length by omega)]] at q2;exact (each_less hE3 hf).2 j y u q2 q3
    . rename_i hne;rw [show ((l ()).set kk (e ())).getD k' t.dflt = (l ()).getD k' t.dflt by simp [List.getD_eq_getElem?_getD, List.getElem?_set_ne hne]] at q2;exact hcell k' cs' j y u q1 q2 q3)
   exact .inr (.inl ⟨_, hexec, _, _, H2⟩)
theorem memOp_ok {C : Cx} (hfx : S0.fx = C.fx) (hty : TyOk P C.ty) (H : Sim w0 S0 N B S a w) {o : Oper} {S' : Sx} {vcs : List VC} (h : memOp C N B S o = some (S', vcs)) (hv : ∀ c ∈ vcs, c ()) : OpM P o a w (Sim w0 S0 N B S') := by
 obtain ⟨dst, op, ty, pos, aft, gd⟩ := o;unfold memOp at h;dsimp only at h;split at h
 . rename_i T;split at h
   . rename_i i d hi;split at h
     . cases h
     . rename_i hc;simp only [Bool.or_eq_true, not_or, Bool.not_eq_true, Option.isSome_eq_false_iff, Option.isNone_iff_eq_none] at hc
       cases hp : putT B ⟨S.t, (S.n, .box T i.z) :: S.e, S.n + 1⟩ N d (.ptr S.n 0) with
       | none => rw [hp] at h; cases h
       | some S2 => rw [hp] at h; cases h; exact alloc_ok hty H hi hc.1 hc.2 hp
   . cases h
 . rename_i T x;split at h
   . rename_i cs d hcs;split at h
     . cases h
     . rename_i hc;simp only [Bool.not_eq_true, Option.isSome_eq_false_iff, Option.isNone_iff_eq_none] at hc
       cases hp : putT B ⟨S.t, (S.n, .box T cs) :: S.e, S.n + 1⟩ N d (.ptr S.n 0) with
       | none => rw [hp] at h; cases h
       | some S2 => rw [hp] at h; cases h; exact box_ok H hcs hc hp
   . cases h
 . rename_i T ad x;split at h
   . rename_i i cs loc off hi hcs hx;split at h
     . rename_i T' cells he;split at h
       . rename_i hc;simp only [Bool.and_eq_true, beq_iff_eq, decide_eq_true_eq, Option.isNone_iff_eq_none] at hc;cases h;exact storeB_ok hty H hi hcs hx he hc.1.1.1 hc.1.1.2 hc.1.2 hc.2
       . cases h
     . cases h
   . rename_i i cs t loc k off hi hcs hx;split at h
     . rename_i fr t' T' l he;split at h
       . rename_i ht;subst ht;split at h
         . rename_i hc;simp only [Bool.and_eq_true, beq_iff_eq, decide_eq_true_eq, Option.isNone_iff_eq_none] at hc;split at h
           . rename_i f e hel;split at h
             . rename_i hff;cases h;exact storeO_ok hty H hi hcs hx he hc.1.1.1 hc.1.1.2 hc.1.2 hc.2 hel (fun hfr => by rw [hfr] at hff; simpa using hff)
             . cases h
           . cases h
         . cases h
       . cases h
     . cases h
   . cases h
 . rename_i T len parts;split at h
   . rename_i e sz b d hT;split at h
     . rename_i t ht;split at h
       . rename_i xs hin;split at h
         . rename_i f es hes;split at h
           . rename_i hc;simp only [Bool.and_eq_true, beq_iff_eq, decide_eq_true_eq, Option.isNone_iff_eq_none] at hc
             cases hp : putT B ⟨S.t, (S.n, .row f t e fun _ => es.map fun g => g ()) :: S.e, S.n + 1⟩ N d (.own S.n) with
             | none => rw [hp] at h; cases h
             | some S2 => rw [hp] at h; cases h; exact slice_ok hty H hT hin hes hc.1.1.1 hc.1.1.2 hc.1.2 hc.2 hp
           . cases h
         . cases h
       . cases h
     . cases h
   . cases h
 . rename_i T l c;split at h
   . rename_i e sz b d hT;split at h
     . rename_i t ht;split at h
       . rename_i k0 kk k hl hk;split at h
         . rename_i hc;simp only [Bool.and_eq_true, beq_iff_eq, Option.isNone_iff_eq_none] at hc
           cases hp : putT B ⟨S.t, (S.n, .row true t e fun _ => []) :: S.e, S.n + 1⟩ N d (.own S.n) with
           | none => rw [hp] at h; cases h
           | some S2 => rw [hp] at h; cases h; exact make0_ok hty H hT hl hk hc.1 hc.2 hp (hv _ (.head _))
         . cases h
       . rename_i k0 n kk k hl hk;split at h
         . rename_i ie hie;split at h
           . rename_i f x hel;split at h
             . rename_i hc;simp only [Bool.and_eq_true, beq_iff_eq, Option.isNone_iff_eq_none, Bool.not_eq_true'] at hc
               cases hp : putT B ⟨S.t, (S.n, .row f t e fun _ => List.replicate (n ()).toNat (x ())) :: S.e, S.n + 1⟩ N d (.own S.n) with
               | none => rw [hp] at h; cases h
               | some S2 => rw [hp] at h; cases h; exact makeF_ok hty H hT hl hk hie hel hc.2 hc.1.1 hc.1.2 hp (hv _ (.head _))
             . cases h
           . cases h
         . cases h
       . cases h
     . cases h
   . cases h
 . rename_i T;split at h
   . rename_i kt et c t ag d hT;split at h
     . cases h
     . rename_i hc;simp only [Bool.not_eq_true, Option.isSome_eq_false_iff, Option.isNone_iff_eq_none] at hc
       cases hp : putT B ⟨S.t, (S.n, .map true ag c t T fun _ _ => none) :: S.e, S.n + 1⟩ N d (.mp S.n) with
       | none => rw [hp] at h; cases h
       | some S2 => rw [hp] at h; cases h; exact makeMap_ok H hc hp
   . cases h
 . rename_i T x i v;split at h
   . rename_i kt et c t ag loc hT hx;split at h
     . rename_i fr ag' c' t' T' m k he hk;split at h
       . rename_i hc;obtain ⟨rfl, rfl, rfl⟩ := hc;split at h
         . rename_i f e hel;split at h
           . rename_i hb;simp only [Bool.and_eq_true, Option.isNone_iff_eq_none] at hb;cases h;exact mapUpdate_ok hty H hT hx he hk hel hb.1 hb.2
           . cases h
         . cases h
       . cases h
     . cases h
   . cases h
 . rename_i T x i;split at h
   . rename_i kt et c t ag loc d hT hx;split at h
     . rename_i fr ag' c' t' T' m k he hk;split at h
       . rename_i hc;obtain ⟨rfl, rfl, rfl⟩ := hc;split at h
         . rename_i hb;simp only [Bool.and_eq_true, Option.isNone_iff_eq_none] at hb
           cases hp : putT B ⟨S.t, (S.n, .stamp loc c' k) :: (loc, .map fr ag' c' t' T' fun _ => setM (m ()) (k ()) ((m () (k ())).getD t'.dflt)) :: dropRef loc S.e, S.n + 1⟩ N d (.tup [elAV ag' fr t' fun _ => (m () (k ())).getD t'.dflt, .stamp S.n]) with
           | none => rw [hp] at h; cases h
           | some S2 => rw [hp] at h; cases h; exact mapEntry_ok hty H hT hx he hk hb.1.1 hb.1.2 hb.2 hp
         . cases h
       . cases h
     . cases h
   . cases h
 . rename_i T x s v;split at h
   . rename_i loc l2 hx hs;split at h
     . rename_i fr ag c t T' m ml c' key he he2;split at h
       . rename_i hc;obtain ⟨rfl, rfl⟩ := hc;split at h
         . rename_i f e hel;split at h
           . rename_i hb;simp only [Bool.and_eq_true, Option.isNone_iff_eq_none] at hb;cases h;exact entryStore_ok H hx hs he he2 hel hb.1 hb.2
           . cases h
         . cases h
       . cases h
     . cases h
   . cases h
 . rename_i c;obtain ⟨callee, cargs, cts⟩ := c;dsimp only at h;split at h
   . rename_i s x T T2 d hargs hts;have ha : cargs = #[s, x] := by simpa using congrArg List.toArray hargs
     have ht : cts = #[T, T2] := by simpa using congrArg List.toArray hts
     subst ha; subst ht;split at h
     . rename_i hTT;have hTT' := eq_of_beq hTT;subst hTT';split at h
       . rename_i e sz b hT;split at h
         . rename_i loc hs;split at h
           . rename_i fr t e' l he;split at h
             . rename_i hc;simp only [Bool.and_eq_true, beq_iff_eq, Option.isNone_iff_eq_none] at hc;obtain ⟨⟨⟨⟨rfl, hsz⟩, hB⟩, hq⟩, hf0⟩ := hc;split at h
               . rename_i f m hn;split at h
                 . cases h
                 . cases hp : putT B ⟨(kill loc S).t, (loc, .row (fr && f) t e' fun _ => l () ++ m ()) :: (kill loc S).e, S.n⟩ N d (.own loc) with
                   | none => rw [hp] at h; cases h
                   | some S2 => rw [hp] at h; cases h; exact append_ok hty H hT hs he hsz hB hq hn hp (hv _ (.head _)) (by rw [hfx]; simpa using hf0)
               . cases h
             . cases h
           . cases h
         . rename_i hs;split at h
           . rename_i t ht;split at h
             . rename_i hc;simp only [Bool.and_eq_true, beq_iff_eq, Option.isNone_iff_eq_none] at hc;split at h
               . rename_i f m hn
                 cases hp : putT B ⟨S.t, (S.n, .row f t e m) :: S.e, S.n + 1⟩ N d (.own S.n) with
                 | none => rw [hp] at h; cases h
                 | some S2 => rw [hp] at h; cases h; exact append0_ok hty H hT hs hc.1 hc.2 hn hp (hv _ (.head _))
               . cases h
             . cases h
           . cases h
         . cases h
       . cases h
     . cases h
   . cases h
 . cases h
structure CxOk (P : Program) (C : Cx) (S0 : Pm) : Prop where
 cs : ∀ c ∈ C.cs, ConOk P c
 fs : ∀ c ∈ C.fs, FonOk P c
 fx : S0.fx = C.fx
 pl : ∀ l r, S0.pl l = some r -> l < C.nb
theorem findFon_ok {cs : List Fon} {f : FuncId} {c : Fon} (hcs : ∀ c ∈ cs, FonOk P c) (h : findFon cs f = some c) : FonOk P c /\ c.f = f := by
 induction cs with
 | nil => cases h
 | cons c' cs ih =>
  unfold findFon at h;split at h
  . rename_i hf;injection h with h;subst h;exact ⟨hcs _ (.head _), eq_of_beq hf⟩
  . exact ih (fun c hc => hcs c (.tail _ hc)) h
theorem callOp_ok {C : Cx} (hcs : CxOk P C S0) (H : Sim w0 S0 N B S a w) {o : Oper} {S' : Sx} {vcs : List VC} (h : callOp C N B S o = some (S', vcs)) (hv : ∀ c ∈ vcs, c ()) : OpM P o a w (Sim w0 S0 N B S') := by
 obtain ⟨dst, op, ty, pos, aft, gd⟩ := o;unfold callOp at h;dsimp only at h;split at h
 . rename_i c;obtain ⟨callee, cargs, cts⟩ := c;dsimp only at h;split at h
   . rename_i f;split at h
     . rename_i fo hfo;split at h
       . rename_i avs st havs;split at h
         . rename_i res hres;split at h
           . rename_i hc;simp only [Bool.and_eq_true, beq_iff_eq] at hc;obtain ⟨⟨⟨⟨hlen, hfree⟩, hall⟩, hnew⟩, hfix⟩ := hc;have hfix' : S0.fx = true -> fo.fix = true := fun h => by rw [hcs.fx] at h; simpa [h] using hfix
             obtain ⟨hok, rfl⟩ := findFon_ok hcs.fs hfo;obtain ⟨ρ, ro, H⟩ := H;split at h
             . rename_i d
               cases hp : putT B ⟨(forget fo.fix st.locs S).t, renE (renN st.locs S.n) res.es ++ (forget fo.fix st.locs S).e, S.n + (maxK fo.n (keysOf res.es) - fo.n)⟩ N d (AV.ren (renN st.locs S.n) res.av) with
               | none => rw [hp] at h; cases h
               | some S2 =>
                rw [hp] at h;cases h;have hpre := hv _ (.head _);have hE : Each w ρ w0.heap.size ro (cargs.toList.map (getO B S)) (cargs.toList.map a.eval) := each_map fun x _ => H.get x;obtain ⟨hcop, hargs⟩ := coercePs_ok (fun l e he => H.en l e he) _ _ _ _ _ _ havs hE;have hnd := hcop.nodup List.nodup_nil;have hsome : ∀ l ∈ st.locs, ∃ r, ρ l = some r := fun l hl => (hcop.some_ l hl).resolve_left (by simp);have hcall := hok.2 avs st.es res hres w (ρL ρ st.locs) ro (cargs.toList.map a.eval) H.roB (hargs st.locs ⟨[], by simp⟩) (fun l e he => (hcop.en st.locs ⟨[], by simp⟩ l e he).resolve_left (by simp [alook])) (fun l l' r r' b hne h1 h2 h3 h4 => by
                 obtain ⟨x, hx, hxr⟩ := ρL_from h1;obtain ⟨y, hy, hyr⟩ := ρL_from h2;refine H.apart x y r r' b (fun e => hne ?_) hxr hyr h3 h4;subst e;exact (List.getElem?_inj (List.getElem?_eq_some_iff.1 hx).1 hnd).1 (hx.trans hy.symm)) (fun l hl => by unfold ρL; rw [List.getElem?_eq_none (by omega)]) (fun l r b h1 h2 => by
                 obtain ⟨x, hx, hxr⟩ := ρL_from h1;have := H.own x r b hxr h2;exact ⟨this.1, this.2.1⟩) hpre
                have hrun : (execOp a.eval ⟨some d, .call { callee := .value (.func fo.f), args := cargs, argTypes := cts }, ty, pos, aft, gd⟩).run P w = .ok (.enter fo.f (cargs.toList.map a.eval).toArray) w := by
                 have := ok_callC (P := P) (r := a.eval) (d := some d) (ty := ty) (pos := pos) (aft := aft) (gd := gd) (w := w) (c := .func fo.f) (xs := cargs) (ts := cts) (vs := []) (F := fo.f) rfl hok.1;simpa using this
                refine .inr (.inr ⟨_, _, hrun, hcall.mono fun e w' hq => ?_⟩);obtain ⟨v, ρ1, ra1, rfl, hL, hr⟩ := hq;obtain ⟨ρ', H2, hre⟩ := H.called hlen hnd hsome hfree hall hnew hfix' hL;exact ⟨v, rfl, ρ', _, H2.put hp ((hr.ren hre).mono (fun _ _ _ => rfl) (Ext.refl _) H.from_.size fun b hb => .inr hb)⟩
             . cases h
           . cases h
         . cases h
       . cases h
     . cases h
   . cases h
 . cases h
theorem stepOp_ok {C : Cx} (hty : TyOk P C.ty) (hcs : CxOk P C S0) (H : Sim w0 S0 N B S a w) {o : Oper} {S' : Sx} {vcs : List VC} (h : stepOp C N B S o = some (S', vcs)) (hv : ∀ c ∈ vcs, c ()) : OpM P o a w (Sim w0 S0 N B S') := by
 unfold stepOp at h;split at h
 . rename_i av vcs' hpo;obtain ⟨ρ, ro, H⟩ := H;obtain ⟨dst, op, ty, pos, aft, gd⟩ := o;have hvcs : vcs = vcs' := by
    split at h
    . rename_i d hd
      cases hp : putT B S N d av with
      | none => rw [hp] at h; cases h
      | some S2 => rw [hp] at h; cases h; rfl
    . cases h; rfl
   subst hvcs;have h1 := pureOp_ok (d := dst) (ty := ty) (pos := pos) (aft := aft) (gd := gd) (r := a.eval) hty hcs.cs (fun l e he => H.en l e he) (fun x _ => H.get x) H.roB H.from_.size hpo hv;have hfin : ∀ v w', From w w' -> AVR w' ρ w0.heap.size (fun b => ro b \/ w.heap.size <= b) av v -> Sim w0 S0 N B S' (a.put dst v) w' := by
    intro v w' hb hav;have H2 := H.calm hb
    cases dst with
    | some d =>
     dsimp only at h
     cases hp : putT B S N d av with
     | none => rw [hp] at h; cases h
     | some S2 => rw [hp] at h; cases h; exact ⟨_, _, H2.put hp hav.calm⟩
    | none =>
     cases h;exact ⟨_, _, H2⟩
   rcases h1 with ⟨v, w', h2, h3, h4⟩ | ⟨f, args, h2, h3⟩
   . exact .inl ⟨v, w', h2, hfin v w' h3 h4⟩
   . exact .inr (.inr ⟨f, args, h2, h3.mono fun e w' ⟨v, q1, q2, q3⟩ => ⟨v, q1, hfin v w' q2 q3⟩⟩)
 . split at h
   . rename_i r hm;cases h;have H1 : Sim w0 S0 N B (cond C.fx S (preS B S o.op)) a w := by
      cases hc : C.fx with
      | true => exact H
      | false => exact preS_ok (by rw [hcs.fx, hc]) H _
     exact memOp_ok hcs.fx hty H1 hm hv
   . exact callOp_ok hcs H h hv
theorem undef_ok : AVR w ρ base ro (.tup []) undef := .tup [] [] rfl fun j x v h => by simp at h
theorem skipOp_ok (H : Sim w0 S0 N B S a w) {o : Oper} {S' : Sx} (h : skipOp N B S o = some S') : Sim w0 S0 N B S' (a.put o.dst undef) w := by
 obtain ⟨ρ, ro, H⟩ := H;unfold skipOp at h;split at h
 . rename_i d hd;rw [hd];exact ⟨_, _, H.put h undef_ok⟩
 . rename_i hd;rw [hd];cases h;exact ⟨_, _, H⟩
theorem splitOp_ok {C : Cx} (hty : TyOk P C.ty) (H : Sim w0 S0 N B S a w) {o : Oper} {f : (Sx -> Fm) -> Fm} {K : Sx -> Fm} (h : splitOp C N B S o = some f) (hK : (f K).P) : OpM P o a w fun a' w' => ∃ S', Sim w0 S0 N B S' a' w' /\ (K S').P := by
 obtain ⟨dst, op, ty, pos, aft, gd⟩ := o;unfold splitOp at h;dsimp only at h;split at h
 . rename_i T x;split at h
   . rename_i kt et c t ag loc d hT hx;split at h
     . rename_i fr ag' c' t' T' m he;split at h
       . rename_i S' hb hp;cases h;simp only [Option.isNone_iff_eq_none] at hb;exact range_ok hty H hT hx he hb hp hK
       . cases h
     . cases h
   . cases h
 . rename_i x;split at h
   . rename_i loc l2 d hx;split at h
     . rename_i fr ag c t T m ml c' seen left he hi;split at h
       . rename_i hc;obtain ⟨rfl, rfl, hb⟩ := hc;simp only [Option.isNone_iff_eq_none] at hb;split at h
         . rename_i S1 S2 hp1 hp2;cases h;exact next_ok H hx he hi hb hp1 hp2 hK
         . cases h
       . cases h
     . cases h
   . cases h
 . cases h
end
end Go.Proofs.YtfdjcakgolenbaaGreat
