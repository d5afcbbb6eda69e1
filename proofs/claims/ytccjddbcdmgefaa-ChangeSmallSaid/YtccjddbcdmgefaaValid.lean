/-
  box.Valid tells the first box that is not right.
-/
import Derived.Test.YtccjddbcdmgefaaBox
import Derived.Maps.OwnSet
namespace Go.Proofs.Ytccjddbcdmgefaa
open Go.RowKit Go.WideMaps Go.Maps

def seenN (l : List Box) (k : Nat) (s : ByteArray) : Bool := (l.take k).any (fun b => !decide (b.num = noNum) && decide (b.num = s))
def lastId (l : List Box) (k : Nat) : Int := if k = 0 then 0 else (l[k - 1]?.map Box.id).getD 0
def boxBad (l : List Box) (k : Nat) : Bool :=
  match l[k]? with
  | some b => seenN l k b.num || decide (b.id ≤ lastId l k) || !boxB b
  | none => false
def boxValid (l : List Box) : Int × Int :=
  if l.length > 2000 then (-1, 5) else
  match (List.range l.length).find? (boxBad l) with
  | some k => (k, 60)
  | none => (-1, 0)

theorem boxValid_found {l : List Box} {k : Nat} (hl : l.length ≤ 2000) (hk : k < l.length) (hj : ∀ j, j < k → boxBad l j = false) (h : boxBad l k = true) : boxValid l = ((k : Int), 60) := by
  have : (List.range l.length).find? (boxBad l) = some k := by
    rw [List.find?_range_eq_some]
    exact ⟨h, by simpa using hk, fun j hjk => by simp [hj j hjk]⟩
  unfold boxValid
  rw [if_neg (by omega), this]
theorem boxValid_none {l : List Box} (hl : l.length ≤ 2000) (hj : ∀ j, j < l.length → boxBad l j = false) : boxValid l = (-1, 0) := by
  have : (List.range l.length).find? (boxBad l) = none := by
    rw [List.find?_eq_none]
    intro x hx
    rw [hj x (by simpa using hx)]
    simp
  unfold boxValid
  rw [if_neg (by omega), this]

theorem seenN_zero (l : List Box) (s : ByteArray) : seenN l 0 s = false := by simp [seenN]
theorem seenN_succ (l : List Box) (k : Nat) (s : ByteArray) (hk : k < l.length) : seenN l (k + 1) s = (seenN l k s || (!decide (l[k].num = noNum) && decide (l[k].num = s))) := by
  unfold seenN
  rw [List.take_succ_eq_append_getElem hk, List.any_append]
  simp only [List.any_cons, List.any_nil, Bool.or_false]
theorem lastId_succ (l : List Box) (k : Nat) (hk : k < l.length) : lastId l (k + 1) = l[k].id := by
  unfold lastId
  simp [hk]
theorem lastId_zero (l : List Box) : lastId l 0 = 0 := by simp [lastId]

theorem mapLaw : Keyed Try.prog 9 := string_keyed Try.underlying9
theorem zeroI (w : World) : (zeroValue 3).run Try.prog w = .ok (.int .i64 0) w := by kernel_rfl

theorem ownsMap_below {H : Type} {P : Program} {k : TypeId} {R : Value → Option (DataW H × List MemPlace)} {b n : Nat} {D : DataW H} {w w' : World} (h : w.ownsMap P k R b n D) (hb : Below w.heap.size w w') : w'.ownsMap P k R b n D := by
  have hlt := h.lt
  obtain ⟨es, clock, h1, F, r⟩ := h
  exact ⟨es, clock, (hb.block _ hlt).trans h1, F, r⟩

/-- the map holds the numbers of the first boxes -/
def Seen (w : World) (g n : Nat) (p : ByteArray → Bool) : Prop :=
  ∃ D : DataW Unit, w.ownsMap Try.prog 9 (plainElem Try.prog 3) g n D ∧ ∀ s : ByteArray, Maps.has D (.string s.data.toList) = p s


theorem lit_eq (s t : ByteArray) : (Lit.string s.data.toList = Lit.string t.data.toList) ↔ s = t := by
  constructor
  · intro h
    injection h with h
    have : s.data = t.data := Array.ext' h
    cases s
    cases t
    simp_all
  · rintro rfl
    rfl

theorem seen_put {w : World} {g n : Nat} {p q : ByteArray → Bool} {D : DataW Unit} {s : ByteArray} {d : DataW Unit} (h : w.ownsMap Try.prog 9 (plainElem Try.prog 3) g n (D.put (.string s.data.toList) d)) (hi : IsMap D) (hp : ∀ s : ByteArray, Maps.has D (.string s.data.toList) = p s)
    (hq : ∀ t, q t = (p t || decide (s = t))) : Seen w g n q := by
  refine ⟨_, h, fun t => ?_⟩
  rw [hq t]
  by_cases e : s = t
  · subst e
    rw [has_put_same hi (show WideAt.IsKeyLit (.string _) from trivial)]
    simp
  · rw [has_put_other (fun h => e ((lit_eq _ _).1 h).symm), hp]
    simp [e]

theorem Seen.below {w w' : World} {g n : Nat} {p : ByteArray → Bool} (h : Seen w g n p) (hb : Below w.heap.size w w') : Seen w' g n p := by
  obtain ⟨D, h1, h2⟩ := h
  exact ⟨D, ownsMap_below h1 hb, h2⟩
theorem Seen.mono {w : World} {g n m : Nat} {p : ByteArray → Bool} (h : Seen w g n p) (hm : n ≤ m) : Seen w g m p := by
  obtain ⟨D, h1, h2⟩ := h
  exact ⟨D, h1.mono hm, h2⟩
theorem Seen.congr {w : World} {g n : Nat} {p q : ByteArray → Bool} (h : Seen w g n p) (hq : ∀ s, q s = p s) : Seen w g n q := by
  obtain ⟨D, h1, h2⟩ := h
  exact ⟨D, h1, fun s => by rw [h2, hq]⟩

abbrev boxA (b : Box) (w : World) : World := w.alloc (Obj.cells #[.int .i64 b.id, .string b.num, .int .u8 b.size, .bool b.high, .int .i64 b.kilos, .int .i64 b.load, .int .i64 b.dis, .int .u8 b.cls, .bool b.reefer] 73)
theorem boxA_cells {b : Box} {w w2 : World} (h : From (boxA b w) w2) : w2.cell? ⟨w.heap.size, 0, none⟩ = some (.int .i64 b.id) ∧ w2.cell? ⟨w.heap.size, 1, none⟩ = some (.string b.num) := by
  have k0 := heap_alloc_new w (Obj.cells #[.int .i64 b.id, .string b.num, .int .u8 b.size, .bool b.high, .int .i64 b.kilos, .int .i64 b.load, .int .i64 b.dis, .int .u8 b.cls, .bool b.reefer] 73)
  have hlt : w.heap.size < (boxA b w).heap.size := by simp
  exact ⟨by rw [cell_of_row w2 w.heap.size 0 _ _ _ ((h.block _ hlt).trans k0)]; rfl, by rw [cell_of_row w2 w.heap.size 1 _ _ _ ((h.block _ hlt).trans k0)]; rfl⟩

set_option maxRecDepth 100000 in
set_option maxHeartbeats 4000000 in
theorem box_valid (A : Option Addr) (c : Nat) (l : List Box) (n : Nat) (hn : n = l.length) (w : World) (hA : Rd w w.heap.size 9 A (l.map Box.cells)) (hl : l.length ≤ 1000000000000) (hnum : ∀ b ∈ l, b.num.size ≤ 140737488351232) :
    Calls Try.prog 64 #[.slice A n c] w fun e w' => e = .returned (.tuple #[.int .i64 (boxValid l).1, .int .i64 (boxValid l).2]) ∧ Below w.heap.size w w' := by
  subst hn
  by_cases hmany : l.length > 2000
  · have HV : Hid (boxValid l = (-1, 5)) := by unfold Hid boxValid; rw [if_pos hmany]
    go_enter Try.func64, Try.ntmps64
    go_wp2
    go_ret2
    exact ⟨by rw [HV.out]; rfl, Below.refl _ _⟩
  · have hmm := @run_makeMap Try.prog
    go_enter Try.func64, Try.ntmps64
    go_wp2
    go_loopw [5, 16] (fun la i wr => ∃ k : Nat, k ≤ l.length ∧ i = .int .i64 k ∧ la = .int .i64 (lastId l k) ∧ (∀ j, j < k → boxBad l j = false) ∧ Seen wr w.heap.size k (seenN l k) ∧ Below w.heap.size w wr) (fun _ i _ => l.length - (intOf i).toNat)
    case atStart => exact ⟨0, by omega, rfl, rfl, by omega, ⟨.map [], World.ownsMap_made _ _ _ _, fun s => by rw [seenN_zero]; rfl⟩, (Below.refl _ _).alloc (Nat.le_refl _) _⟩
    case round =>
      obtain ⟨k, hk, rfl, rfl, hj, ⟨D, hown, hhas⟩, hb⟩ := hrel
      have HJ := Lib.hid hj
      clear hj
      by_cases hlt : k < l.length
      · obtain ⟨bb, off, rfl, hb1, hld⟩ := Box.ld hA (map_get Box.cells l k hlt)
        obtain ⟨x, hx⟩ : ∃ x, x = l[k] := ⟨_, rfl⟩
        have hbad : boxBad l k = (seenN l k x.num || decide (x.id ≤ lastId l k) || !boxB x) := by
          unfold boxBad
          rw [List.getElem?_eq_getElem hlt, hx]
        have hxn : x.num.size ≤ 140737488351232 := by rw [hx]; exact hnum _ (List.getElem_mem hlt)
        have hls : lastId l (k + 1) = x.id := by rw [lastId_succ l k hlt, hx]
        have hss : ∀ s, seenN l (k + 1) s = (seenN l k s || (!decide (x.num = noNum) && decide (x.num = s))) := fun s => by rw [seenN_succ l k s hlt, hx]
        rw [← hx] at hld
        have HX := Lib.hid hx
        have hkey : keyOf Try.prog 9 (.string x.num) = some (.string x.num.data.toList) := keyOf_string_mk Try.underlying9 (by unfold maxLen; omega)
        have hh := hhas x.num
        have HL := Lib.hid hld
        have HBAD := Lib.hid hbad
        have HLS := Lib.hid hls
        have HSS := Lib.hid hss
        have HHAS := Lib.hid hhas
        clear hld hx hbad hls hss hhas
        have hbx : Below w.heap.size w (boxA x wr) := hb.alloc hb.size _
        have CX : Hid (∀ w2, From (boxA x wr) w2 → w2.cell? ⟨wr.heap.size, 0, none⟩ = some (.int .i64 x.id) ∧ w2.cell? ⟨wr.heap.size, 1, none⟩ = some (.string x.num)) := fun w2 h2 => boxA_cells h2
        have hownx : (boxA x wr).ownsMap Try.prog 9 (plainElem Try.prog 3) w.heap.size k D := hown.alloc _
        cases hs : seenN l k x.num with
        | true =>
          rw [hs] at hh
          have hV := boxValid_found (by omega) hlt HJ.out (by rw [HBAD.out, hs]; rfl)
          have HV := Lib.hid hV
          clear hV hs
          go_wp2_with (first
            | (refine wpList_ld rfl 73 _ rfl _ rfl _ (HL.out _ hb) ?_)
            | (at_lookup; refine wpList_lookup_own_ok_int _ rfl _ _ 108 rfl 9 3 .i64 mapLaw Try.underlying108 Try.underlying3 (zeroI _) w.heap.size k D rfl hownx _ _ rfl hkey ?_; intro c hat hwc))
          go_ret2
          exact ⟨by rw [HV.out]; rfl, hbx⟩
        | false =>
          rw [hs] at hh
          have HS := Lib.hid hs
          clear hs
          by_cases hle : x.id ≤ lastId l k
          · have hV := boxValid_found (by omega) hlt HJ.out (by rw [HBAD.out]; simp [hle])
            have HV := Lib.hid hV
            clear hV
            go_wp2_with (first
            | (refine wpList_ld rfl 73 _ rfl _ rfl _ (HL.out _ hb) ?_)
            | (at_lookup; refine wpList_lookup_own_ok_int _ rfl _ _ 108 rfl 9 3 .i64 mapLaw Try.underlying108 Try.underlying3 (zeroI _) w.heap.size k D rfl hownx _ _ rfl hkey ?_; intro c hat hwc))
            go_ret2
            exact ⟨by rw [HV.out]; rfl, hbx⟩
          · cases hB : boxB x with
            | false =>
              have hV := boxValid_found (by omega) hlt HJ.out (by rw [HBAD.out, hB]; simp)
              have HV := Lib.hid hV
              clear hV
              go_wp2_with (first
            | (refine wpList_ld rfl 73 _ rfl _ rfl _ (HL.out _ hb) ?_)
            | (at_lookup; refine wpList_lookup_own_ok_int _ rfl _ _ 108 rfl 9 3 .i64 mapLaw Try.underlying108 Try.underlying3 (zeroI _) w.heap.size k D rfl hownx _ _ rfl hkey ?_; intro c hat hwc)
            | (go_at_call 72; refine (box_right x _ hxn).mono ?_; rintro e w2 ⟨rfl, hb2⟩; have c01 := CX.out w2 hb2; obtain ⟨c0, c1⟩ := c01; have hown2 := ownsMap_below hownx hb2))
              go_ret2
              exact ⟨by rw [HV.out]; rfl, hbx.trans (hb2.mono hbx.size)⟩
            | true =>
              have hok : boxBad l k = false := by rw [HBAD.out, HS.out, hB]; simp [hle]
              have HOK := Lib.hid hok
              clear hok
              have HJ2 : Hid (∀ j, j < k + 1 → boxBad l j = false) := fun j h => by
                rcases Nat.lt_or_ge j k with h3 | h3
                · exact HJ.out j h3
                · obtain rfl : j = k := by omega
                  exact HOK.out
              by_cases hz : x.num = noNum
              · have hz3 : x.num.toList = [] := by rw [hz]; exact noNum_l
                have hz2 : x.num.toList.isEmpty = true := by simp [hz3]
                have HZ := Lib.hid hz
                clear hz
                go_wp2_with (first
            | (refine wpList_ld rfl 73 _ rfl _ rfl _ (HL.out _ hb) ?_)
            | (at_lookup; refine wpList_lookup_own_ok_int _ rfl _ _ 108 rfl 9 3 .i64 mapLaw Try.underlying108 Try.underlying3 (zeroI _) w.heap.size k D rfl hownx _ _ rfl hkey ?_; intro c hat hwc)
            | (go_at_call 72; refine (box_right x _ hxn).mono ?_; rintro e w2 ⟨rfl, hb2⟩; have c01 := CX.out w2 hb2; obtain ⟨c0, c1⟩ := c01; have hown2 := ownsMap_below hownx hb2))
                go_roundw
                case rel => exact ⟨k + 1, by omega, by go_num, by rw [HLS.out], HJ2.out, ⟨D, hown2.mono (by omega), fun s => by rw [HSS.out, HHAS.out, HZ.out]; simp⟩, hbx.trans (hb2.mono hbx.size)⟩
                case measure => simp [intOf]; omega
              · have hz3 : ¬ x.num.toList = [] := fun h => hz (toList_eq.mp (h.trans noNum_l.symm))
                have hz2 : x.num.toList.isEmpty = false := by simpa using hz3
                have HZ := Lib.hid hz
                clear hz
                go_wp2_with (first
            | (refine wpList_ld rfl 73 _ rfl _ rfl _ (HL.out _ hb) ?_)
            | (at_lookup; refine wpList_lookup_own_ok_int _ rfl _ _ 108 rfl 9 3 .i64 mapLaw Try.underlying108 Try.underlying3 (zeroI _) w.heap.size k D rfl hownx _ _ rfl hkey ?_; intro c hat hwc)
            | (go_at_call 72; refine (box_right x _ hxn).mono ?_; rintro e w2 ⟨rfl, hb2⟩; have c01 := CX.out w2 hb2; obtain ⟨c0, c1⟩ := c01; have hown2 := ownsMap_below hownx hb2)
            | (at_mapUpdate; refine wpList_mapUpdate_own _ rfl _ _ _ 108 rfl 9 3 mapLaw Try.underlying108 _ w.heap.size k _ rfl hown2 (by unfold maxLen; omega) _ _ _ rfl rfl hkey _ [] (plainElem_int Try.underlying3 (WalkArith.wf_i64 (by omega))) ?_; intro w3 hown3 hgrow3))
                go_roundw
                case rel => exact ⟨k + 1, by omega, by go_num, by rw [HLS.out], HJ2.out, seen_put hown3 hown2.isMap HHAS.out (fun t => by rw [HSS.out]; simp [HZ.out]), (hbx.trans (hb2.mono hbx.size)).grown hgrow3 (Nat.le_trans hbx.size hb2.size) (fun j hj => by cases hj; exact Nat.le_refl _)⟩
                case measure => simp [intOf]; omega
      · obtain rfl : k = l.length := by omega
        have HV := Lib.hid (boxValid_none (by omega) HJ.out)
        go_wp2
        go_ret2
        exact ⟨by rw [HV.out]; rfl, hb⟩
end Go.Proofs.Ytccjddbcdmgefaa
