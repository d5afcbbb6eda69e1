/-
  stow, box: Find, the height of a box, of what stands in a half of a column.
-/
import Derived.Test.YtfdjcakgolenbaaGreatMu32
import Derived.Test.YtfdjcakgolenbaaGreatMu33
import Derived.Maps.OwnSet
set_option linter.unusedVariables false
set_option linter.unusedSimpArgs false
namespace Go.Proofs.YtfdjcakgolenbaaGreat
open Go.RowKit
def box0 : Box := ⟨0, noNum, 0, false, 0, 0, 0, 0, false⟩
def isId (id : Int) (b : Box) : Bool := decide (b.id = id)
def findV (l : List Box) (id : Int) : Box × Bool := match l.find? (isId id) with | some b => (b, true) | none => (box0, false)
theorem box_size : (Tryz.prog.info? 44).map (·.size) = some 9 := by kernel_rfl
def BxPost (w : World) (r : Box × Bool) (e : Ending) (w' : World) : Prop := e = .returned (.tuple #[r.1.val, .bool r.2]) ∧ From w w'
set_option maxRecDepth 10000 in
theorem find1_stow (b : Box) (id : Int) (g : Nat) (w0 w : World) (hm : Mem w0 w [.box g 3 [.int .i64 id]]) : Calls Tryz.prog 46 #[b.val, .pointer (some ⟨g, 0, none⟩)] w fun e w' => e = .returned (.bool (isId id b)) ∧ From w w' := by
 have HM := Lib.hid (hm.alloc 44 b.cells)
 have HB : Hid (From w (w.alloc (.cells b.cells.toArray 44))) := (Below.refl _ _).alloc (Nat.le_refl _) _
 have HV : Hid ((b.id == id) = isId id b) := by unfold Hid isId; rw [Bool.eq_iff_iff]; simp
 clear hm
 obtain ⟨b0, b1, b2, b3, b4, b5, b6, b7, b8⟩ := b
 dsimp only at HV
 go_enter Tryz.func46, Tryz.ntmps46
 go_wp2_with (first
  | ((with_reducible refine g_ld 3 ?_); refine wpList_ld rfl _ _ rfl _ rfl _ (HM.out.ldc ct3 (i := 1) rfl rfl _ (Below.refl _ _)) ?_))
 go_ret
 exact ⟨by rw [← HV.out]; rfl, HB.out⟩
theorem cf46 (w : World) (args : Array Value) : (callFunc 46 args).run Tryz.prog w = .ok (.enter 46 args) w := by
 go_simp
set_option maxRecDepth 10000 in
set_option maxHeartbeats 1000000 in
theorem stow_Find (A : Option Addr) (c n : Nat) (l : List Box) (hn : n = l.length) (id : Int) (w : World) (hA : Rd w w.heap.size 9 A (l.map Box.cells)) (hl : l.length ≤ 1000000000000) :
 Calls Tryz.prog 17 #[.slice A n c, .int .i64 id] w (BxPost w (findV l id)) := by
 have HM0 := Lib.hid ((Mem.nil w).alloc2 3 [.int .i64 id] 44 box0.cells)
 have HI := Lib.hid (fun w1 (hm : Mem w w1 [.box (w.heap.size + 1) 44 box0.cells, .box w.heap.size 3 [.int .i64 id]]) => indexBox A c l n hn 46 #[.pointer (some ⟨w.heap.size, 0, none⟩)] (isId id) w1 (hA.from hm.from_) hl cf46 (fun x _ w' hb => find1_stow x id w.heap.size w w' (hm.tail.call hb)))
 have HR := Lib.hid hA
 have HN := Lib.hid hn
 have hl2 : n ≤ 1000000000000 := by omega
 rcases idx_cases (isId id) l with ⟨h1, h2⟩ | ⟨k, hk, h1, h2, h3⟩
 · have HE : Hid (findV l id = (box0, false)) := by
    unfold Hid findV
    rw [List.find?_eq_none.2 (fun x hx => by simp [h2 x hx])]
   rw [h1] at HI
   clear h1 h2 hA hn hl
   go_enter Tryz.func17, Tryz.ntmps17
   go_wp2_with (first
    | (go_at_call 45; go_loud (refine (HI.out _ HM0.out).mono ?_); rintro e w2 ⟨rfl, hb⟩; have HM1 := Lib.hid (HM0.out.call hb); clear hb)
    | ((with_reducible refine g_st 44 ?_); go_loud (refine wpList_stB (cs' := box0.cells) rfl _ _ rfl HM1.out 0 rfl rfl rfl box_size rfl (Box.len _) (Box.len _) (Box.one _) ?_); intro w6 h6))
   refine bodyPost_ret (results_box2 rfl _ rfl (h6.ldb Box.row (Box.len _) (i := 0) rfl _ (Below.refl _ _))) rfl ⟨?_, h6.from_⟩
   rw [HE.out]
   rfl
 · obtain ⟨b, hb⟩ : ∃ b, b = l[k] := ⟨_, rfl⟩
   have HE : Hid (findV l id = (b, true)) := by
    unfold Hid findV
    rw [h3, hb]
   obtain ⟨g, off, rfl⟩ := Rd.addr hA (by rw [List.length_map]; omega)
   have HLD := Lib.hid (fun w1 (hf : From w w1) => Rd.row (P := Tryz.prog) HR.out hf Box.row (k := k) (cs := b.cells) (by rw [hb]; exact map_get2 Box.cells l k hk) (p := off + k * 9) rfl)
   have hkn : (k : Int) < (n : Int) := by omega
   have hk0 : ¬ (k : Int) < 0 := by omega
   rw [h1] at HI
   clear h1 h2 h3 hA hn hl hk hb
   go_enter Tryz.func17, Tryz.ntmps17
   go_wp2_with (first
    | (go_at_call 45; go_loud (refine (HI.out _ HM0.out).mono ?_); rintro e w2 ⟨rfl, hb⟩; have HM1 := Lib.hid (HM0.out.call hb); clear hb)
    | ((with_reducible refine g_ld 44 ?_); go_loud (refine wpList_ld rfl _ _ rfl _ rfl _ (HLD.out _ HM1.out.from_) ?_))
    | ((with_reducible refine g_st 44 ?_); go_loud (refine wpList_stB (cs' := b.cells) rfl _ _ rfl HM1.out 0 rfl rfl rfl box_size rfl (Box.len _) (Box.len _) (Box.one _) ?_); intro w6 h6))
   refine bodyPost_ret (results_box2 rfl _ rfl (h6.ldb Box.row (Box.len _) (i := 0) rfl _ (Below.refl _ _))) rfl ⟨?_, h6.from_⟩
   rw [HE.out]
   rfl
set_option maxRecDepth 10000 in
theorem find1_box (b : Box) (id : Int) (g : Nat) (w0 w : World) (hm : Mem w0 w [.box g 3 [.int .i64 id]]) : Calls Tryz.prog 132 #[b.val, .pointer (some ⟨g, 0, none⟩)] w fun e w' => e = .returned (.bool (isId id b)) ∧ From w w' := by
 have HM := Lib.hid (hm.alloc 44 b.cells)
 have HB : Hid (From w (w.alloc (.cells b.cells.toArray 44))) := (Below.refl _ _).alloc (Nat.le_refl _) _
 have HV : Hid ((b.id == id) = isId id b) := by unfold Hid isId; rw [Bool.eq_iff_iff]; simp
 clear hm
 obtain ⟨b0, b1, b2, b3, b4, b5, b6, b7, b8⟩ := b
 dsimp only at HV
 go_enter Tryz.func132, Tryz.ntmps132
 go_wp2_with (first
  | ((with_reducible refine g_ld 3 ?_); refine wpList_ld rfl _ _ rfl _ rfl _ (HM.out.ldc ct3 (i := 1) rfl rfl _ (Below.refl _ _)) ?_))
 go_ret
 exact ⟨by rw [← HV.out]; rfl, HB.out⟩
theorem cf132 (w : World) (args : Array Value) : (callFunc 132 args).run Tryz.prog w = .ok (.enter 132 args) w := by
 go_simp
set_option maxRecDepth 10000 in
set_option maxHeartbeats 1000000 in
theorem box_Find (A : Option Addr) (c n : Nat) (l : List Box) (hn : n = l.length) (id : Int) (w : World) (hA : Rd w w.heap.size 9 A (l.map Box.cells)) (hl : l.length ≤ 1000000000000) :
 Calls Tryz.prog 88 #[.slice A n c, .int .i64 id] w (BxPost w (findV l id)) := by
 have HM0 := Lib.hid ((Mem.nil w).alloc2 3 [.int .i64 id] 44 box0.cells)
 have HI := Lib.hid (fun w1 (hm : Mem w w1 [.box (w.heap.size + 1) 44 box0.cells, .box w.heap.size 3 [.int .i64 id]]) => indexBox A c l n hn 132 #[.pointer (some ⟨w.heap.size, 0, none⟩)] (isId id) w1 (hA.from hm.from_) hl cf132 (fun x _ w' hb => find1_box x id w.heap.size w w' (hm.tail.call hb)))
 have HR := Lib.hid hA
 have HN := Lib.hid hn
 have hl2 : n ≤ 1000000000000 := by omega
 rcases idx_cases (isId id) l with ⟨h1, h2⟩ | ⟨k, hk, h1, h2, h3⟩
 · have HE : Hid (findV l id = (box0, false)) := by
    unfold Hid findV
    rw [List.find?_eq_none.2 (fun x hx => by simp [h2 x hx])]
   rw [h1] at HI
   clear h1 h2 hA hn hl
   go_enter Tryz.func88, Tryz.ntmps88
   go_wp2_with (first
    | (go_at_call 45; go_loud (refine (HI.out _ HM0.out).mono ?_); rintro e w2 ⟨rfl, hb⟩; have HM1 := Lib.hid (HM0.out.call hb); clear hb)
    | ((with_reducible refine g_st 44 ?_); go_loud (refine wpList_stB (cs' := box0.cells) rfl _ _ rfl HM1.out 0 rfl rfl rfl box_size rfl (Box.len _) (Box.len _) (Box.one _) ?_); intro w6 h6))
   refine bodyPost_ret (results_box2 rfl _ rfl (h6.ldb Box.row (Box.len _) (i := 0) rfl _ (Below.refl _ _))) rfl ⟨?_, h6.from_⟩
   rw [HE.out]
   rfl
 · obtain ⟨b, hb⟩ : ∃ b, b = l[k] := ⟨_, rfl⟩
   have HE : Hid (findV l id = (b, true)) := by
    unfold Hid findV
    rw [h3, hb]
   obtain ⟨g, off, rfl⟩ := Rd.addr hA (by rw [List.length_map]; omega)
   have HLD := Lib.hid (fun w1 (hf : From w w1) => Rd.row (P := Tryz.prog) HR.out hf Box.row (k := k) (cs := b.cells) (by rw [hb]; exact map_get2 Box.cells l k hk) (p := off + k * 9) rfl)
   have hkn : (k : Int) < (n : Int) := by omega
   have hk0 : ¬ (k : Int) < 0 := by omega
   rw [h1] at HI
   clear h1 h2 h3 hA hn hl hk hb
   go_enter Tryz.func88, Tryz.ntmps88
   go_wp2_with (first
    | (go_at_call 45; go_loud (refine (HI.out _ HM0.out).mono ?_); rintro e w2 ⟨rfl, hb⟩; have HM1 := Lib.hid (HM0.out.call hb); clear hb)
    | ((with_reducible refine g_ld 44 ?_); go_loud (refine wpList_ld rfl _ _ rfl _ rfl _ (HLD.out _ HM1.out.from_) ?_))
    | ((with_reducible refine g_st 44 ?_); go_loud (refine wpList_stB (cs' := b.cells) rfl _ _ rfl HM1.out 0 rfl rfl rfl box_size rfl (Box.len _) (Box.len _) (Box.one _) ?_); intro w6 h6))
   refine bodyPost_ret (results_box2 rfl _ rfl (h6.ldb Box.row (Box.len _) (i := 0) rfl _ (Below.refl _ _))) rfl ⟨?_, h6.from_⟩
   rw [HE.out]
   rfl
def tallB (b : Box) : Int := if b.high then 2896 else 2591
theorem stow_tall (b : Box) (w : World) : Calls Tryz.prog 186 #[b.val] w fun e w' => e = .returned (.int .i64 (tallB b)) ∧ From w w' := by
 have HB : Hid (From w (w.alloc (.cells b.cells.toArray 44))) := (Below.refl _ _).alloc (Nat.le_refl _) _
 obtain ⟨b0, b1, b2, b3, b4, b5, b6, b7, b8⟩ := b
 cases b3 <;>
 · go_enter Tryz.func186, Tryz.ntmps186
   go_wp2
   go_ret
   exact ⟨rfl, HB.out⟩
theorem box_Height (b : Box) (w : World) : Calls Tryz.prog 89 #[b.val] w fun e w' => e = .returned (.int .i64 (tallB b)) ∧ From w w' := by
 have HB : Hid (From w (w.alloc (.cells b.cells.toArray 44))) := (Below.refl _ _).alloc (Nat.le_refl _) _
 obtain ⟨b0, b1, b2, b3, b4, b5, b6, b7, b8⟩ := b
 cases b3 <;>
 · go_enter Tryz.func89, Tryz.ntmps89
   go_wp2
   go_ret
   exact ⟨rfl, HB.out⟩
def hAt (bs : List Box) (col half : Int) (x : Stowed) : Int := if x.col = col ∧ (x.half = half ∨ x.half = 0) then (if (findV bs x.box).2 then tallB (findV bs x.box).1 else 0) else 0
def heightF (bs : List Box) (l : List Stowed) (col half : Int) : Int := (l.map (hAt bs col half)).sum
theorem tallB_bound (b : Box) : 0 ≤ tallB b ∧ tallB b ≤ 2896 := by unfold tallB; split <;> omega
theorem hAt_bound (bs : List Box) (col half : Int) (x : Stowed) : 0 ≤ hAt bs col half x ∧ hAt bs col half x ≤ 2896 := by
 unfold hAt
 split
 · split
   · exact tallB_bound _
   · omega
 · omega
theorem sum_bound (f : Stowed → Int) (h : ∀ x, 0 ≤ f x ∧ f x ≤ 2896) (l : List Stowed) : 0 ≤ (l.map f).sum ∧ (l.map f).sum ≤ 2896 * (l.length : Int) := by
 induction l with
 | nil => simp
 | cons x l ih =>
  have := h x
  simp only [List.map_cons, List.sum_cons, List.length_cons]
  omega
set_option maxRecDepth 10000 in
set_option maxHeartbeats 2000000 in
theorem stow_Height (A D : Option Addr) (c d n m : Nat) (bs : List Box) (l : List Stowed) (hn : n = bs.length) (hm : m = l.length) (col half : Int) (w : World) (hA : Rd w w.heap.size 9 A (bs.map Box.cells)) (hD : Rd w w.heap.size 4 D (l.map Stowed.cells)) (hl : bs.length ≤ 1000000000000) (hl2 : l.length ≤ 1000000) :
 Calls Tryz.prog 158 #[.slice A n c, .slice D m d, .int .i64 col, .int .u8 half] w fun e w' => e = .returned (.int .i64 (heightF bs l col half)) ∧ From w w' := by
 have HFI := Lib.hid (fun id w1 (hb : From w w1) => stow_Find A c n bs hn id w1 (hA.from hb) hl)
 have HR := Lib.hid hD
 have HN := Lib.hid hm
 have hm6 : m ≤ 1000000 := by omega
 clear hA hn hl hD hm hl2
 go_enter Tryz.func158, Tryz.ntmps158
 go_wp2
 go_loopw [9, 16] (fun sv v wq => ∃ (k : Nat) (s : Int), k ≤ m ∧ v = .int .i64 (k : Int) ∧ sv = .int .i64 s ∧ s = ((l.take k).map (hAt bs col half)).sum ∧ From w wq) (fun _ v _ => m - (intOf v).toNat)
 case atStart => exact ⟨0, 0, Nat.zero_le _, rfl, rfl, rfl, Below.refl _ _⟩
 case round =>
  obtain ⟨k, s, hk, rfl, rfl, hs, hb⟩ := hrel
  have HS := Lib.hid hs
  have HB := Lib.hid hb
  have hsb := sum_bound _ (hAt_bound bs col half) (l.take k)
  rw [← hs, List.length_take] at hsb
  have hsb2 : 0 ≤ s ∧ s ≤ 2896 * (k : Int) := by
   have h1 : ((min k l.length : Nat) : Int) ≤ k := by omega
   omega
  clear hs hb hsb
  by_cases hkm : k = m
  · have hlt : ¬ (k : Int) < (m : Int) := by omega
    have HV : Hid (heightF bs l col half = s) := by
     unfold Hid heightF
     rw [HS.out, List.take_of_length_le (by have := HN.out; omega)]
    clear hkm hk hsb2
    go_wp2
    go_ret
    exact ⟨by rw [HV.out]; rfl, HB.out⟩
  · have hlt : (k : Int) < (m : Int) := by omega
    have hkl : k < l.length := by have := HN.out; omega
    obtain ⟨g, off, rfl⟩ := Rd.addr HR.out (by rw [List.length_map]; omega)
    obtain ⟨x, hx⟩ : ∃ x, x = l[k] := ⟨_, rfl⟩
    have HLD : Hid ((loadVar 42 ⟨g, off + k * 4, none⟩).run Tryz.prog wr = .ok x.val wr) := Rd.row (P := Tryz.prog) HR.out HB.out Stowed.row (k := k) (cs := x.cells) (by rw [hx]; exact map_get2 Stowed.cells l k hkl) (p := off + k * 4) rfl
    have HS2 : Hid (s + hAt bs col half x = ((l.take (k + 1)).map (hAt bs col half)).sum) := by
     unfold Hid
     rw [List.take_succ_eq_append_getElem hkl, List.map_append, List.sum_append, ← HS.out, ← hx]
     simp
    have HB2 : Hid (From w (wr.alloc (.cells x.cells.toArray 42))) := HB.out.alloc HB.out.size _
    obtain ⟨r, hr⟩ : ∃ r, r = findV bs x.box := ⟨_, rfl⟩
    have HF := Lib.hid (HFI.out x.box)
    rw [← hr] at HF
    obtain ⟨b, ok⟩ := r
    have HT := Lib.hid (stow_tall b)
    have hw1 : IntKind.i64.wrap (s + tallB b) = s + tallB b := by
     have := tallB_bound b
     exact wrap_i64 (by omega) (by omega)
    have HH : Hid (hAt bs col half x = if x.col = col ∧ (x.half = half ∨ x.half = 0) then (if ok then tallB b else 0) else 0) := by unfold Hid hAt; rw [← hr]
    clear hx hr HS HFI hkl
    obtain ⟨x1, x2, x3, x4⟩ := x
    dsimp only at HF HH
    by_cases h1 : x2 = col
    · subst h1
      have h1' : (x2 == x2) = true := by simp
      by_cases h2 : x4 = half
      · subst h2
        have h2' : (x4 == x4) = true := by simp
        cases ok with
        | false =>
         go_wp2_with (first
          | ((with_reducible refine g_ld 42 ?_); refine wpList_ld rfl _ _ rfl _ rfl _ HLD.out ?_)
          | (go_at_call 17; go_loud (refine (HF.out _ HB2.out).mono ?_); rintro e w3 ⟨rfl, hb⟩; have HB3 := Lib.hid ((HB2.out.trans (hb.mono HB2.out.size)).alloc (HB2.out.trans (hb.mono HB2.out.size)).size (.cells (Box.cells b).toArray 44)); clear hb)
          | (go_at_call 186; go_loud (refine (HT.out _).mono ?_); rintro e w4 ⟨rfl, hb⟩; have HB4 := Lib.hid (HB3.out.trans (hb.mono HB3.out.size)); clear hb))
         go_roundw
         case rel => exact ⟨k + 1, s, by omega, by go_num, rfl, by rw [← HS2.out, HH.out]; simp, HB3.out⟩
         case measure => simp [intOf]; omega
        | true =>
         go_wp2_with (first
          | ((with_reducible refine g_ld 42 ?_); refine wpList_ld rfl _ _ rfl _ rfl _ HLD.out ?_)
          | (go_at_call 17; go_loud (refine (HF.out _ HB2.out).mono ?_); rintro e w3 ⟨rfl, hb⟩; have HB3 := Lib.hid ((HB2.out.trans (hb.mono HB2.out.size)).alloc (HB2.out.trans (hb.mono HB2.out.size)).size (.cells (Box.cells b).toArray 44)); clear hb)
          | (go_at_call 186; go_loud (refine (HT.out _).mono ?_); rintro e w4 ⟨rfl, hb⟩; have HB4 := Lib.hid (HB3.out.trans (hb.mono HB3.out.size)); clear hb))
         go_roundw
         case rel => exact ⟨k + 1, s + tallB b, by omega, by go_num, rfl, by rw [← HS2.out, HH.out]; simp, HB4.out⟩
         case measure => simp [intOf]; omega
      · have h2' : (x4 == half) = false := by simpa using h2
        by_cases h3 : x4 = 0
        · subst h3
          have h3' : ((0 : Int) == 0) = true := rfl
          cases ok with
          | false =>
           go_wp2_with (first
            | ((with_reducible refine g_ld 42 ?_); refine wpList_ld rfl _ _ rfl _ rfl _ HLD.out ?_)
            | (go_at_call 17; go_loud (refine (HF.out _ HB2.out).mono ?_); rintro e w3 ⟨rfl, hb⟩; have HB3 := Lib.hid ((HB2.out.trans (hb.mono HB2.out.size)).alloc (HB2.out.trans (hb.mono HB2.out.size)).size (.cells (Box.cells b).toArray 44)); clear hb)
            | (go_at_call 186; go_loud (refine (HT.out _).mono ?_); rintro e w4 ⟨rfl, hb⟩; have HB4 := Lib.hid (HB3.out.trans (hb.mono HB3.out.size)); clear hb))
           go_roundw
           case rel => exact ⟨k + 1, s, by omega, by go_num, rfl, by rw [← HS2.out, HH.out]; simp, HB3.out⟩
           case measure => simp [intOf]; omega
          | true =>
           go_wp2_with (first
            | ((with_reducible refine g_ld 42 ?_); refine wpList_ld rfl _ _ rfl _ rfl _ HLD.out ?_)
            | (go_at_call 17; go_loud (refine (HF.out _ HB2.out).mono ?_); rintro e w3 ⟨rfl, hb⟩; have HB3 := Lib.hid ((HB2.out.trans (hb.mono HB2.out.size)).alloc (HB2.out.trans (hb.mono HB2.out.size)).size (.cells (Box.cells b).toArray 44)); clear hb)
            | (go_at_call 186; go_loud (refine (HT.out _).mono ?_); rintro e w4 ⟨rfl, hb⟩; have HB4 := Lib.hid (HB3.out.trans (hb.mono HB3.out.size)); clear hb))
           go_roundw
           case rel => exact ⟨k + 1, s + tallB b, by omega, by go_num, rfl, by rw [← HS2.out, HH.out]; simp, HB4.out⟩
           case measure => simp [intOf]; omega
        · have h3' : (x4 == 0) = false := by simpa using h3
          go_wp2_with (first
           | ((with_reducible refine g_ld 42 ?_); refine wpList_ld rfl _ _ rfl _ rfl _ HLD.out ?_)
           | (go_at_call 17; go_loud (refine (HF.out _ HB2.out).mono ?_); rintro e w3 ⟨rfl, hb⟩; have HB3 := Lib.hid ((HB2.out.trans (hb.mono HB2.out.size)).alloc (HB2.out.trans (hb.mono HB2.out.size)).size (.cells (Box.cells b).toArray 44)); clear hb)
           | (go_at_call 186; go_loud (refine (HT.out _).mono ?_); rintro e w4 ⟨rfl, hb⟩; have HB4 := Lib.hid (HB3.out.trans (hb.mono HB3.out.size)); clear hb))
          go_roundw
          case rel => exact ⟨k + 1, s, by omega, by go_num, rfl, by rw [← HS2.out, HH.out, if_neg (by rintro ⟨_, h | h⟩; exact h2 h; exact h3 h)]; simp, HB2.out⟩
          case measure => simp [intOf]; omega
    · have h1' : (x2 == col) = false := by simpa using h1
      go_wp2_with (first
       | ((with_reducible refine g_ld 42 ?_); refine wpList_ld rfl _ _ rfl _ rfl _ HLD.out ?_)
       | (go_at_call 17; go_loud (refine (HF.out _ HB2.out).mono ?_); rintro e w3 ⟨rfl, hb⟩; have HB3 := Lib.hid ((HB2.out.trans (hb.mono HB2.out.size)).alloc (HB2.out.trans (hb.mono HB2.out.size)).size (.cells (Box.cells b).toArray 44)); clear hb)
       | (go_at_call 186; go_loud (refine (HT.out _).mono ?_); rintro e w4 ⟨rfl, hb⟩; have HB4 := Lib.hid (HB3.out.trans (hb.mono HB3.out.size)); clear hb))
      go_roundw
      case rel => exact ⟨k + 1, s, by omega, by go_num, rfl, by rw [← HS2.out, HH.out, if_neg (fun h => h1 h.1)]; simp, HB2.out⟩
      case measure => simp [intOf]; omega
def slotOf (x : Stowed) : Slot := ⟨x.col, x.tier, x.half⟩
open Go.Maps Go.WideMaps
def seenN (l : List Box) (k : Nat) (s : ByteArray) : Bool := (l.take k).any (fun b => !decide (b.num = noNum) && decide (b.num = s))
def lastId (l : List Box) (k : Nat) : Int := if k = 0 then 0 else (l[k - 1]?.map Box.id).getD 0
def boxBad (l : List Box) (k : Nat) : Bool :=
 match l[k]? with
 | some b => seenN l k b.num || decide (b.id ≤ lastId l k) || !boxB b
 | none => false
def boxValid (l : List Box) : Int × Int :=
 if l.length > 2000 then (-1, 5) else
 match (List.range l.length).find? (boxBad l) with
 | some k => (k, 60)
 | none => (-1, 0)
theorem boxValid_found {l : List Box} {k : Nat} (hl : l.length ≤ 2000) (hk : k < l.length) (hj : ∀ j, j < k → boxBad l j = false) (h : boxBad l k = true) : boxValid l = ((k : Int), 60) := by
 have : (List.range l.length).find? (boxBad l) = some k := by
  rw [List.find?_range_eq_some]
  exact ⟨h, by simpa using hk, fun j hjk => by simp [hj j hjk]⟩
 unfold boxValid
 rw [if_neg (by omega), this]
theorem boxValid_none {l : List Box} (hl : l.length ≤ 2000) (hj : ∀ j, j < l.length → boxBad l j = false) : boxValid l = (-1, 0) := by
 have : (List.range l.length).find? (boxBad l) = none := by
  rw [List.find?_eq_none]
  intro x hx
  rw [hj x (by simpa using hx)]
  simp
 unfold boxValid
 rw [if_neg (by omega), this]
theorem seenN_zero (l : List Box) (s : ByteArray) : seenN l 0 s = false := by simp [seenN]
theorem seenN_succ (l : List Box) (k : Nat) (s : ByteArray) (hk : k < l.length) : seenN l (k + 1) s = (seenN l k s || (!decide (l[k].num = noNum) && decide (l[k].num = s))) := by
 unfold seenN
 rw [List.take_succ_eq_append_getElem hk, List.any_append]
 simp only [List.any_cons, List.any_nil, Bool.or_false]
theorem lastId_succ (l : List Box) (k : Nat) (hk : k < l.length) : lastId l (k + 1) = l[k].id := by
 unfold lastId
 simp [hk]
theorem lastId_zero (l : List Box) : lastId l 0 = 0 := by simp [lastId]
end Go.Proofs.YtfdjcakgolenbaaGreat
namespace Go.Proofs.YtfdjcakgolenbaaGreat
open Go.RowKit
def wOk (n : Int) : Bool := decide (0 ≤ n ∧ n ≤ 500000000)
def inArm (n m : Int) : Bool := decide (-m ≤ n ∧ n ≤ m)
def ldOk (l : Ld) : Bool := wOk l.kilos && (inArm l.x (l.kilos * 1100000) && (inArm l.y (l.kilos * 1100000) && inArm l.z (l.kilos * 1100000)))
def ld0 : Ld := ⟨0, 0, 0, 0⟩
def pointF (k x y z : Int) : Ld × Int := if wOk k && (inArm x 1100000 && (inArm y 1100000 && inArm z 1100000)) then (⟨k, k * x, k * y, k * z⟩, 0) else (ld0, 2)
theorem wOk_iff {n : Int} : wOk n = true ↔ 0 ≤ n ∧ n ≤ 500000000 := decide_eq_true_iff
theorem inArm_iff {n m : Int} : inArm n m = true ↔ -m ≤ n ∧ n ≤ m := decide_eq_true_iff
theorem m_weighs (n : Int) (w : World) : Calls Tryz.prog 51 #[.int .i64 n] w fun e w' => e = .returned (.bool (wOk n)) ∧ w' = w := by
 by_cases h1 : 0 ≤ n
 · by_cases h2 : n ≤ 500000000
   · have h3 : wOk n = true := by simp [wOk, h1, h2]
     rw [h3]
     clear h3
     go_enter Tryz.func51, Tryz.ntmps51
     go_wp2
     go_ret
     exact ⟨rfl, rfl⟩
   · have h3 : wOk n = false := by simp [wOk]; omega
     rw [h3]
     clear h3
     go_enter Tryz.func51, Tryz.ntmps51
     go_wp2
     go_ret
     exact ⟨rfl, rfl⟩
 · have h3 : wOk n = false := by simp [wOk]; omega
   rw [h3]
   clear h3
   go_enter Tryz.func51, Tryz.ntmps51
   go_wp2
   go_ret
   exact ⟨rfl, rfl⟩
theorem m_within (n m : Int) (hm0 : 0 ≤ m) (hm : m ≤ 4611686018427387904) (w : World) : Calls Tryz.prog 53 #[.int .i64 n, .int .i64 m] w fun e w' => e = .returned (.bool (inArm n m)) ∧ w' = w := by
 have wn : IntKind.i64.wrap (-m) = -m := wrap_i64 (by omega) (by omega)
 by_cases h1 : -m ≤ n
 · by_cases h2 : n ≤ m
   · have h3 : inArm n m = true := by simp [inArm, h1, h2]
     rw [h3]
     clear h3
     go_enter Tryz.func53, Tryz.ntmps53
     go_wp2
     go_ret
     exact ⟨rfl, rfl⟩
   · have h3 : inArm n m = false := by simp [inArm]; omega
     rw [h3]
     clear h3
     go_enter Tryz.func53, Tryz.ntmps53
     go_wp2
     go_ret
     exact ⟨rfl, rfl⟩
 · have h3 : inArm n m = false := by simp [inArm]; omega
   rw [h3]
   clear h3
   go_enter Tryz.func53, Tryz.ntmps53
   go_wp2
   go_ret
   exact ⟨rfl, rfl⟩
set_option maxHeartbeats 1000000 in
theorem m_Right (l : Ld) (w : World) : Calls Tryz.prog 22 #[.agg #[.int .i64 l.kilos, .int .i64 l.x, .int .i64 l.y, .int .i64 l.z]] w fun e w' => e = .returned (.bool (ldOk l)) ∧ From w w' := by
 obtain ⟨k, x, y, z⟩ := l
 dsimp only
 have HB : Hid (From w (w.alloc (.cells #[.int .i64 k, .int .i64 x, .int .i64 y, .int .i64 z] 48))) := (Below.refl _ _).alloc (Nat.le_refl _) _
 have HK := Lib.hid (fun w1 => m_weighs k w1)
 cases hk : wOk k with
 | false =>
  rw [hk] at HK
  have hr : ldOk ⟨k, x, y, z⟩ = false := by unfold ldOk; rw [hk]; rfl
  rw [hr]
  clear hr hk
  go_enter Tryz.func22, Tryz.ntmps22
  go_wp2_with (go_at_call 51; refine (HK.out _).mono ?_; rintro e wx ⟨rfl, hx⟩; rw [hx]; clear hx wx HK)
  go_ret
  exact ⟨rfl, HB.out⟩
 | true =>
  have h1 := wOk_iff.1 hk
  have wm : IntKind.i64.wrap (k * 1100000) = k * 1100000 := wrap_i64 (by omega) (by omega)
  obtain ⟨m, hm⟩ : ∃ m, m = k * 1100000 := ⟨_, rfl⟩
  have HX := Lib.hid (fun w1 => m_within x m (by omega) (by omega) w1)
  have HY := Lib.hid (fun w1 => m_within y m (by omega) (by omega) w1)
  have HZ := Lib.hid (fun w1 => m_within z m (by omega) (by omega) w1)
  have hr : ldOk ⟨k, x, y, z⟩ = (inArm x m && (inArm y m && inArm z m)) := by unfold ldOk; rw [hk, hm]; rfl
  rw [hk] at HK
  rw [hr]
  rw [← hm] at wm
  have wm2 : IntKind.i64.wrap (k * 1100000) = m := by rw [← hm]; exact wm
  clear hr hk h1 hm wm
  generalize inArm x m = bx at HX ⊢
  generalize inArm y m = by_ at HY ⊢
  generalize inArm z m = bz at HZ ⊢
  cases bx with
  | false =>
   go_enter Tryz.func22, Tryz.ntmps22
   go_wp2_with (first
    | (go_at_call 51; refine (HK.out _).mono ?_; rintro e wx ⟨rfl, hx⟩; rw [hx]; clear hx wx HK)
    | (go_at_call 53; refine (HX.out _).mono ?_; rintro e wx ⟨rfl, hx⟩; rw [hx]; clear hx wx HX)
    | (go_at_call 53; refine (HY.out _).mono ?_; rintro e wx ⟨rfl, hx⟩; rw [hx]; clear hx wx HY)
    | (go_at_call 53; refine (HZ.out _).mono ?_; rintro e wx ⟨rfl, hx⟩; rw [hx]; clear hx wx))
   go_ret
   exact ⟨rfl, HB.out⟩
  | true =>
   cases by_ with
   | false =>
    go_enter Tryz.func22, Tryz.ntmps22
    go_wp2_with (first
     | (go_at_call 51; refine (HK.out _).mono ?_; rintro e wx ⟨rfl, hx⟩; rw [hx]; clear hx wx HK)
     | (go_at_call 53; refine (HX.out _).mono ?_; rintro e wx ⟨rfl, hx⟩; rw [hx]; clear hx wx HX)
     | (go_at_call 53; refine (HY.out _).mono ?_; rintro e wx ⟨rfl, hx⟩; rw [hx]; clear hx wx HY)
     | (go_at_call 53; refine (HZ.out _).mono ?_; rintro e wx ⟨rfl, hx⟩; rw [hx]; clear hx wx))
    go_ret
    exact ⟨rfl, HB.out⟩
   | true =>
    go_enter Tryz.func22, Tryz.ntmps22
    go_wp2_with (first
     | (go_at_call 51; refine (HK.out _).mono ?_; rintro e wx ⟨rfl, hx⟩; rw [hx]; clear hx wx HK)
     | (go_at_call 53; refine (HX.out _).mono ?_; rintro e wx ⟨rfl, hx⟩; rw [hx]; clear hx wx HX)
     | (go_at_call 53; refine (HY.out _).mono ?_; rintro e wx ⟨rfl, hx⟩; rw [hx]; clear hx wx HY)
     | (go_at_call 53; refine (HZ.out _).mono ?_; rintro e wx ⟨rfl, hx⟩; rw [hx]; clear hx wx))
    go_ret
    exact ⟨rfl, HB.out⟩
theorem ld_row : IsRow Tryz.prog 48 4 := Ld.row
theorem ld_size : (Tryz.prog.info? 48).map (·.size) = some 4 := by kernel_rfl
def LdPost (w : World) (r : Ld × Int) (e : Ending) (w' : World) : Prop := e = .returned (.tuple #[r.1.val, .int .i64 r.2]) ∧ From w w'
set_option maxHeartbeats 2000000 in
theorem m_Point (k x y z : Int) (w : World) : Calls Tryz.prog 21 #[.int .i64 k, .int .i64 x, .int .i64 y, .int .i64 z] w (LdPost w (pointF k x y z)) := by
 have HM0 := Lib.hid ((Mem.nil w).alloc 48 ld0.cells)
 have HK := Lib.hid (fun w1 => m_weighs k w1)
 have HX := Lib.hid (fun w1 => m_within x 1100000 (by omega) (by omega) w1)
 have HY := Lib.hid (fun w1 => m_within y 1100000 (by omega) (by omega) w1)
 have HZ := Lib.hid (fun w1 => m_within z 1100000 (by omega) (by omega) w1)
 cases hk : wOk k with
 | false =>
  have HR : Hid (pointF k x y z = (ld0, 2)) := by unfold Hid pointF; rw [hk]; rfl
  rw [hk] at HK
  clear hk
  go_enter Tryz.func21, Tryz.ntmps21
  go_wp2_with (first
   | (go_at_call 51; refine (HK.out _).mono ?_; rintro e wx ⟨rfl, hx⟩; rw [hx]; clear hx wx HK)
   | (go_at_call 53; refine (HX.out _).mono ?_; rintro e wx ⟨rfl, hx⟩; rw [hx]; clear hx wx HX)
   | (go_at_call 53; refine (HY.out _).mono ?_; rintro e wx ⟨rfl, hx⟩; rw [hx]; clear hx wx HY)
   | (go_at_call 53; refine (HZ.out _).mono ?_; rintro e wx ⟨rfl, hx⟩; rw [hx]; clear hx wx)
   | ((with_reducible refine g_st 48 ?_); go_loud (refine wpList_stB (cs' := Ld.cells (ld0)) rfl _ _ rfl HM0.out 0 rfl rfl rfl ld_size rfl (Ld.len _) (Ld.len _) (Ld.one _) ?_); intro w6 h6))
  refine bodyPost_ret (results_box2 rfl _ rfl (h6.ldb ld_row (Ld.len _) (i := 0) rfl _ (Below.refl _ _))) rfl ⟨?_, h6.from_⟩
  rw [HR.out]
  rfl
 | true =>
  cases hx : inArm x 1100000 with
  | false =>
   have HR : Hid (pointF k x y z = (ld0, 2)) := by unfold Hid pointF; rw [hk, hx]; rfl
   rw [hk] at HK
   rw [hx] at HX
   clear hk hx
   go_enter Tryz.func21, Tryz.ntmps21
   go_wp2_with (first
    | (go_at_call 51; refine (HK.out _).mono ?_; rintro e wx ⟨rfl, hx⟩; rw [hx]; clear hx wx HK)
    | (go_at_call 53; refine (HX.out _).mono ?_; rintro e wx ⟨rfl, hx⟩; rw [hx]; clear hx wx HX)
    | (go_at_call 53; refine (HY.out _).mono ?_; rintro e wx ⟨rfl, hx⟩; rw [hx]; clear hx wx HY)
    | (go_at_call 53; refine (HZ.out _).mono ?_; rintro e wx ⟨rfl, hx⟩; rw [hx]; clear hx wx)
    | ((with_reducible refine g_st 48 ?_); go_loud (refine wpList_stB (cs' := Ld.cells (ld0)) rfl _ _ rfl HM0.out 0 rfl rfl rfl ld_size rfl (Ld.len _) (Ld.len _) (Ld.one _) ?_); intro w6 h6))
   refine bodyPost_ret (results_box2 rfl _ rfl (h6.ldb ld_row (Ld.len _) (i := 0) rfl _ (Below.refl _ _))) rfl ⟨?_, h6.from_⟩
   rw [HR.out]
   rfl
  | true =>
   cases hy : inArm y 1100000 with
   | false =>
    have HR : Hid (pointF k x y z = (ld0, 2)) := by unfold Hid pointF; rw [hk, hx, hy]; rfl
    rw [hk] at HK
    rw [hx] at HX
    rw [hy] at HY
    clear hk hx hy
    go_enter Tryz.func21, Tryz.ntmps21
    go_wp2_with (first
     | (go_at_call 51; refine (HK.out _).mono ?_; rintro e wx ⟨rfl, hx⟩; rw [hx]; clear hx wx HK)
     | (go_at_call 53; refine (HX.out _).mono ?_; rintro e wx ⟨rfl, hx⟩; rw [hx]; clear hx wx HX)
     | (go_at_call 53; refine (HY.out _).mono ?_; rintro e wx ⟨rfl, hx⟩; rw [hx]; clear hx wx HY)
     | (go_at_call 53; refine (HZ.out _).mono ?_; rintro e wx ⟨rfl, hx⟩; rw [hx]; clear hx wx)
     | ((with_reducible refine g_st 48 ?_); go_loud (refine wpList_stB (cs' := Ld.cells (ld0)) rfl _ _ rfl HM0.out 0 rfl rfl rfl ld_size rfl (Ld.len _) (Ld.len _) (Ld.one _) ?_); intro w6 h6))
    refine bodyPost_ret (results_box2 rfl _ rfl (h6.ldb ld_row (Ld.len _) (i := 0) rfl _ (Below.refl _ _))) rfl ⟨?_, h6.from_⟩
    rw [HR.out]
    rfl
   | true =>
    cases hz : inArm z 1100000 with
    | false =>
     have HR : Hid (pointF k x y z = (ld0, 2)) := by unfold Hid pointF; rw [hk, hx, hy, hz]; rfl
     rw [hk] at HK
     rw [hx] at HX
     rw [hy] at HY
     rw [hz] at HZ
     clear hk hx hy hz
     go_enter Tryz.func21, Tryz.ntmps21
     go_wp2_with (first
      | (go_at_call 51; refine (HK.out _).mono ?_; rintro e wx ⟨rfl, hx⟩; rw [hx]; clear hx wx HK)
      | (go_at_call 53; refine (HX.out _).mono ?_; rintro e wx ⟨rfl, hx⟩; rw [hx]; clear hx wx HX)
      | (go_at_call 53; refine (HY.out _).mono ?_; rintro e wx ⟨rfl, hx⟩; rw [hx]; clear hx wx HY)
      | (go_at_call 53; refine (HZ.out _).mono ?_; rintro e wx ⟨rfl, hx⟩; rw [hx]; clear hx wx)
      | ((with_reducible refine g_st 48 ?_); go_loud (refine wpList_stB (cs' := Ld.cells (ld0)) rfl _ _ rfl HM0.out 0 rfl rfl rfl ld_size rfl (Ld.len _) (Ld.len _) (Ld.one _) ?_); intro w6 h6))
     refine bodyPost_ret (results_box2 rfl _ rfl (h6.ldb ld_row (Ld.len _) (i := 0) rfl _ (Below.refl _ _))) rfl ⟨?_, h6.from_⟩
     rw [HR.out]
     rfl
    | true =>
     have HR : Hid (pointF k x y z = (⟨k, k * x, k * y, k * z⟩, 0)) := by unfold Hid pointF; rw [hk, hx, hy, hz]; rfl
     have hm : ∀ n : Int, inArm n 1100000 = true → IntKind.i64.wrap (k * n) = k * n := fun n hn => by
      have h1 := wOk_iff.1 hk
      have h2 := inArm_iff.1 hn
      have h3 : k * n ≤ k * 1100000 := Int.mul_le_mul_of_nonneg_left h2.2 h1.1
      have h4 : k * (-1100000) ≤ k * n := Int.mul_le_mul_of_nonneg_left h2.1 h1.1
      exact wrap_i64 (by omega) (by omega)
     have mx := hm x hx
     have my := hm y hy
     have mz := hm z hz
     rw [hk] at HK
     rw [hx] at HX
     rw [hy] at HY
     rw [hz] at HZ
     clear hk hx hy hz hm
     go_enter Tryz.func21, Tryz.ntmps21
     go_wp2_with (first
      | (go_at_call 51; refine (HK.out _).mono ?_; rintro e wx ⟨rfl, hx⟩; rw [hx]; clear hx wx HK)
      | (go_at_call 53; refine (HX.out _).mono ?_; rintro e wx ⟨rfl, hx⟩; rw [hx]; clear hx wx HX)
      | (go_at_call 53; refine (HY.out _).mono ?_; rintro e wx ⟨rfl, hx⟩; rw [hx]; clear hx wx HY)
      | (go_at_call 53; refine (HZ.out _).mono ?_; rintro e wx ⟨rfl, hx⟩; rw [hx]; clear hx wx)
      | ((with_reducible refine g_st 48 ?_); go_loud (refine wpList_stB (cs' := Ld.cells (⟨k, k * x, k * y, k * z⟩)) rfl _ _ rfl HM0.out 0 rfl rfl rfl ld_size rfl (Ld.len _) (Ld.len _) (Ld.one _) ?_); intro w6 h6))
     refine bodyPost_ret (results_box2 rfl _ rfl (h6.ldb ld_row (Ld.len _) (i := 0) rfl _ (Below.refl _ _))) rfl ⟨?_, h6.from_⟩
     rw [HR.out]
     rfl
theorem m_bad (l : Ld) (w : World) : Calls Tryz.prog 50 #[l.val] w fun e w' => e = .returned (.bool (!ldOk l)) ∧ From w w' := by
 have HR := Lib.hid (fun w1 => m_Right l w1)
 have HB : Hid (From w (w.alloc (.cells (Ld.cells l).toArray 48))) := (Below.refl _ _).alloc (Nat.le_refl _) _
 go_enter Tryz.func50, Tryz.ntmps50
 go_wp2_with (go_at_call 22; go_loud (refine (HR.out _).mono ?_); rintro e w2 ⟨rfl, hb⟩)
 go_ret
 exact ⟨rfl, HB.out.trans (hb.mono HB.out.size)⟩
end Go.Proofs.YtfdjcakgolenbaaGreat
