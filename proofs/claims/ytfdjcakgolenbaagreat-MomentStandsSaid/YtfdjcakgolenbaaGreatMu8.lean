/-
  The sections of a hull with weights, plain.
-/
import Derived.Test.YtfdjcakgolenbaaGreatMu7
import Derived.Deep.Cut
import Derived.LoopN
set_option linter.unusedVariables false
set_option linter.unusedSimpArgs false
namespace Go.Proofs.YtfdjcakgolenbaaGreat
def frm0 : Frm := ⟨0, 0, 0, 0, 0⟩
def frmX (l : List Frm) (i : Nat) : Int := (l.getD i frm0).x
def hX (l : List Frm) (i : Nat) : Int := frmX l i + frmX l (i + 1)
open Go.RowKit
def Tells {α : Type} (P : Program) (w : World) (fn : FuncId) (caps : Array Value) (val : α → Value) (p : α → Bool) (l : List α) : Prop :=
 ∀ x ∈ l, ∀ w', Below w.heap.size w w' → Calls P fn (#[val x] ++ caps) w' fun e w2 => e = .returned (.bool (p x)) ∧ Below w'.heap.size w' w2
def idx {α : Type} (p : α → Bool) (l : List α) : Int := match l.findIdx? p with | some i => i | none => -1
theorem idx_found {α : Type} {p : α → Bool} {l : List α} {k : Nat} (hk : k < l.length) (hj : ∀ j, (h : j < k) → p l[j] = false) (hx : p l[k] = true) : idx p l = k := by
 have : l.findIdx? p = some k := by
  rw [List.findIdx?_eq_some_iff_getElem]
  exact ⟨hk, hx, fun j hjk => by simp [hj j hjk]⟩
 unfold idx
 rw [this]
theorem idx_none {α : Type} {p : α → Bool} {l : List α} (hj : ∀ j, (h : j < l.length) → p l[j] = false) : idx p l = -1 := by
 have : l.findIdx? p = none := by
  rw [List.findIdx?_eq_none_iff]
  intro x hx
  obtain ⟨j, hj', rfl⟩ := List.mem_iff_getElem.1 hx
  exact hj j hj'
 unfold idx
 rw [this]
theorem idx_cases {α : Type} (p : α → Bool) (l : List α) : (idx p l = -1 ∧ ∀ x ∈ l, p x = false) ∨ ∃ k, ∃ h : k < l.length, idx p l = k ∧ p l[k] = true ∧ l.find? p = some l[k] := by
 unfold idx
 cases hf : l.findIdx? p with
 | none => exact .inl ⟨rfl, by simpa using hf⟩
 | some k =>
  rw [List.findIdx?_eq_some_iff_getElem] at hf
  obtain ⟨h, h1, h2⟩ := hf
  refine .inr ⟨k, h, rfl, h1, ?_⟩
  rw [List.find?_eq_some_iff_getElem]
  exact ⟨h1, k, h, rfl, fun j hj => by have := h2 j hj; simpa using this⟩
structure Box where
 id : Int
 num : ByteArray
 size : Int
 high : Bool
 kilos : Int
 load : Int
 dis : Int
 cls : Int
 reefer : Bool
deriving DecidableEq
def Box.cells (b : Box) : List Value := [.int .i64 b.id, .string b.num, .int .u8 b.size, .bool b.high, .int .i64 b.kilos, .int .i64 b.load, .int .i64 b.dis, .int .u8 b.cls, .bool b.reefer]
abbrev Box.val (b : Box) : Value := .agg #[.int .i64 b.id, .string b.num, .int .u8 b.size, .bool b.high, .int .i64 b.kilos, .int .i64 b.load, .int .i64 b.dis, .int .u8 b.cls, .bool b.reefer]
theorem Box.len (b : Box) : b.cells.length = 9 := rfl
theorem Box.one (b : Box) : ∀ u ∈ b.cells, u.oneCell' = true := by simp [Box.cells, Value.oneCell']
theorem Box.row : IsRow Tryz.prog 44 9 := ⟨_, Tryz.underlying44, by kernel_rfl, by kernel_rfl⟩
theorem Box.ld {w : World} {B : Nat} {A : Option Addr} {css : List (List Value)} (h : Rd w B 9 A css) {k : Nat} {b : Box} (hk : css[k]? = some b.cells) :
 ∃ g off, A = some ⟨g, off, none⟩ ∧ g < B ∧ ∀ w', Below B w w' → (loadVar 44 ⟨g, off + k * 9, none⟩).run Tryz.prog w' = .ok b.val w' := h.ld Box.row hk
structure Stowed where
 box : Int
 col : Int
 tier : Int
 half : Int
deriving DecidableEq
def Stowed.cells (b : Stowed) : List Value := [.int .i64 b.box, .int .i64 b.col, .int .i64 b.tier, .int .u8 b.half]
abbrev Stowed.val (b : Stowed) : Value := .agg #[.int .i64 b.box, .int .i64 b.col, .int .i64 b.tier, .int .u8 b.half]
theorem Stowed.one (b : Stowed) : ∀ u ∈ b.cells, u.oneCell' = true := by simp [Stowed.cells, Value.oneCell']
theorem Stowed.ones (l : List Stowed) : ∀ cs ∈ l.map Stowed.cells, ∀ u ∈ cs, u.oneCell' = true := by
 intro cs h
 obtain ⟨b, _, rfl⟩ := List.mem_map.1 h
 exact b.one
theorem Stowed.row : IsRow Tryz.prog 42 4 := ⟨_, Tryz.underlying42, by kernel_rfl, by kernel_rfl⟩
theorem Stowed.ei : EI Tryz.prog 34 42 4 32 := EI.mk (z := .agg #[.int .i64 0, .int .i64 0, .int .i64 0, .int .u8 0]) Tryz.underlying34 (by kernel_rfl) rfl (by omega)
structure Slot where
 col : Int
 tier : Int
 half : Int
deriving DecidableEq
def Slot.cells (b : Slot) : List Value := [.int .i64 b.col, .int .i64 b.tier, .int .u8 b.half]
abbrev Slot.val (b : Slot) : Value := .agg #[.int .i64 b.col, .int .i64 b.tier, .int .u8 b.half]
theorem Slot.eql_ (x y : Slot) (w : World) : (binOp .eql 40 (.agg #[.int .i64 x.col, .int .i64 x.tier, .int .u8 x.half]) (.agg #[.int .i64 y.col, .int .i64 y.tier, .int .u8 y.half])).run Tryz.prog w = .ok (.bool (decide (x = y))) w := by
 go_simp
 rcases x with ⟨x0, x1, x2⟩
 rcases y with ⟨y0, y1, y2⟩
 simp only [Slot.mk.injEq]
 by_cases h0 : x0 = y0
 case neg => simp [h0]
 subst h0
 by_cases h1 : x1 = y1
 case neg => simp [h1]
 subst h1
 by_cases h2 : x2 = y2
 case neg => simp [h2]
 subst h2
 simp
theorem Slot.row : IsRow Tryz.prog 40 3 := ⟨_, Tryz.underlying40, by kernel_rfl, by kernel_rfl⟩
theorem Slot.ei : EI Tryz.prog 162 40 3 24 := EI.mk (z := .agg #[.int .i64 0, .int .i64 0, .int .u8 0]) Tryz.underlying162 (by kernel_rfl) rfl (by omega)
structure Ld where
 kilos : Int
 x : Int
 y : Int
 z : Int
deriving DecidableEq
def Ld.cells (b : Ld) : List Value := [.int .i64 b.kilos, .int .i64 b.x, .int .i64 b.y, .int .i64 b.z]
abbrev Ld.val (b : Ld) : Value := .agg #[.int .i64 b.kilos, .int .i64 b.x, .int .i64 b.y, .int .i64 b.z]
theorem Ld.len (b : Ld) : b.cells.length = 4 := rfl
theorem Ld.one (b : Ld) : ∀ u ∈ b.cells, u.oneCell' = true := by simp [Ld.cells, Value.oneCell']
theorem Ld.row : IsRow Tryz.prog 48 4 := ⟨_, Tryz.underlying48, by kernel_rfl, by kernel_rfl⟩
theorem Ld.ld {w : World} {B : Nat} {A : Option Addr} {css : List (List Value)} (h : Rd w B 4 A css) {k : Nat} {b : Ld} (hk : css[k]? = some b.cells) :
 ∃ g off, A = some ⟨g, off, none⟩ ∧ g < B ∧ ∀ w', Below B w w' → (loadVar 48 ⟨g, off + k * 4, none⟩).run Tryz.prog w' = .ok b.val w' := h.ld Ld.row hk
structure Spn where
 n : Int
 low : Int
 high : Int
deriving DecidableEq
structure Mid where
 box : Box
 x : Int
 y : Int
 h : Int
deriving DecidableEq
theorem map_get2 {α β : Type} (f : α → β) (l : List α) (k : Nat) (h : k < l.length) : (l.map f)[k]? = some (f l[k]) := by simp [h]
set_option maxHeartbeats 1000000 in
theorem indexLd (A : Option Addr) (c : Nat) (l : List Ld) (n : Nat) (hn : n = l.length) (fn : FuncId) (caps : Array Value) (p : Ld → Bool) (w : World) (hA : Rd w w.heap.size 4 A (l.map Ld.cells)) (hl : l.length ≤ 1000000000000) (hcf : ∀ w args, (callFunc fn args).run Tryz.prog w = .ok (.enter fn args) w) (hf : Tells Tryz.prog w fn caps Ld.val p l) :
 Calls Tryz.prog 90 #[.slice A n c, .func (.func fn) #[] caps] w fun e w' => e = .returned (.int .i64 (idx p l)) ∧ Below w.heap.size w w' := by
 subst hn
 go_enter Tryz.func90, Tryz.ntmps90
 go_wp2
 have HF := Lib.hid hf
 clear hf
 go_loopw [5, 8] (fun _ i wr => ∃ k : Nat, k ≤ l.length ∧ i = .int .i64 k ∧ (∀ j, (h : j < k) → (h2 : j < l.length) → p l[j] = false) ∧ Below w.heap.size w wr) (fun _ i _ => l.length - (intOf i).toNat)
 case atStart => exact ⟨0, by omega, rfl, by omega, Below.refl _ _⟩
 case round =>
  obtain ⟨k, hk, rfl, hj, hb⟩ := hrel
  have HJ := Lib.hid hj
  clear hj
  by_cases hlt : k < l.length
  · obtain ⟨b, off, rfl, hb1, hld⟩ := Ld.ld hA (map_get2 Ld.cells l k hlt)
    have HL := Lib.hid hld
    clear hld
    go_wp2_with (first
     | (refine wpList_ld rfl _ _ rfl _ rfl _ (HL.out _ hb) ?_)
     | (refine (HF.out l[k] (List.getElem_mem hlt) _ hb).mono ?_; rintro e w' ⟨rfl, hb3⟩))
    · have ht : p l[k] = true := by assumption
      go_ret
      exact ⟨by rw [idx_found hlt (fun j h => HJ.out j h (by omega)) ht]; rfl, hb.trans (hb3.mono hb.size)⟩
    · have hf' : p l[k] = false := by assumption
      go_roundw
      case rel =>
       refine ⟨k + 1, by omega, by go_num, fun j h h2 => ?_, hb.trans (hb3.mono hb.size)⟩
       rcases Nat.lt_or_ge j k with h3 | h3
       · exact HJ.out j h3 h2
       · obtain rfl : j = k := by omega
         exact hf'
      case measure => simp [intOf]; omega
  · obtain rfl : k = l.length := by omega
    have HI := Lib.hid (idx_none (fun j h => HJ.out j h h))
    go_wp2
    go_ret
    exact ⟨by rw [HI.out]; rfl, hb⟩
set_option maxHeartbeats 1000000 in
theorem indexBox (A : Option Addr) (c : Nat) (l : List Box) (n : Nat) (hn : n = l.length) (fn : FuncId) (caps : Array Value) (p : Box → Bool) (w : World) (hA : Rd w w.heap.size 9 A (l.map Box.cells)) (hl : l.length ≤ 1000000000000) (hcf : ∀ w args, (callFunc fn args).run Tryz.prog w = .ok (.enter fn args) w) (hf : Tells Tryz.prog w fn caps Box.val p l) :
 Calls Tryz.prog 45 #[.slice A n c, .func (.func fn) #[] caps] w fun e w' => e = .returned (.int .i64 (idx p l)) ∧ Below w.heap.size w w' := by
 subst hn
 go_enter Tryz.func45, Tryz.ntmps45
 go_wp2
 have HF := Lib.hid hf
 clear hf
 go_loopw [5, 8] (fun _ i wr => ∃ k : Nat, k ≤ l.length ∧ i = .int .i64 k ∧ (∀ j, (h : j < k) → (h2 : j < l.length) → p l[j] = false) ∧ Below w.heap.size w wr) (fun _ i _ => l.length - (intOf i).toNat)
 case atStart => exact ⟨0, by omega, rfl, by omega, Below.refl _ _⟩
 case round =>
  obtain ⟨k, hk, rfl, hj, hb⟩ := hrel
  have HJ := Lib.hid hj
  clear hj
  by_cases hlt : k < l.length
  · obtain ⟨b, off, rfl, hb1, hld⟩ := Box.ld hA (map_get2 Box.cells l k hlt)
    have HL := Lib.hid hld
    clear hld
    go_wp2_with (first
     | (refine wpList_ld rfl _ _ rfl _ rfl _ (HL.out _ hb) ?_)
     | (refine (HF.out l[k] (List.getElem_mem hlt) _ hb).mono ?_; rintro e w' ⟨rfl, hb3⟩))
    · have ht : p l[k] = true := by assumption
      go_ret
      exact ⟨by rw [idx_found hlt (fun j h => HJ.out j h (by omega)) ht]; rfl, hb.trans (hb3.mono hb.size)⟩
    · have hf' : p l[k] = false := by assumption
      go_roundw
      case rel =>
       refine ⟨k + 1, by omega, by go_num, fun j h h2 => ?_, hb.trans (hb3.mono hb.size)⟩
       rcases Nat.lt_or_ge j k with h3 | h3
       · exact HJ.out j h3 h2
       · obtain rfl : j = k := by omega
         exact hf'
      case measure => simp [intOf]; omega
  · obtain rfl : k = l.length := by omega
    have HI := Lib.hid (idx_none (fun j h => HJ.out j h h))
    go_wp2
    go_ret
    exact ⟨by rw [HI.out]; rfl, hb⟩
theorem any_idx {α : Type} (p : α → Bool) (l : List α) : l.any p = decide (0 ≤ idx p l) := by
 rcases idx_cases p l with ⟨h1, h2⟩ | ⟨k, hk, h1, h2, _⟩
 · have h3 : l.any p = false := by
    rw [List.any_eq_false]
    intro x hx
    simp [h2 x hx]
   rw [h1, h3]
   rfl
 · have h3 : l.any p = true := by
    rw [List.any_eq_true]
    exact ⟨_, List.getElem_mem hk, h2⟩
   rw [h1, h3]
   simp
theorem containsLd (A : Option Addr) (c : Nat) (l : List Ld) (n : Nat) (hn : n = l.length) (fn : FuncId) (caps : Array Value) (p : Ld → Bool) (w : World) (hA : Rd w w.heap.size 4 A (l.map Ld.cells)) (hl : l.length ≤ 1000000000000) (hcf : ∀ w args, (callFunc fn args).run Tryz.prog w = .ok (.enter fn args) w) (hf : Tells Tryz.prog w fn caps Ld.val p l) :
 Calls Tryz.prog 49 #[.slice A n c, .func (.func fn) #[] caps] w fun e w' => e = .returned (.bool (l.any p)) ∧ Below w.heap.size w w' := by
 have HI := Lib.hid (indexLd A c l n hn fn caps p w hA hl hcf hf)
 rw [any_idx]
 generalize idx p l = z at HI ⊢
 clear hA hn hl hcf hf
 go_enter Tryz.func49, Tryz.ntmps49
 go_wp2_with (go_at_call 90; refine (HI.out).mono ?_; rintro e w2 ⟨rfl, hb2⟩)
 go_ret
 exact ⟨by first | rfl | simp, hb2⟩
end Go.Proofs.YtfdjcakgolenbaaGreat
namespace Go.Proofs.YtfdjcakgolenbaaGreat
def noText : ByteArray := ⟨#[]⟩
structure Col where
 bay : Int
 row : Int
 deck : Bool
 tiers : Int
 height : Int
 k20 : Int
 k40 : Int
 lash : Int
 plugs : List Int
 x : Int
 y : Int
 z : Int
deriving DecidableEq
structure Cov where
 bay : Int
 rows : List Int
deriving DecidableEq
structure Hrow where
 draught : Int
 kilos : Int
 buoy : Int
 mc : Int
 turn : Int
deriving DecidableEq
structure Tnk where
 kilos : Int
 x : Int
 y : Int
 z : Int
 surface : Int
 steps : List Int
deriving DecidableEq
structure Colq where
 bay : Int
 row : Int
 deck : Bool
 tiers : Int
 height : Int
 k20 : Int
 k40 : Int
 lash : Int
 plugs : List Int
 plugsN : Nat
 x : Int
 y : Int
 z : Int
deriving DecidableEq
structure Covq where
 bay : Int
 rows : List Int
 rowsN : Nat
deriving DecidableEq
structure Tnkq where
 kilos : Int
 x : Int
 y : Int
 z : Int
 surface : Int
 steps : List Int
 stepsN : Nat
deriving DecidableEq
structure Plc where
 bay : Int
 row : Int
 tiers : Int
 deck : Bool
deriving DecidableEq
structure Drp where
 col : Int
 kilos : Int
 small : Bool
 high : Bool
deriving DecidableEq
structure Wgt where
 kilos : Int
 x : Int
 y : Int
 z : Int
deriving DecidableEq
inductive Tc where
 | int | u8 | u32 | box | stowed | slot | ld | spn | col | cov | mid | hrow | frm | tnk | colq | covq | tnkq | plc | drp | wgt
deriving DecidableEq
abbrev Tc.el : Tc → Type
 | .int => Int
 | .u8 => Int
 | .u32 => Int
 | .box => Box
 | .stowed => Stowed
 | .slot => Slot
 | .ld => Ld
 | .spn => Spn
 | .col => Col
 | .cov => Cov
 | .mid => Mid
 | .hrow => Hrow
 | .frm => Frm
 | .tnk => Tnk
 | .colq => Colq
 | .covq => Covq
 | .tnkq => Tnkq
 | .plc => Plc
 | .drp => Drp
 | .wgt => Wgt
def Tc.size : Tc → Nat
 | .int => 1
 | .u8 => 1
 | .u32 => 1
 | .box => 9
 | .stowed => 4
 | .slot => 3
 | .ld => 4
 | .spn => 3
 | .col => 12
 | .cov => 2
 | .mid => 12
 | .hrow => 5
 | .frm => 5
 | .tnk => 6
 | .colq => 12
 | .covq => 2
 | .tnkq => 6
 | .plc => 4
 | .drp => 4
 | .wgt => 4
def Tc.dflt : (t : Tc) → t.el
 | .int => (0 : Int)
 | .u8 => (0 : Int)
 | .u32 => (0 : Int)
 | .box => (⟨0, noText, 0, false, 0, 0, 0, 0, false⟩ : Box)
 | .stowed => (⟨0, 0, 0, 0⟩ : Stowed)
 | .slot => (⟨0, 0, 0⟩ : Slot)
 | .ld => (⟨0, 0, 0, 0⟩ : Ld)
 | .spn => (⟨0, 0, 0⟩ : Spn)
 | .col => (⟨0, 0, false, 0, 0, 0, 0, 0, [], 0, 0, 0⟩ : Col)
 | .cov => (⟨0, []⟩ : Cov)
 | .mid => (⟨⟨0, noText, 0, false, 0, 0, 0, 0, false⟩, 0, 0, 0⟩ : Mid)
 | .hrow => (⟨0, 0, 0, 0, 0⟩ : Hrow)
 | .frm => (⟨0, 0, 0, 0, 0⟩ : Frm)
 | .tnk => (⟨0, 0, 0, 0, 0, []⟩ : Tnk)
 | .colq => (⟨0, 0, false, 0, 0, 0, 0, 0, [], 0, 0, 0, 0⟩ : Colq)
 | .covq => (⟨0, [], 0⟩ : Covq)
 | .tnkq => (⟨0, 0, 0, 0, 0, [], 0⟩ : Tnkq)
 | .plc => (⟨0, 0, 0, false⟩ : Plc)
 | .drp => (⟨0, 0, false, false⟩ : Drp)
 | .wgt => (⟨0, 0, 0, 0⟩ : Wgt)
open Go.RowKit
theorem ok_load {P : Program} {ρ : Operand → Value} {d : Option Nat} {T ty : TypeId} {x : Operand} {pos : String} {aft : Array Edge} {gd : Option (Nat × Bool)} {ad : Addr} {v : Value} {w : World} (hx : ρ x = .pointer (some ad)) (h : (loadVar T ad).run P w = .ok v w) :
 (execOp ρ ⟨d, .load T x, ty, pos, aft, gd⟩).run P w = .ok (.value v) w := by
 unfold execOp
 simp only [hx, Instr.loadAt, Instr.sureAddr, Sem.run_bind, Sem.run_pure, Result.andThen_ok, h]
theorem ok_move {P : Program} {ρ : Operand → Value} {d : Option Nat} {ty : TypeId} {x : Operand} {pos : String} {aft : Array Edge} {gd : Option (Nat × Bool)} {v : Value} {w : World} (hx : ρ x = v) : (execOp ρ ⟨d, .move x, ty, pos, aft, gd⟩).run P w = .ok (.value v) w := by
 subst hx; rfl
theorem ok_assign {P : Program} {ρ : Operand → Value} {d : Option Nat} {ty : TypeId} {x : Operand} {pos : String} {aft : Array Edge} {gd : Option (Nat × Bool)} {v : Value} {w : World} (hx : ρ x = v) : (execOp ρ ⟨d, .assign x, ty, pos, aft, gd⟩).run P w = .ok (.value v) w := by
 subst hx; rfl
section
variable {P : Program} {ρ : Operand → Value} {d : Option Nat} {ty : TypeId} {pos : String} {aft : Array Edge} {gd : Option (Nat × Bool)} {v : Value} {w : World}
def fieldOff (P : Program) (s f : Nat) : Option Nat :=
 match P.underlying s with
 | some (.struct fs) => match fs[f]? with
  | some fd => match P.info? fd.type with
   | some i => if i.size = 0 then none else some fd.offset
   | none => none
  | none => none
 | _ => none
theorem add_none (b o n : Nat) : (⟨b, o, none⟩ : Addr).add n = ⟨b, o + n, none⟩ := by
 unfold Addr.add
 split
 · rename_i h; subst h; rfl
 · rfl
theorem ok_field {T f k b o : Nat} {x : Operand} (hx : ρ x = .pointer (some ⟨b, o, none⟩)) (hf : fieldOff P T f = some k) (hv : v = .pointer (some ⟨b, o + k, none⟩)) : (execOp ρ ⟨d, .fieldAddr T x f, ty, pos, aft, gd⟩).run P w = .ok (.value v) w := by
 subst hv
 unfold fieldOff at hf
 split at hf
 · rename_i fs hfs
   split at hf
   · rename_i fd hfd
     split at hf
     · rename_i i hi
       split at hf
       · cases hf
       · rename_i hsz
         injection hf with hf
         subst hf
         unfold execOp
         simp only [hx, Instr.fieldAt, underlying, Sem.run_bind, Sem.run_pure, Result.andThen_ok, hfs, run_program]
         simp only [hfd, Instr.sureAddr, fieldPlace, sizeOf, typeInfo, Sem.run_bind, Sem.run_pure, Result.andThen_ok, run_program, hi, hsz, if_false, add_none]
     · cases hf
   · cases hf
 · cases hf
def elemOf (P : Program) (t : Nat) : Option (Nat × Nat) :=
 match P.underlying t with
 | some (.slice e) => (P.info? e).map fun i => (e, i.size)
 | _ => none
theorem elemOf_spec {t e sz : Nat} (h : elemOf P t = some (e, sz)) : P.underlying t = some (.slice e) ∧ ∃ i, P.info? e = some i ∧ i.size = sz := by
 unfold elemOf at h
 split at h
 · rename_i e' he
   cases hi : P.info? e' with
   | none => rw [hi] at h; cases h
   | some i => rw [hi] at h; simp only [Option.map_some, Option.some.injEq, Prod.mk.injEq] at h; obtain ⟨rfl, rfl⟩ := h; exact ⟨he, i, hi, rfl⟩
 · cases h
theorem ok_index {t e sz k n c b o : Nat} {kk : IntKind} {x y : Operand} (hx : ρ x = .slice (some ⟨b, o, none⟩) n c) (hy : ρ y = .int kk (k : Int)) (he : elemOf P t = some (e, sz)) (hk : (k : Int) < (n : Int)) (hv : v = .pointer (some ⟨b, o + k * sz, none⟩)) : (execOp ρ ⟨d, .indexAddr t x y, ty, pos, aft, gd⟩).run P w = .ok (.value v) w := by
 subst hv
 obtain ⟨h1, i, h2, rfl⟩ := elemOf_spec he
 have h3 : 0 ≤ (k : Int) ∧ (k : Int) < (n : Int) := ⟨by omega, hk⟩
 unfold execOp
 simp only [hx, hy, Instr.indexAt, asIntOf, underlying, Sem.run_bind, Sem.run_pure, Result.andThen_ok, h1, run_program]
 simp only [h3, and_self, if_true, sizeOf, typeInfo, Sem.run_bind, Sem.run_pure, Result.andThen_ok, run_program, h2, Int.toNat_natCast, add_none]
theorem ok_len {t n c : Nat} {e : TypeId} {A : Option Addr} {x : Operand} (hx : ρ x = .slice A n c) (ht : P.underlying t = some (.slice e)) (hv : v = .int .i64 (n : Int)) : (execOp ρ ⟨d, .call { callee := .builtin .len, args := #[x], argTypes := #[t] }, ty, pos, aft, gd⟩).run P w = .ok (.value v) w := by
 subst hv
 unfold execOp
 simp only [resolve, invoke, builtin, Builtin.len_, List.map_toArray, List.map_cons, List.map_nil, hx, underlying, Sem.run_bind, Sem.run_pure, Result.andThen_ok]
 simp only [ht, List.getElem?_toArray, List.getElem?_cons_zero, Sem.run_bind, Sem.run_pure, Result.andThen_ok, run_program]
 rfl
theorem ok_extract {i : Nat} {x : Operand} {vs : Array Value} (hx : ρ x = .tuple vs) (hv : vs[i]? = some v) : (execOp ρ ⟨d, .extract x i, ty, pos, aft, gd⟩).run P w = .ok (.value v) w := by
 unfold execOp
 simp only [hx, Instr.extract, hv, Sem.run_bind, Sem.run_pure, Result.andThen_ok]
theorem ok_pick {b : Bool} {c x y : Operand} (hc : ρ c = .bool b) (hv : (if b then ρ x else ρ y) = v) : (execOp ρ ⟨d, .pick c x y, ty, pos, aft, gd⟩).run P w = .ok (.value v) w := by
 unfold execOp
 simp only [hc, asBool, Sem.run_bind, Sem.run_pure, Result.andThen_ok, hv]
theorem ok_not {b : Bool} {t : TypeId} {x : Operand} (hx : ρ x = .bool b) (hv : v = .bool (!b)) : (execOp ρ ⟨d, .unOp .not t x, ty, pos, aft, gd⟩).run P w = .ok (.value v) w := by
 subst hv
 unfold execOp
 simp only [hx, Op.unary, Sem.run_bind, Sem.run_pure, Result.andThen_ok]
theorem ok_add {k : IntKind} {m n z : Int} {t t' : TypeId} {x y : Operand} (hx : ρ x = .int k m) (hy : ρ y = .int k n) (hz : k.wrap (m + n) = z) (hv : v = .int k z) : (execOp ρ ⟨d, .binOp .add t x y t', ty, pos, aft, gd⟩).run P w = .ok (.value v) w := by
 subst hv hz
 unfold execOp
 simp only [hx, hy, eqGuard, binOp, Op.intArith, ne_eq, not_true_eq_false, if_false, Sem.run_bind, Sem.run_pure]
 rfl
theorem ok_sub {k : IntKind} {m n z : Int} {t t' : TypeId} {x y : Operand} (hx : ρ x = .int k m) (hy : ρ y = .int k n) (hz : k.wrap (m - n) = z) (hv : v = .int k z) : (execOp ρ ⟨d, .binOp .sub t x y t', ty, pos, aft, gd⟩).run P w = .ok (.value v) w := by
 subst hv hz
 unfold execOp
 simp only [hx, hy, eqGuard, binOp, Op.intArith, ne_eq, not_true_eq_false, if_false, Sem.run_bind, Sem.run_pure]
 rfl
theorem ok_mul {k : IntKind} {m n z : Int} {t t' : TypeId} {x y : Operand} (hx : ρ x = .int k m) (hy : ρ y = .int k n) (hz : k.wrap (m * n) = z) (hv : v = .int k z) : (execOp ρ ⟨d, .binOp .mul t x y t', ty, pos, aft, gd⟩).run P w = .ok (.value v) w := by
 subst hv hz
 unfold execOp
 simp only [hx, hy, eqGuard, binOp, Op.intArith, ne_eq, not_true_eq_false, if_false, Sem.run_bind, Sem.run_pure]
 rfl
def cmpB (op : BinOp) (m n : Int) : Option Bool :=
 match op with
 | .eql => some (m == n)
 | .neq => some (m != n)
 | .lss => some (decide (m < n))
 | .leq => some (decide (m ≤ n))
 | .gtr => some (decide (m > n))
 | .geq => some (decide (m ≥ n))
 | _ => none
theorem ok_cmp {op : BinOp} {k : IntKind} {m n : Int} {b : Bool} {t t' : TypeId} {x y : Operand} (hx : ρ x = .int k m) (hy : ρ y = .int k n) (hb : cmpB op m n = some b) (hv : v = .bool b) : (execOp ρ ⟨d, .binOp op t x y t', ty, pos, aft, gd⟩).run P w = .ok (.value v) w := by
 subst hv
 cases op <;> simp only [cmpB] at hb <;> cases hb
 all_goals
  unfold execOp
  simp only [hx, hy, eqGuard, binOp, Op.intCmp, ne_eq, not_true_eq_false, if_false, Sem.run_bind, Sem.run_pure]
  rfl
end
end Go.Proofs.YtfdjcakgolenbaaGreat
