/-
  The structs that the programs use, as Lean structures: their cells, how one is read at an index, how two are compared.
-/
import Derived.Test.YtccjddbcdmgefaaBase
import Derived.Test.YtccjddbcdmgefaaRows
namespace Go.Proofs.Ytccjddbcdmgefaa
open Go.RowKit

structure Box where
  id : Int
  num : ByteArray
  size : Int
  high : Bool
  kilos : Int
  load : Int
  dis : Int
  cls : Int
  reefer : Bool
deriving DecidableEq

def Box.cells (b : Box) : List Value := [.int .i64 b.id, .string b.num, .int .u8 b.size, .bool b.high, .int .i64 b.kilos, .int .i64 b.load, .int .i64 b.dis, .int .u8 b.cls, .bool b.reefer]
abbrev Box.val (b : Box) : Value := .agg #[.int .i64 b.id, .string b.num, .int .u8 b.size, .bool b.high, .int .i64 b.kilos, .int .i64 b.load, .int .i64 b.dis, .int .u8 b.cls, .bool b.reefer]
theorem Box.len (b : Box) : b.cells.length = 9 := rfl
theorem Box.one (b : Box) : ∀ u ∈ b.cells, u.oneCell' = true := by simp [Box.cells, Value.oneCell']
theorem Box.lens (l : List Box) : ∀ cs ∈ l.map Box.cells, cs.length = 9 := by
  intro cs h
  obtain ⟨b, _, rfl⟩ := List.mem_map.1 h
  rfl
theorem Box.ones (l : List Box) : ∀ cs ∈ l.map Box.cells, ∀ u ∈ cs, u.oneCell' = true := by
  intro cs h
  obtain ⟨b, _, rfl⟩ := List.mem_map.1 h
  exact b.one
theorem Box.at_ {w : World} {B : Nat} {A : Option Addr} {l : List Box} (h : Rd w B 9 A (l.map Box.cells)) (k : Nat) (hk : k < l.length) :
    ∃ b off, A = some ⟨b, off, none⟩ ∧ b < B ∧ ∀ w', Below B w w' →
      w'.cell? ⟨b, off + k * 9, none⟩ = some (.int .i64 l[k].id) ∧
      w'.cell? ⟨b, off + k * 9 + 1, none⟩ = some (.string l[k].num) ∧
      w'.cell? ⟨b, off + k * 9 + 2, none⟩ = some (.int .u8 l[k].size) ∧
      w'.cell? ⟨b, off + k * 9 + 3, none⟩ = some (.bool l[k].high) ∧
      w'.cell? ⟨b, off + k * 9 + 4, none⟩ = some (.int .i64 l[k].kilos) ∧
      w'.cell? ⟨b, off + k * 9 + 5, none⟩ = some (.int .i64 l[k].load) ∧
      w'.cell? ⟨b, off + k * 9 + 6, none⟩ = some (.int .i64 l[k].dis) ∧
      w'.cell? ⟨b, off + k * 9 + 7, none⟩ = some (.int .u8 l[k].cls) ∧
      w'.cell? ⟨b, off + k * 9 + 8, none⟩ = some (.bool l[k].reefer) := by
  obtain ⟨b, off, e, hlt, _, hc⟩ := h k l[k].cells (by simp [hk])
  refine ⟨b, off, e, hlt, fun w' hb => ?_⟩
  have hq : ∀ j u, l[k].cells[j]? = some u → w'.cell? ⟨b, off + k * 9 + j, none⟩ = some u := fun j u hu => (hb.cell (p := ⟨b, _, none⟩) (by simpa using hlt)).trans (hc j u hu)
  exact ⟨hq 0 _ rfl, hq 1 _ rfl, hq 2 _ rfl, hq 3 _ rfl, hq 4 _ rfl, hq 5 _ rfl, hq 6 _ rfl, hq 7 _ rfl, hq 8 _ rfl⟩
theorem Box.eql_ (x y : Box) (w : World) : (binOp .eql 73 (.agg #[.int .i64 x.id, .string x.num, .int .u8 x.size, .bool x.high, .int .i64 x.kilos, .int .i64 x.load, .int .i64 x.dis, .int .u8 x.cls, .bool x.reefer]) (.agg #[.int .i64 y.id, .string y.num, .int .u8 y.size, .bool y.high, .int .i64 y.kilos, .int .i64 y.load, .int .i64 y.dis, .int .u8 y.cls, .bool y.reefer])).run Try.prog w = .ok (.bool (decide (x = y))) w := by
  go_simp
  rcases x with ⟨x0, x1, x2, x3, x4, x5, x6, x7, x8⟩
  rcases y with ⟨y0, y1, y2, y3, y4, y5, y6, y7, y8⟩
  simp only [Box.mk.injEq]
  by_cases h0 : x0 = y0
  case neg => simp [h0]
  subst h0
  by_cases h1 : x1 = y1
  case neg => simp [h1, toList_eq]
  subst h1
  by_cases h2 : x2 = y2
  case neg => simp [h2]
  subst h2
  by_cases h3 : x3 = y3
  case neg => simp [h3]
  subst h3
  by_cases h4 : x4 = y4
  case neg => simp [h4]
  subst h4
  by_cases h5 : x5 = y5
  case neg => simp [h5]
  subst h5
  by_cases h6 : x6 = y6
  case neg => simp [h6]
  subst h6
  by_cases h7 : x7 = y7
  case neg => simp [h7]
  subst h7
  by_cases h8 : x8 = y8
  case neg => simp [h8]
  subst h8
  simp
theorem Box.neq_ (x y : Box) (w : World) : (binOp .neq 73 (.agg #[.int .i64 x.id, .string x.num, .int .u8 x.size, .bool x.high, .int .i64 x.kilos, .int .i64 x.load, .int .i64 x.dis, .int .u8 x.cls, .bool x.reefer]) (.agg #[.int .i64 y.id, .string y.num, .int .u8 y.size, .bool y.high, .int .i64 y.kilos, .int .i64 y.load, .int .i64 y.dis, .int .u8 y.cls, .bool y.reefer])).run Try.prog w = .ok (.bool (!decide (x = y))) w := by
  go_simp
  rcases x with ⟨x0, x1, x2, x3, x4, x5, x6, x7, x8⟩
  rcases y with ⟨y0, y1, y2, y3, y4, y5, y6, y7, y8⟩
  simp only [Box.mk.injEq]
  by_cases h0 : x0 = y0
  case neg => simp [h0]
  subst h0
  by_cases h1 : x1 = y1
  case neg => simp [h1, toList_eq]
  subst h1
  by_cases h2 : x2 = y2
  case neg => simp [h2]
  subst h2
  by_cases h3 : x3 = y3
  case neg => simp [h3]
  subst h3
  by_cases h4 : x4 = y4
  case neg => simp [h4]
  subst h4
  by_cases h5 : x5 = y5
  case neg => simp [h5]
  subst h5
  by_cases h6 : x6 = y6
  case neg => simp [h6]
  subst h6
  by_cases h7 : x7 = y7
  case neg => simp [h7]
  subst h7
  by_cases h8 : x8 = y8
  case neg => simp [h8]
  subst h8
  simp
theorem Box.row : IsRow Try.prog 73 9 := ⟨_, Try.underlying73, by kernel_rfl, by kernel_rfl⟩
theorem Box.ld {w : World} {B : Nat} {A : Option Addr} {css : List (List Value)} (h : Rd w B 9 A css) {k : Nat} {b : Box} (hk : css[k]? = some b.cells) :
    ∃ g off, A = some ⟨g, off, none⟩ ∧ g < B ∧ ∀ w', Below B w w' → (loadVar 73 ⟨g, off + k * 9, none⟩).run Try.prog w' = .ok b.val w' := h.ld Box.row hk
theorem Box.ei : EI Try.prog 22 73 9 64 := EI.mk (z := .agg #[.int .i64 0, .string ⟨#[]⟩, .int .u8 0, .bool false, .int .i64 0, .int .i64 0, .int .i64 0, .int .u8 0, .bool false]) Try.underlying22 (by kernel_rfl) rfl (by omega)

structure Stowed where
  box : Int
  col : Int
  tier : Int
  half : Int
deriving DecidableEq

def Stowed.cells (b : Stowed) : List Value := [.int .i64 b.box, .int .i64 b.col, .int .i64 b.tier, .int .u8 b.half]
abbrev Stowed.val (b : Stowed) : Value := .agg #[.int .i64 b.box, .int .i64 b.col, .int .i64 b.tier, .int .u8 b.half]
theorem Stowed.len (b : Stowed) : b.cells.length = 4 := rfl
theorem Stowed.one (b : Stowed) : ∀ u ∈ b.cells, u.oneCell' = true := by simp [Stowed.cells, Value.oneCell']
theorem Stowed.lens (l : List Stowed) : ∀ cs ∈ l.map Stowed.cells, cs.length = 4 := by
  intro cs h
  obtain ⟨b, _, rfl⟩ := List.mem_map.1 h
  rfl
theorem Stowed.ones (l : List Stowed) : ∀ cs ∈ l.map Stowed.cells, ∀ u ∈ cs, u.oneCell' = true := by
  intro cs h
  obtain ⟨b, _, rfl⟩ := List.mem_map.1 h
  exact b.one
theorem Stowed.at_ {w : World} {B : Nat} {A : Option Addr} {l : List Stowed} (h : Rd w B 4 A (l.map Stowed.cells)) (k : Nat) (hk : k < l.length) :
    ∃ b off, A = some ⟨b, off, none⟩ ∧ b < B ∧ ∀ w', Below B w w' →
      w'.cell? ⟨b, off + k * 4, none⟩ = some (.int .i64 l[k].box) ∧
      w'.cell? ⟨b, off + k * 4 + 1, none⟩ = some (.int .i64 l[k].col) ∧
      w'.cell? ⟨b, off + k * 4 + 2, none⟩ = some (.int .i64 l[k].tier) ∧
      w'.cell? ⟨b, off + k * 4 + 3, none⟩ = some (.int .u8 l[k].half) := by
  obtain ⟨b, off, e, hlt, _, hc⟩ := h k l[k].cells (by simp [hk])
  refine ⟨b, off, e, hlt, fun w' hb => ?_⟩
  have hq : ∀ j u, l[k].cells[j]? = some u → w'.cell? ⟨b, off + k * 4 + j, none⟩ = some u := fun j u hu => (hb.cell (p := ⟨b, _, none⟩) (by simpa using hlt)).trans (hc j u hu)
  exact ⟨hq 0 _ rfl, hq 1 _ rfl, hq 2 _ rfl, hq 3 _ rfl⟩
theorem Stowed.eql_ (x y : Stowed) (w : World) : (binOp .eql 42 (.agg #[.int .i64 x.box, .int .i64 x.col, .int .i64 x.tier, .int .u8 x.half]) (.agg #[.int .i64 y.box, .int .i64 y.col, .int .i64 y.tier, .int .u8 y.half])).run Try.prog w = .ok (.bool (decide (x = y))) w := by
  go_simp
  rcases x with ⟨x0, x1, x2, x3⟩
  rcases y with ⟨y0, y1, y2, y3⟩
  simp only [Stowed.mk.injEq]
  by_cases h0 : x0 = y0
  case neg => simp [h0]
  subst h0
  by_cases h1 : x1 = y1
  case neg => simp [h1]
  subst h1
  by_cases h2 : x2 = y2
  case neg => simp [h2]
  subst h2
  by_cases h3 : x3 = y3
  case neg => simp [h3]
  subst h3
  simp
theorem Stowed.neq_ (x y : Stowed) (w : World) : (binOp .neq 42 (.agg #[.int .i64 x.box, .int .i64 x.col, .int .i64 x.tier, .int .u8 x.half]) (.agg #[.int .i64 y.box, .int .i64 y.col, .int .i64 y.tier, .int .u8 y.half])).run Try.prog w = .ok (.bool (!decide (x = y))) w := by
  go_simp
  rcases x with ⟨x0, x1, x2, x3⟩
  rcases y with ⟨y0, y1, y2, y3⟩
  simp only [Stowed.mk.injEq]
  by_cases h0 : x0 = y0
  case neg => simp [h0]
  subst h0
  by_cases h1 : x1 = y1
  case neg => simp [h1]
  subst h1
  by_cases h2 : x2 = y2
  case neg => simp [h2]
  subst h2
  by_cases h3 : x3 = y3
  case neg => simp [h3]
  subst h3
  simp
theorem Stowed.row : IsRow Try.prog 42 4 := ⟨_, Try.underlying42, by kernel_rfl, by kernel_rfl⟩
theorem Stowed.ld {w : World} {B : Nat} {A : Option Addr} {css : List (List Value)} (h : Rd w B 4 A css) {k : Nat} {b : Stowed} (hk : css[k]? = some b.cells) :
    ∃ g off, A = some ⟨g, off, none⟩ ∧ g < B ∧ ∀ w', Below B w w' → (loadVar 42 ⟨g, off + k * 4, none⟩).run Try.prog w' = .ok b.val w' := h.ld Stowed.row hk
theorem Stowed.ei : EI Try.prog 31 42 4 32 := EI.mk (z := .agg #[.int .i64 0, .int .i64 0, .int .i64 0, .int .u8 0]) Try.underlying31 (by kernel_rfl) rfl (by omega)

structure Slot where
  col : Int
  tier : Int
  half : Int
deriving DecidableEq

def Slot.cells (b : Slot) : List Value := [.int .i64 b.col, .int .i64 b.tier, .int .u8 b.half]
abbrev Slot.val (b : Slot) : Value := .agg #[.int .i64 b.col, .int .i64 b.tier, .int .u8 b.half]
theorem Slot.len (b : Slot) : b.cells.length = 3 := rfl
theorem Slot.one (b : Slot) : ∀ u ∈ b.cells, u.oneCell' = true := by simp [Slot.cells, Value.oneCell']
theorem Slot.lens (l : List Slot) : ∀ cs ∈ l.map Slot.cells, cs.length = 3 := by
  intro cs h
  obtain ⟨b, _, rfl⟩ := List.mem_map.1 h
  rfl
theorem Slot.ones (l : List Slot) : ∀ cs ∈ l.map Slot.cells, ∀ u ∈ cs, u.oneCell' = true := by
  intro cs h
  obtain ⟨b, _, rfl⟩ := List.mem_map.1 h
  exact b.one
theorem Slot.at_ {w : World} {B : Nat} {A : Option Addr} {l : List Slot} (h : Rd w B 3 A (l.map Slot.cells)) (k : Nat) (hk : k < l.length) :
    ∃ b off, A = some ⟨b, off, none⟩ ∧ b < B ∧ ∀ w', Below B w w' →
      w'.cell? ⟨b, off + k * 3, none⟩ = some (.int .i64 l[k].col) ∧
      w'.cell? ⟨b, off + k * 3 + 1, none⟩ = some (.int .i64 l[k].tier) ∧
      w'.cell? ⟨b, off + k * 3 + 2, none⟩ = some (.int .u8 l[k].half) := by
  obtain ⟨b, off, e, hlt, _, hc⟩ := h k l[k].cells (by simp [hk])
  refine ⟨b, off, e, hlt, fun w' hb => ?_⟩
  have hq : ∀ j u, l[k].cells[j]? = some u → w'.cell? ⟨b, off + k * 3 + j, none⟩ = some u := fun j u hu => (hb.cell (p := ⟨b, _, none⟩) (by simpa using hlt)).trans (hc j u hu)
  exact ⟨hq 0 _ rfl, hq 1 _ rfl, hq 2 _ rfl⟩
theorem Slot.eql_ (x y : Slot) (w : World) : (binOp .eql 40 (.agg #[.int .i64 x.col, .int .i64 x.tier, .int .u8 x.half]) (.agg #[.int .i64 y.col, .int .i64 y.tier, .int .u8 y.half])).run Try.prog w = .ok (.bool (decide (x = y))) w := by
  go_simp
  rcases x with ⟨x0, x1, x2⟩
  rcases y with ⟨y0, y1, y2⟩
  simp only [Slot.mk.injEq]
  by_cases h0 : x0 = y0
  case neg => simp [h0]
  subst h0
  by_cases h1 : x1 = y1
  case neg => simp [h1]
  subst h1
  by_cases h2 : x2 = y2
  case neg => simp [h2]
  subst h2
  simp
theorem Slot.neq_ (x y : Slot) (w : World) : (binOp .neq 40 (.agg #[.int .i64 x.col, .int .i64 x.tier, .int .u8 x.half]) (.agg #[.int .i64 y.col, .int .i64 y.tier, .int .u8 y.half])).run Try.prog w = .ok (.bool (!decide (x = y))) w := by
  go_simp
  rcases x with ⟨x0, x1, x2⟩
  rcases y with ⟨y0, y1, y2⟩
  simp only [Slot.mk.injEq]
  by_cases h0 : x0 = y0
  case neg => simp [h0]
  subst h0
  by_cases h1 : x1 = y1
  case neg => simp [h1]
  subst h1
  by_cases h2 : x2 = y2
  case neg => simp [h2]
  subst h2
  simp
theorem Slot.row : IsRow Try.prog 40 3 := ⟨_, Try.underlying40, by kernel_rfl, by kernel_rfl⟩
theorem Slot.ld {w : World} {B : Nat} {A : Option Addr} {css : List (List Value)} (h : Rd w B 3 A css) {k : Nat} {b : Slot} (hk : css[k]? = some b.cells) :
    ∃ g off, A = some ⟨g, off, none⟩ ∧ g < B ∧ ∀ w', Below B w w' → (loadVar 40 ⟨g, off + k * 3, none⟩).run Try.prog w' = .ok b.val w' := h.ld Slot.row hk

structure Chg where
  kind : Int
  call : Int
  box : Int
  kilos : Int
deriving DecidableEq

def Chg.cells (b : Chg) : List Value := [.int .u8 b.kind, .int .i64 b.call, .int .i64 b.box, .int .i64 b.kilos]
abbrev Chg.val (b : Chg) : Value := .agg #[.int .u8 b.kind, .int .i64 b.call, .int .i64 b.box, .int .i64 b.kilos]
theorem Chg.len (b : Chg) : b.cells.length = 4 := rfl
theorem Chg.one (b : Chg) : ∀ u ∈ b.cells, u.oneCell' = true := by simp [Chg.cells, Value.oneCell']
theorem Chg.lens (l : List Chg) : ∀ cs ∈ l.map Chg.cells, cs.length = 4 := by
  intro cs h
  obtain ⟨b, _, rfl⟩ := List.mem_map.1 h
  rfl
theorem Chg.ones (l : List Chg) : ∀ cs ∈ l.map Chg.cells, ∀ u ∈ cs, u.oneCell' = true := by
  intro cs h
  obtain ⟨b, _, rfl⟩ := List.mem_map.1 h
  exact b.one
theorem Chg.at_ {w : World} {B : Nat} {A : Option Addr} {l : List Chg} (h : Rd w B 4 A (l.map Chg.cells)) (k : Nat) (hk : k < l.length) :
    ∃ b off, A = some ⟨b, off, none⟩ ∧ b < B ∧ ∀ w', Below B w w' →
      w'.cell? ⟨b, off + k * 4, none⟩ = some (.int .u8 l[k].kind) ∧
      w'.cell? ⟨b, off + k * 4 + 1, none⟩ = some (.int .i64 l[k].call) ∧
      w'.cell? ⟨b, off + k * 4 + 2, none⟩ = some (.int .i64 l[k].box) ∧
      w'.cell? ⟨b, off + k * 4 + 3, none⟩ = some (.int .i64 l[k].kilos) := by
  obtain ⟨b, off, e, hlt, _, hc⟩ := h k l[k].cells (by simp [hk])
  refine ⟨b, off, e, hlt, fun w' hb => ?_⟩
  have hq : ∀ j u, l[k].cells[j]? = some u → w'.cell? ⟨b, off + k * 4 + j, none⟩ = some u := fun j u hu => (hb.cell (p := ⟨b, _, none⟩) (by simpa using hlt)).trans (hc j u hu)
  exact ⟨hq 0 _ rfl, hq 1 _ rfl, hq 2 _ rfl, hq 3 _ rfl⟩
theorem Chg.eql_ (x y : Chg) (w : World) : (binOp .eql 37 (.agg #[.int .u8 x.kind, .int .i64 x.call, .int .i64 x.box, .int .i64 x.kilos]) (.agg #[.int .u8 y.kind, .int .i64 y.call, .int .i64 y.box, .int .i64 y.kilos])).run Try.prog w = .ok (.bool (decide (x = y))) w := by
  go_simp
  rcases x with ⟨x0, x1, x2, x3⟩
  rcases y with ⟨y0, y1, y2, y3⟩
  simp only [Chg.mk.injEq]
  by_cases h0 : x0 = y0
  case neg => simp [h0]
  subst h0
  by_cases h1 : x1 = y1
  case neg => simp [h1]
  subst h1
  by_cases h2 : x2 = y2
  case neg => simp [h2]
  subst h2
  by_cases h3 : x3 = y3
  case neg => simp [h3]
  subst h3
  simp
theorem Chg.neq_ (x y : Chg) (w : World) : (binOp .neq 37 (.agg #[.int .u8 x.kind, .int .i64 x.call, .int .i64 x.box, .int .i64 x.kilos]) (.agg #[.int .u8 y.kind, .int .i64 y.call, .int .i64 y.box, .int .i64 y.kilos])).run Try.prog w = .ok (.bool (!decide (x = y))) w := by
  go_simp
  rcases x with ⟨x0, x1, x2, x3⟩
  rcases y with ⟨y0, y1, y2, y3⟩
  simp only [Chg.mk.injEq]
  by_cases h0 : x0 = y0
  case neg => simp [h0]
  subst h0
  by_cases h1 : x1 = y1
  case neg => simp [h1]
  subst h1
  by_cases h2 : x2 = y2
  case neg => simp [h2]
  subst h2
  by_cases h3 : x3 = y3
  case neg => simp [h3]
  subst h3
  simp
theorem Chg.row : IsRow Try.prog 37 4 := ⟨_, Try.underlying37, by kernel_rfl, by kernel_rfl⟩
theorem Chg.ld {w : World} {B : Nat} {A : Option Addr} {css : List (List Value)} (h : Rd w B 4 A css) {k : Nat} {b : Chg} (hk : css[k]? = some b.cells) :
    ∃ g off, A = some ⟨g, off, none⟩ ∧ g < B ∧ ∀ w', Below B w w' → (loadVar 37 ⟨g, off + k * 4, none⟩).run Try.prog w' = .ok b.val w' := h.ld Chg.row hk
theorem Chg.ei : EI Try.prog 23 37 4 32 := EI.mk (z := .agg #[.int .u8 0, .int .i64 0, .int .i64 0, .int .i64 0]) Try.underlying23 (by kernel_rfl) rfl (by omega)

structure RChg where
  kind : Int
  call : Int
  box : Int
  kilos : Int
deriving DecidableEq

def RChg.cells (b : RChg) : List Value := [.int .i64 b.kind, .int .i64 b.call, .int .i64 b.box, .int .i64 b.kilos]
abbrev RChg.val (b : RChg) : Value := .agg #[.int .i64 b.kind, .int .i64 b.call, .int .i64 b.box, .int .i64 b.kilos]
theorem RChg.len (b : RChg) : b.cells.length = 4 := rfl
theorem RChg.one (b : RChg) : ∀ u ∈ b.cells, u.oneCell' = true := by simp [RChg.cells, Value.oneCell']
theorem RChg.lens (l : List RChg) : ∀ cs ∈ l.map RChg.cells, cs.length = 4 := by
  intro cs h
  obtain ⟨b, _, rfl⟩ := List.mem_map.1 h
  rfl
theorem RChg.ones (l : List RChg) : ∀ cs ∈ l.map RChg.cells, ∀ u ∈ cs, u.oneCell' = true := by
  intro cs h
  obtain ⟨b, _, rfl⟩ := List.mem_map.1 h
  exact b.one
theorem RChg.at_ {w : World} {B : Nat} {A : Option Addr} {l : List RChg} (h : Rd w B 4 A (l.map RChg.cells)) (k : Nat) (hk : k < l.length) :
    ∃ b off, A = some ⟨b, off, none⟩ ∧ b < B ∧ ∀ w', Below B w w' →
      w'.cell? ⟨b, off + k * 4, none⟩ = some (.int .i64 l[k].kind) ∧
      w'.cell? ⟨b, off + k * 4 + 1, none⟩ = some (.int .i64 l[k].call) ∧
      w'.cell? ⟨b, off + k * 4 + 2, none⟩ = some (.int .i64 l[k].box) ∧
      w'.cell? ⟨b, off + k * 4 + 3, none⟩ = some (.int .i64 l[k].kilos) := by
  obtain ⟨b, off, e, hlt, _, hc⟩ := h k l[k].cells (by simp [hk])
  refine ⟨b, off, e, hlt, fun w' hb => ?_⟩
  have hq : ∀ j u, l[k].cells[j]? = some u → w'.cell? ⟨b, off + k * 4 + j, none⟩ = some u := fun j u hu => (hb.cell (p := ⟨b, _, none⟩) (by simpa using hlt)).trans (hc j u hu)
  exact ⟨hq 0 _ rfl, hq 1 _ rfl, hq 2 _ rfl, hq 3 _ rfl⟩
theorem RChg.eql_ (x y : RChg) (w : World) : (binOp .eql 58 (.agg #[.int .i64 x.kind, .int .i64 x.call, .int .i64 x.box, .int .i64 x.kilos]) (.agg #[.int .i64 y.kind, .int .i64 y.call, .int .i64 y.box, .int .i64 y.kilos])).run Try.prog w = .ok (.bool (decide (x = y))) w := by
  go_simp
  rcases x with ⟨x0, x1, x2, x3⟩
  rcases y with ⟨y0, y1, y2, y3⟩
  simp only [RChg.mk.injEq]
  by_cases h0 : x0 = y0
  case neg => simp [h0]
  subst h0
  by_cases h1 : x1 = y1
  case neg => simp [h1]
  subst h1
  by_cases h2 : x2 = y2
  case neg => simp [h2]
  subst h2
  by_cases h3 : x3 = y3
  case neg => simp [h3]
  subst h3
  simp
theorem RChg.neq_ (x y : RChg) (w : World) : (binOp .neq 58 (.agg #[.int .i64 x.kind, .int .i64 x.call, .int .i64 x.box, .int .i64 x.kilos]) (.agg #[.int .i64 y.kind, .int .i64 y.call, .int .i64 y.box, .int .i64 y.kilos])).run Try.prog w = .ok (.bool (!decide (x = y))) w := by
  go_simp
  rcases x with ⟨x0, x1, x2, x3⟩
  rcases y with ⟨y0, y1, y2, y3⟩
  simp only [RChg.mk.injEq]
  by_cases h0 : x0 = y0
  case neg => simp [h0]
  subst h0
  by_cases h1 : x1 = y1
  case neg => simp [h1]
  subst h1
  by_cases h2 : x2 = y2
  case neg => simp [h2]
  subst h2
  by_cases h3 : x3 = y3
  case neg => simp [h3]
  subst h3
  simp
theorem RChg.row : IsRow Try.prog 58 4 := ⟨_, Try.underlying58, by kernel_rfl, by kernel_rfl⟩
theorem RChg.ld {w : World} {B : Nat} {A : Option Addr} {css : List (List Value)} (h : Rd w B 4 A css) {k : Nat} {b : RChg} (hk : css[k]? = some b.cells) :
    ∃ g off, A = some ⟨g, off, none⟩ ∧ g < B ∧ ∀ w', Below B w w' → (loadVar 58 ⟨g, off + k * 4, none⟩).run Try.prog w' = .ok b.val w' := h.ld RChg.row hk
theorem RChg.ei : EI Try.prog 49 58 4 32 := EI.mk (z := .agg #[.int .i64 0, .int .i64 0, .int .i64 0, .int .i64 0]) Try.underlying49 (by kernel_rfl) rfl (by omega)

abbrev Num := Int
def Num.cells (n : Num) : List Value := [.int .i64 n]
abbrev Num.val (n : Num) : Value := .int .i64 n
theorem Num.one (n : Num) : ∀ u ∈ n.cells, u.oneCell' = true := by simp [Num.cells, Value.oneCell']
theorem Num.lens (l : List Num) : ∀ cs ∈ l.map Num.cells, cs.length = 1 := by
  intro cs h
  obtain ⟨b, _, rfl⟩ := List.mem_map.1 h
  rfl
theorem Num.ones (l : List Num) : ∀ cs ∈ l.map Num.cells, ∀ u ∈ cs, u.oneCell' = true := by
  intro cs h
  obtain ⟨b, _, rfl⟩ := List.mem_map.1 h
  exact Num.one b
theorem Num.ld {w : World} {B : Nat} {A : Option Addr} {css : List (List Value)} (h : Rd w B 1 A css) {k : Nat} {n : Num} (hk : css[k]? = some n.cells) :
    ∃ g off, A = some ⟨g, off, none⟩ ∧ g < B ∧ ∀ w', Below B w w' → (loadVar 3 ⟨g, off + k, none⟩).run Try.prog w' = .ok n.val w' := by
  obtain ⟨b, off, e, hlt, _, hc⟩ := h k n.cells hk
  refine ⟨b, off, e, hlt, fun w' hb => ?_⟩
  have h0 := hc 0 _ rfl
  simp only [Nat.mul_one, Nat.add_zero] at h0
  have h1 := (hb.cell (p := ⟨b, off + k, none⟩) (by simpa using hlt)).trans h0
  go_simp
theorem Num.at_ {w : World} {B : Nat} {A : Option Addr} {l : List Num} (h : Rd w B 1 A (l.map Num.cells)) (k : Nat) (hk : k < l.length) :
    ∃ b off, A = some ⟨b, off, none⟩ ∧ b < B ∧ ∀ w', Below B w w' → w'.cell? ⟨b, off + k, none⟩ = some (.int .i64 l[k]) := by
  obtain ⟨b, off, e, hlt, _, hc⟩ := h k (Num.cells l[k]) (by simp [hk])
  refine ⟨b, off, e, hlt, fun w' hb => ?_⟩
  have h0 := hc 0 _ rfl
  simp only [Nat.mul_one, Nat.add_zero] at h0
  exact (hb.cell (p := ⟨b, _, none⟩) (by simpa using hlt)).trans h0
theorem Num.eql_ (x y : Num) (w : World) : (binOp .eql 3 x.val y.val).run Try.prog w = .ok (.bool (x == y)) w := by go_simp
theorem Num.neq_ (x y : Num) (w : World) : (binOp .neq 3 x.val y.val).run Try.prog w = .ok (.bool (x != y)) w := by go_simp
theorem Num.ei : EI Try.prog 35 3 1 8 := EI.mk (z := .int .i64 0) Try.underlying35 (by kernel_rfl) rfl (by omega)

end Go.Proofs.Ytccjddbcdmgefaa
