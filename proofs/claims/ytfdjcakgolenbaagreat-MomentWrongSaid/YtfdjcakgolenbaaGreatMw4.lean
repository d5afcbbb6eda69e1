/-
  strength: are all weights of a kind (slices.ContainsFunc); sure.
-/
import Derived.Test.YtfdjcakgolenbaaGreatMw3
import Derived.Maps.Keyed
import Derived.Maps.RangeRun
set_option linter.unusedVariables false
set_option linter.unusedSimpArgs false
namespace Go.Proofs.YtfdjcakgolenbaaGreat
open Go.RowKit
def Tells {α : Type} (P : Program) (w : World) (fn : FuncId) (caps : Array Value) (val : α -> Value) (p : α -> Bool) (l : List α) : Prop :=
 ∀ x ∈ l, ∀ w', Below w.heap.size w w' -> Calls P fn (#[val x] ++ caps) w' fun e w2 => e = .returned (.bool (p x)) /\ Below w'.heap.size w' w2
def idx {α : Type} (p : α -> Bool) (l : List α) : Int := match l.findIdx? p with | some i => i | none => -1
theorem idx_found {α : Type} {p : α -> Bool} {l : List α} {k : Nat} (hk : k < l.length) (hj : ∀ j, (h : j < k) -> p l[j] = false) (hx : p l[k] = true) : idx p l = k := by
 have : l.findIdx? p = some k := by
  rw [List.findIdx?_eq_some_iff_getElem];exact ⟨hk, hx, fun j hjk => by simp [hj j hjk]⟩
 unfold idx;rw [this]
theorem idx_none {α : Type} {p : α -> Bool} {l : List α} (hj : ∀ j, (h : j < l.length) -> p l[j] = false) : idx p l = -1 := by
 have : l.findIdx? p = none := by
  rw [List.findIdx?_eq_none_iff];intro x hx;obtain ⟨j, hj', rfl⟩ := List.mem_iff_getElem.1 hx;exact hj j hj'
 unfold idx;rw [this]
theorem idx_cases {α : Type} (p : α -> Bool) (l : List α) : (idx p l = -1 /\ ∀ x ∈ l, p x = false) \/ ∃ k, ∃ h : k < l.length, idx p l = k /\ p l[k] = true /\ l.find? p = some l[k] := by
 unfold idx
 cases hf : l.findIdx? p with
 | none => exact .inl ⟨rfl, by simpa using hf⟩
 | some k =>
  rw [List.findIdx?_eq_some_iff_getElem] at hf;obtain ⟨h, h1, h2⟩ := hf;refine .inr ⟨k, h, rfl, h1, ?_⟩;rw [List.find?_eq_some_iff_getElem];exact ⟨h1, k, h, rfl, fun j hj => by have := h2 j hj; simpa using this⟩
structure Box where
 id : Int
 num : ByteArray
 size : Int
 high : Bool
 kilos : Int
 load : Int
 dis : Int
 cls : Int
 reefer : Bool
deriving DecidableEq
def Box.cells (b : Box) : List Value := [.int .i64 b.id, .string b.num, .int .u8 b.size, .bool b.high, .int .i64 b.kilos, .int .i64 b.load, .int .i64 b.dis, .int .u8 b.cls, .bool b.reefer]
abbrev Box.val (b : Box) : Value := .agg #[.int .i64 b.id, .string b.num, .int .u8 b.size, .bool b.high, .int .i64 b.kilos, .int .i64 b.load, .int .i64 b.dis, .int .u8 b.cls, .bool b.reefer]
structure Stowed where
 box : Int
 col : Int
 tier : Int
 half : Int
deriving DecidableEq
def Stowed.cells (b : Stowed) : List Value := [.int .i64 b.box, .int .i64 b.col, .int .i64 b.tier, .int .u8 b.half]
theorem Stowed.one (b : Stowed) : ∀ u ∈ b.cells, u.oneCell' = true := by simp [Stowed.cells, Value.oneCell']
theorem Stowed.ones (l : List Stowed) : ∀ cs ∈ l.map Stowed.cells, ∀ u ∈ cs, u.oneCell' = true := by
 intro cs h;obtain ⟨b, _, rfl⟩ := List.mem_map.1 h;exact b.one
theorem Stowed.ei : EI Tryz.prog 34 42 4 32 := EI.mk (z := .agg #[.int .i64 0, .int .i64 0, .int .i64 0, .int .u8 0]) Tryz.underlying34 (by kernel_rfl) rfl (by omega)
structure Slot where
 col : Int
 tier : Int
 half : Int
deriving DecidableEq
def Slot.cells (b : Slot) : List Value := [.int .i64 b.col, .int .i64 b.tier, .int .u8 b.half]
abbrev Slot.val (b : Slot) : Value := .agg #[.int .i64 b.col, .int .i64 b.tier, .int .u8 b.half]
theorem Slot.row : IsRow Tryz.prog 40 3 := ⟨_, Tryz.underlying40, by kernel_rfl, by kernel_rfl⟩
theorem Slot.ei : EI Tryz.prog 162 40 3 24 := EI.mk (z := .agg #[.int .i64 0, .int .i64 0, .int .u8 0]) Tryz.underlying162 (by kernel_rfl) rfl (by omega)
structure Ld where
 kilos : Int
 x : Int
 y : Int
 z : Int
deriving DecidableEq
def Ld.cells (b : Ld) : List Value := [.int .i64 b.kilos, .int .i64 b.x, .int .i64 b.y, .int .i64 b.z]
abbrev Ld.val (b : Ld) : Value := .agg #[.int .i64 b.kilos, .int .i64 b.x, .int .i64 b.y, .int .i64 b.z]
theorem Ld.len (b : Ld) : b.cells.length = 4 := rfl
theorem Ld.one (b : Ld) : ∀ u ∈ b.cells, u.oneCell' = true := by simp [Ld.cells, Value.oneCell']
theorem Ld.row : IsRow Tryz.prog 48 4 := ⟨_, Tryz.underlying48, by kernel_rfl, by kernel_rfl⟩
theorem Ld.ld {w : World} {B : Nat} {A : Option Addr} {css : List (List Value)} (h : Rd w B 4 A css) {k : Nat} {b : Ld} (hk : css[k]? = some b.cells) :
 ∃ g off, A = some ⟨g, off, none⟩ /\ g < B /\ ∀ w', Below B w w' -> (loadVar 48 ⟨g, off + k * 4, none⟩).run Tryz.prog w' = .ok b.val w' := h.ld Ld.row hk
structure Spn where
 n : Int
 low : Int
 high : Int
deriving DecidableEq
structure Mid where
 box : Box
 x : Int
 y : Int
 h : Int
deriving DecidableEq
theorem map_get2 {α β : Type} (f : α -> β) (l : List α) (k : Nat) (h : k < l.length) : (l.map f)[k]? = some (f l[k]) := by simp [h]
set_option maxHeartbeats 1000000 in
theorem indexLd (A : Option Addr) (c : Nat) (l : List Ld) (n : Nat) (hn : n = l.length) (fn : FuncId) (caps : Array Value) (p : Ld -> Bool) (w : World) (hA : Rd w w.heap.size 4 A (l.map Ld.cells)) (hl : l.length <= 1000000000000) (hcf : ∀ w args, (callFunc fn args).run Tryz.prog w = .ok (.enter fn args) w) (hf : Tells Tryz.prog w fn caps Ld.val p l) :
 Calls Tryz.prog 90 #[.slice A n c, .func (.func fn) #[] caps] w fun e w' => e = .returned (.int .i64 (idx p l)) /\ Below w.heap.size w w' := by
 subst hn
 go_enter Tryz.func90, Tryz.ntmps90
 go_wp2
 have HF := Lib.hid hf;clear hf
 go_loopw [5, 8] (fun _ i wr => ∃ k : Nat, k <= l.length /\ i = .int .i64 k /\ (∀ j, (h : j < k) -> (h2 : j < l.length) -> p l[j] = false) /\ Below w.heap.size w wr) (fun _ i _ => l.length - (intOf i).toNat)
 case atStart => exact ⟨0, by omega, rfl, by omega, Below.refl _ _⟩
 case round =>
  obtain ⟨k, hk, rfl, hj, hb⟩ := hrel;have HJ := Lib.hid hj;clear hj;by_cases hlt : k < l.length
  . obtain ⟨b, off, rfl, hb1, hld⟩ := Ld.ld hA (map_get2 Ld.cells l k hlt);have HL := Lib.hid hld;clear hld
    go_wp2_with (first
     | (refine wpList_ld rfl _ _ rfl _ rfl _ (HL.out _ hb) ?_)
     | (refine (HF.out l[k] (List.getElem_mem hlt) _ hb).mono ?_; rintro e w' ⟨rfl, hb3⟩))
    . have ht : p l[k] = true := by assumption
      go_ret
      exact ⟨by rw [idx_found hlt (fun j h => HJ.out j h (by omega)) ht]; rfl, hb.trans (hb3.mono hb.size)⟩
    . have hf' : p l[k] = false := by assumption
      go_roundw
      case rel =>
       refine ⟨k + 1, by omega, by go_num, fun j h h2 => ?_, hb.trans (hb3.mono hb.size)⟩;rcases Nat.lt_or_ge j k with h3 | h3
       . exact HJ.out j h3 h2
       . obtain rfl : j = k := by omega
         exact hf'
      case measure => simp [intOf]; omega
  . obtain rfl : k = l.length := by omega
    have HI := Lib.hid (idx_none (fun j h => HJ.out j h h))
    go_wp2
    go_ret
    exact ⟨by rw [HI.out]; rfl, hb⟩
theorem any_idx {α : Type} (p : α -> Bool) (l : List α) : l.any p = decide (0 <= idx p l) := by
 rcases idx_cases p l with ⟨h1, h2⟩ | ⟨k, hk, h1, h2, _⟩
 . have h3 : l.any p = false := by
    rw [List.any_eq_false];intro x hx;simp [h2 x hx]
   rw [h1, h3];rfl
 . have h3 : l.any p = true := by
    rw [List.any_eq_true];exact ⟨_, List.getElem_mem hk, h2⟩
   rw [h1, h3];simp
theorem containsLd (A : Option Addr) (c : Nat) (l : List Ld) (n : Nat) (hn : n = l.length) (fn : FuncId) (caps : Array Value) (p : Ld -> Bool) (w : World) (hA : Rd w w.heap.size 4 A (l.map Ld.cells)) (hl : l.length <= 1000000000000) (hcf : ∀ w args, (callFunc fn args).run Tryz.prog w = .ok (.enter fn args) w) (hf : Tells Tryz.prog w fn caps Ld.val p l) :
 Calls Tryz.prog 49 #[.slice A n c, .func (.func fn) #[] caps] w fun e w' => e = .returned (.bool (l.any p)) /\ Below w.heap.size w w' := by
 have HI := Lib.hid (indexLd A c l n hn fn caps p w hA hl hcf hf);rw [any_idx];generalize idx p l = z at HI ⊢;clear hA hn hl hcf hf
 go_enter Tryz.func49, Tryz.ntmps49
 go_wp2_with (go_at_call 90; refine (HI.out).mono ?_; rintro e w2 ⟨rfl, hb2⟩)
 go_ret
 exact ⟨by first | rfl | simp, hb2⟩
end Go.Proofs.YtfdjcakgolenbaaGreat
namespace Go.Proofs.YtfdjcakgolenbaaGreat
def noText : ByteArray := ⟨#[]⟩
structure Col where
 bay : Int
 row : Int
 deck : Bool
 tiers : Int
 height : Int
 k20 : Int
 k40 : Int
 lash : Int
 plugs : List Int
 x : Int
 y : Int
 z : Int
deriving DecidableEq
structure Cov where
 bay : Int
 rows : List Int
deriving DecidableEq
structure Hrow where
 draught : Int
 kilos : Int
 buoy : Int
 mc : Int
 turn : Int
deriving DecidableEq
structure Tnk where
 kilos : Int
 x : Int
 y : Int
 z : Int
 surface : Int
 steps : List Int
deriving DecidableEq
structure Colq where
 bay : Int
 row : Int
 deck : Bool
 tiers : Int
 height : Int
 k20 : Int
 k40 : Int
 lash : Int
 plugs : List Int
 plugsN : Nat
 x : Int
 y : Int
 z : Int
deriving DecidableEq
structure Covq where
 bay : Int
 rows : List Int
 rowsN : Nat
deriving DecidableEq
structure Tnkq where
 kilos : Int
 x : Int
 y : Int
 z : Int
 surface : Int
 steps : List Int
 stepsN : Nat
deriving DecidableEq
structure Plc where
 bay : Int
 row : Int
 tiers : Int
 deck : Bool
deriving DecidableEq
structure Drp where
 col : Int
 kilos : Int
 small : Bool
 high : Bool
deriving DecidableEq
structure Wgt where
 kilos : Int
 x : Int
 y : Int
 z : Int
deriving DecidableEq
inductive Tc where
 | int | u8 | u32 | box | stowed | slot | ld | spn | col | cov | mid | hrow | frm | tnk | colq | covq | tnkq | plc | drp | wgt
deriving DecidableEq
abbrev Tc.el : Tc -> Type
 | .int => Int
 | .u8 => Int
 | .u32 => Int
 | .box => Box
 | .stowed => Stowed
 | .slot => Slot
 | .ld => Ld
 | .spn => Spn
 | .col => Col
 | .cov => Cov
 | .mid => Mid
 | .hrow => Hrow
 | .frm => Frm
 | .tnk => Tnk
 | .colq => Colq
 | .covq => Covq
 | .tnkq => Tnkq
 | .plc => Plc
 | .drp => Drp
 | .wgt => Wgt
def Tc.size : Tc -> Nat
 | .int => 1
 | .u8 => 1
 | .u32 => 1
 | .box => 9
 | .stowed => 4
 | .slot => 3
 | .ld => 4
 | .spn => 3
 | .col => 12
 | .cov => 2
 | .mid => 12
 | .hrow => 5
 | .frm => 5
 | .tnk => 6
 | .colq => 12
 | .covq => 2
 | .tnkq => 6
 | .plc => 4
 | .drp => 4
 | .wgt => 4
def Tc.dflt : (t : Tc) -> t.el
 | .int => (0 : Int)
 | .u8 => (0 : Int)
 | .u32 => (0 : Int)
 | .box => (⟨0, noText, 0, false, 0, 0, 0, 0, false⟩ : Box)
 | .stowed => (⟨0, 0, 0, 0⟩ : Stowed)
 | .slot => (⟨0, 0, 0⟩ : Slot)
 | .ld => (⟨0, 0, 0, 0⟩ : Ld)
 | .spn => (⟨0, 0, 0⟩ : Spn)
 | .col => (⟨0, 0, false, 0, 0, 0, 0, 0, [], 0, 0, 0⟩ : Col)
 | .cov => (⟨0, []⟩ : Cov)
 | .mid => (⟨⟨0, noText, 0, false, 0, 0, 0, 0, false⟩, 0, 0, 0⟩ : Mid)
 | .hrow => (⟨0, 0, 0, 0, 0⟩ : Hrow)
 | .frm => (⟨0, 0, 0, 0, 0⟩ : Frm)
 | .tnk => (⟨0, 0, 0, 0, 0, []⟩ : Tnk)
 | .colq => (⟨0, 0, false, 0, 0, 0, 0, 0, [], 0, 0, 0, 0⟩ : Colq)
 | .covq => (⟨0, [], 0⟩ : Covq)
 | .tnkq => (⟨0, 0, 0, 0, 0, [], 0⟩ : Tnkq)
 | .plc => (⟨0, 0, 0, false⟩ : Plc)
 | .drp => (⟨0, 0, false, false⟩ : Drp)
 | .wgt => (⟨0, 0, 0, 0⟩ : Wgt)
open Go.RowKit
theorem ok_load {P : Program} {ρ : Operand -> Value} {d : Option Nat} {T ty : TypeId} {x : Operand} {pos : String} {aft : Array Edge} {gd : Option (Nat × Bool)} {ad : Addr} {v : Value} {w : World} (hx : ρ x = .pointer (some ad)) (h : (loadVar T ad).run P w = .ok v w) :
 (execOp ρ ⟨d, .load T x, ty, pos, aft, gd⟩).run P w = .ok (.value v) w := by
 unfold execOp;simp only [hx, Instr.loadAt, Instr.sureAddr, Sem.run_bind, Sem.run_pure, Result.andThen_ok, h]
theorem ok_move {P : Program} {ρ : Operand -> Value} {d : Option Nat} {ty : TypeId} {x : Operand} {pos : String} {aft : Array Edge} {gd : Option (Nat × Bool)} {v : Value} {w : World} (hx : ρ x = v) : (execOp ρ ⟨d, .move x, ty, pos, aft, gd⟩).run P w = .ok (.value v) w := by
 subst hx; rfl
theorem ok_assign {P : Program} {ρ : Operand -> Value} {d : Option Nat} {ty : TypeId} {x : Operand} {pos : String} {aft : Array Edge} {gd : Option (Nat × Bool)} {v : Value} {w : World} (hx : ρ x = v) : (execOp ρ ⟨d, .assign x, ty, pos, aft, gd⟩).run P w = .ok (.value v) w := by
 subst hx; rfl
section
variable {P : Program} {ρ : Operand -> Value} {d : Option Nat} {ty : TypeId} {pos : String} {aft : Array Edge} {gd : Option (Nat × Bool)} {v : Value} {w : World}
def fieldOff (P : Program) (s f : Nat) : Option Nat :=
 match P.underlying s with
 | some (.struct fs) => match fs[f]? with
  | some fd => match P.info? fd.type with
   | some i => if i.size = 0 then none else some fd.offset
   | none => none
  | none => none
 | _ => none
theorem add_none (b o n : Nat) : (⟨b, o, none⟩ : Addr).add n = ⟨b, o + n, none⟩ := by
 unfold Addr.add;split
 . rename_i h; subst h; rfl
 . rfl
theorem ok_field {T f k b o : Nat} {x : Operand} (hx : ρ x = .pointer (some ⟨b, o, none⟩)) (hf : fieldOff P T f = some k) (hv : v = .pointer (some ⟨b, o + k, none⟩)) : (execOp ρ ⟨d, .fieldAddr T x f, ty, pos, aft, gd⟩).run P w = .ok (.value v) w := by
 subst hv;unfold fieldOff at hf;split at hf
 . rename_i fs hfs;split at hf
   . rename_i fd hfd;split at hf
     . rename_i i hi;split at hf
       . cases hf
       . rename_i hsz;injection hf with hf;subst hf;unfold execOp;simp only [hx, Instr.fieldAt, underlying, Sem.run_bind, Sem.run_pure, Result.andThen_ok, hfs, run_program];simp only [hfd, Instr.sureAddr, fieldPlace, sizeOf, typeInfo, Sem.run_bind, Sem.run_pure, Result.andThen_ok, run_program, hi, hsz, if_false, add_none]
     . cases hf
   . cases hf
 . cases hf
def elemOf (P : Program) (t : Nat) : Option (Nat × Nat) :=
 match P.underlying t with
 | some (.slice e) => (P.info? e).map fun i => (e, i.size)
 | _ => none
theorem elemOf_spec {t e sz : Nat} (h : elemOf P t = some (e, sz)) : P.underlying t = some (.slice e) /\ ∃ i, P.info? e = some i /\ i.size = sz := by
 unfold elemOf at h;split at h
 . rename_i e' he
   cases hi : P.info? e' with
   | none => rw [hi] at h; cases h
   | some i => rw [hi] at h; simp only [Option.map_some, Option.some.injEq, Prod.mk.injEq] at h; obtain ⟨rfl, rfl⟩ := h; exact ⟨he, i, hi, rfl⟩
 . cases h
theorem ok_index {t e sz k n c b o : Nat} {kk : IntKind} {x y : Operand} (hx : ρ x = .slice (some ⟨b, o, none⟩) n c) (hy : ρ y = .int kk (k : Int)) (he : elemOf P t = some (e, sz)) (hk : (k : Int) < (n : Int)) (hv : v = .pointer (some ⟨b, o + k * sz, none⟩)) : (execOp ρ ⟨d, .indexAddr t x y, ty, pos, aft, gd⟩).run P w = .ok (.value v) w := by
 subst hv;obtain ⟨h1, i, h2, rfl⟩ := elemOf_spec he;have h3 : 0 <= (k : Int) /\ (k : Int) < (n : Int) := ⟨by omega, hk⟩
 unfold execOp;simp only [hx, hy, Instr.indexAt, asIntOf, underlying, Sem.run_bind, Sem.run_pure, Result.andThen_ok, h1, run_program];simp only [h3, and_self, if_true, sizeOf, typeInfo, Sem.run_bind, Sem.run_pure, Result.andThen_ok, run_program, h2, Int.toNat_natCast, add_none]
theorem ok_len {t n c : Nat} {e : TypeId} {A : Option Addr} {x : Operand} (hx : ρ x = .slice A n c) (ht : P.underlying t = some (.slice e)) (hv : v = .int .i64 (n : Int)) : (execOp ρ ⟨d, .call { callee := .builtin .len, args := #[x], argTypes := #[t] }, ty, pos, aft, gd⟩).run P w = .ok (.value v) w := by
 subst hv;unfold execOp;simp only [resolve, invoke, builtin, Builtin.len_, List.map_toArray, List.map_cons, List.map_nil, hx, underlying, Sem.run_bind, Sem.run_pure, Result.andThen_ok];simp only [ht, List.getElem?_toArray, List.getElem?_cons_zero, Sem.run_bind, Sem.run_pure, Result.andThen_ok, run_program];rfl
theorem ok_extract {i : Nat} {x : Operand} {vs : Array Value} (hx : ρ x = .tuple vs) (hv : vs[i]? = some v) : (execOp ρ ⟨d, .extract x i, ty, pos, aft, gd⟩).run P w = .ok (.value v) w := by
 unfold execOp;simp only [hx, Instr.extract, hv, Sem.run_bind, Sem.run_pure, Result.andThen_ok]
theorem ok_pick {b : Bool} {c x y : Operand} (hc : ρ c = .bool b) (hv : (if b then ρ x else ρ y) = v) : (execOp ρ ⟨d, .pick c x y, ty, pos, aft, gd⟩).run P w = .ok (.value v) w := by
 unfold execOp;simp only [hc, asBool, Sem.run_bind, Sem.run_pure, Result.andThen_ok, hv]
theorem ok_not {b : Bool} {t : TypeId} {x : Operand} (hx : ρ x = .bool b) (hv : v = .bool (!b)) : (execOp ρ ⟨d, .unOp .not t x, ty, pos, aft, gd⟩).run P w = .ok (.value v) w := by
 subst hv;unfold execOp;simp only [hx, Op.unary, Sem.run_bind, Sem.run_pure, Result.andThen_ok]
theorem ok_add {k : IntKind} {m n z : Int} {t t' : TypeId} {x y : Operand} (hx : ρ x = .int k m) (hy : ρ y = .int k n) (hz : k.wrap (m + n) = z) (hv : v = .int k z) : (execOp ρ ⟨d, .binOp .add t x y t', ty, pos, aft, gd⟩).run P w = .ok (.value v) w := by
 subst hv hz;unfold execOp;simp only [hx, hy, eqGuard, binOp, Op.intArith, ne_eq, not_true_eq_false, if_false, Sem.run_bind, Sem.run_pure];rfl
theorem ok_sub {k : IntKind} {m n z : Int} {t t' : TypeId} {x y : Operand} (hx : ρ x = .int k m) (hy : ρ y = .int k n) (hz : k.wrap (m - n) = z) (hv : v = .int k z) : (execOp ρ ⟨d, .binOp .sub t x y t', ty, pos, aft, gd⟩).run P w = .ok (.value v) w := by
 subst hv hz;unfold execOp;simp only [hx, hy, eqGuard, binOp, Op.intArith, ne_eq, not_true_eq_false, if_false, Sem.run_bind, Sem.run_pure];rfl
theorem ok_mul {k : IntKind} {m n z : Int} {t t' : TypeId} {x y : Operand} (hx : ρ x = .int k m) (hy : ρ y = .int k n) (hz : k.wrap (m * n) = z) (hv : v = .int k z) : (execOp ρ ⟨d, .binOp .mul t x y t', ty, pos, aft, gd⟩).run P w = .ok (.value v) w := by
 subst hv hz;unfold execOp;simp only [hx, hy, eqGuard, binOp, Op.intArith, ne_eq, not_true_eq_false, if_false, Sem.run_bind, Sem.run_pure];rfl
def cmpB (op : BinOp) (m n : Int) : Option Bool :=
 match op with
 | .eql => some (m == n)
 | .neq => some (m != n)
 | .lss => some (decide (m < n))
 | .leq => some (decide (m <= n))
 | .gtr => some (decide (m > n))
 | .geq => some (decide (m ≥ n))
 | _ => none
theorem ok_cmp {op : BinOp} {k : IntKind} {m n : Int} {b : Bool} {t t' : TypeId} {x y : Operand} (hx : ρ x = .int k m) (hy : ρ y = .int k n) (hb : cmpB op m n = some b) (hv : v = .bool b) : (execOp ρ ⟨d, .binOp op t x y t', ty, pos, aft, gd⟩).run P w = .ok (.value v) w := by
 subst hv;cases op <;> simp only [cmpB] at hb <;> cases hb
 all_goals
  unfold execOp;simp only [hx, hy, eqGuard, binOp, Op.intCmp, ne_eq, not_true_eq_false, if_false, Sem.run_bind, Sem.run_pure];rfl
end
def zB (l : List Oper) (np : Nat) (Z : List Nat) : Bool := Z.all fun i => decide (i < np) && match l[i]? with | some o => o.after.all fun e => !Region.binds .any e | none => true
inductive St where
 | val (v : Value)
 | call (v : Value)
 | new (R : Value -> World -> Prop)
 | dep (R : Value -> World -> Prop)
 | skip
def prodOf (l : List Oper) (s : Nat) : Nat -> Option Nat
 | 0 => none
 | i + 1 => if ((l[i]?).bind (·.dst)) == some s then some i else prodOf l s i
theorem prodOf_spec {l : List Oper} {s : Nat} : ∀ {i j : Nat}, prodOf l s i = some j -> j < i /\ ∃ o, l[j]? = some o /\ o.dst = some s
 | 0, _, h => by cases h
 | i + 1, j, h => by
  unfold prodOf at h;split at h
  . rename_i hb;injection h with h;subst h;have h1 := eq_of_beq hb
    cases ho : l[i]? with
    | none => rw [ho] at h1; cases h1
    | some o => rw [ho] at h1; exact ⟨by omega, o, rfl, h1⟩
  . obtain ⟨h1, h2⟩ := prodOf_spec h;exact ⟨by omega, h2⟩
def envS (l : List Oper) (S : List St) (a0 : Act) (i : Nat) : Operand -> St
 | .tmp s => match prodOf l s i with
  | some j => S.getD j .skip
  | none => .val (a0.tmps.getD s undef)
 | x => .val (a0.eval x)
def slotB (l : List Oper) (np i : Nat) (o : Oper) (s : Nat) : Bool :=
 match prodOf l s i with
 | some j => o.after.any fun e => Region.binds .any e && e.on == j
 | none => (List.range np).all fun k => match l[k]? with
  | some ok => ok.dst != some s || ok.after.any fun e => Region.binds .any e && e.on == i
  | none => true
def isSel : Op -> Bool
 | .select _ _ => true
 | _ => false
def runsIn (P : Program) (ρ : Operand -> Value) (o : Oper) (w : World) (R : Value -> World -> Prop) : Prop :=
 (∃ v w', (execOp ρ o).run P w = .ok (.value v) w' /\ From w w' /\ R v w') \/
 ∃ f args, (execOp ρ o).run P w = .ok (.enter f args) w /\ Calls P f args w fun e w' => ∃ v, e = .returned v /\ From w w' /\ R v w'
theorem own_box {w : World} {base e size g : Nat} {cs : List Value} (h : w.heap[g]? = some (.cells cs.toArray e (0, 0))) (hl : cs.length = size) (hb : base <= g) : OwnS w base e size (some ⟨g, 0, none⟩) 1 [cs] :=
 ⟨⟨by simp [hl], .inr ⟨g, 1, cs.toArray, rfl, hb, h, Nat.le_refl _, by unfold maxLen; omega, by simp [hl], by simp; exact List.take_of_length_le (by omega)⟩⟩, by intro c hc; rw [List.mem_singleton] at hc; subst hc; exact hl⟩
theorem own_row {w : World} {base size c g i T : Nat} {css : List (List Value)} {cs : List Value} (hT : IsRow Tryz.prog T size) (h : OwnS w base T size (some ⟨g, 0, none⟩) c css) (hi : css[i]? = some cs) {p : Nat} (hp : p = i * size) : ∀ w1, From w w1 -> (loadVar T ⟨g, p, none⟩).run Tryz.prog w1 = .ok (.agg cs.toArray) w1 := by
 intro w1 hb;subst hp;obtain ⟨b, off, e, _, hl⟩ := h.rd.ld hT hi;simp only [Option.some.injEq, Addr.mk.injEq, and_true] at e;obtain ⟨rfl, rfl⟩ := e;have h1 := hl w1 hb;rw [Nat.zero_add] at h1;exact h1
theorem ownBlock_slice (A : Option Addr) (n c : Nat) : Value.ownBlock (.slice A n c) = A.map (·.block) := by cases A <;> rfl
inductive Ent where
 | row (T size : Nat) (A : Option Addr) (c : Nat) (css : List (List Value))
 | box (g T : Nat) (cs : List Value)
 | ro (size : Nat) (A : Option Addr) (css : List (List Value))
def Ent.ok (w : World) (base : Nat) : Ent -> Prop
 | .row T size A c css => OwnS w base T size A c css
 | .box g T cs => base <= g /\ w.heap[g]? = some (.cells cs.toArray T (0, 0))
 | .ro size A css => Rd w w.heap.size size A css /\ ∀ a, A = some a -> base <= a.block /\ a.block < w.heap.size
def Ent.blk : Ent -> Option Nat
 | .row _ _ A _ _ => A.map (·.block)
 | .box g _ _ => some g
 | .ro _ A _ => A.map (·.block)
theorem Ent.lt {w : World} {base b : Nat} {e : Ent} (h : e.ok w base) (hb : e.blk = some b) : base <= b /\ b < w.heap.size := by
 cases e with
 | row T size A c css =>
  obtain ⟨a, ha, rfl⟩ := Option.map_eq_some_iff.1 hb;exact OwnS.lt h ha
 | box g T cs =>
  injection hb with hb;subst hb;exact ⟨h.1, (Array.getElem?_eq_some_iff.1 h.2).1⟩
 | ro size A css =>
  obtain ⟨a, ha, rfl⟩ := Option.map_eq_some_iff.1 hb;exact h.2 a ha
theorem cell_same {w w' : World} {g p : Nat} (h : w'.heap[g]? = w.heap[g]?) : w'.cell? ⟨g, p, .none⟩ = w.cell? ⟨g, p, .none⟩ := by simp only [World.cell?, h]
theorem Rd.keep {w w' : World} {size : Nat} {A : Option Addr} {css : List (List Value)} (h : Rd w w.heap.size size A css) (hk : ∀ a, A = some a -> w'.heap[a.block]? = w.heap[a.block]?) : Rd w' w'.heap.size size A css := by
 intro k cs hkc;obtain ⟨g, off, e, hlt, hl, hc⟩ := h k cs hkc;have h1 := hk _ e;have hlt' : g < w'.heap.size := by
  rcases Nat.lt_or_ge g w'.heap.size with h2 | h2
  . exact h2
  . rw [Array.getElem?_eq_none h2, Array.getElem?_eq_getElem hlt] at h1;cases h1
 exact ⟨g, off, e, hlt', hl, fun j u hu => by rw [cell_same h1]; exact hc j u hu⟩
theorem Ent.keep {w w' : World} {base : Nat} {e : Ent} (h : e.ok w base) (hk : ∀ b, e.blk = some b -> w'.heap[b]? = w.heap[b]?) : e.ok w' base := by
 cases e with
 | ro size A css =>
  refine ⟨Rd.keep h.1 fun a ha => hk _ (by simp [Ent.blk, ha]), fun a ha => ⟨(h.2 a ha).1, ?_⟩⟩;have h1 := hk a.block (by simp [Ent.blk, ha]);rcases Nat.lt_or_ge a.block w'.heap.size with h2 | h2
  . exact h2
  . rw [Array.getElem?_eq_none h2, Array.getElem?_eq_getElem (h.2 a ha).2] at h1;cases h1
 | row T size A c css => exact OwnS.keep h fun a ha => hk _ (by simp [Ent.blk, ha])
 | box g T cs => exact ⟨h.1, (hk g rfl).trans h.2⟩
theorem Ent.less {w : World} {base b : Nat} {e : Ent} (h : e.ok w base) (hb : b <= base) : e.ok w b := by
 cases e with
 | row T size A c css => exact OwnS.base_le h hb
 | box g T cs => exact ⟨Nat.le_trans hb h.1, h.2⟩
 | ro size A css => exact ⟨h.1, fun a ha => ⟨Nat.le_trans hb (h.2 a ha).1, (h.2 a ha).2⟩⟩
def Ent.far (e f : Ent) : Prop := ∀ b, e.blk = some b -> f.blk ≠ some b
theorem Ent.far.symm {e f : Ent} (h : e.far f) : f.far e := fun b hb hc => h b hc hb
structure Mem (w0 w : World) (M : List Ent) : Prop where
 from_ : From w0 w
 ok : ∀ e ∈ M, e.ok w w0.heap.size
 apart : M.Pairwise Ent.far
theorem Mem.nil (w : World) : Mem w w [] := ⟨Below.refl _ _, fun _ h => (by cases h), .nil⟩
theorem Mem.call {w0 w w' : World} {M : List Ent} (h : Mem w0 w M) (hb : From w w') : Mem w0 w' M :=
 ⟨h.from_.trans (hb.mono h.from_.size), fun e he => Ent.keep (h.ok e he) fun _ hb' => hb.block _ (Ent.lt (h.ok e he) hb').2, h.apart⟩
theorem Mem.sub {w0 w : World} {M M' : List Ent} (h : Mem w0 w M) (hs : M'.Sublist M) : Mem w0 w M' := ⟨h.from_, fun e he => h.ok e (hs.subset he), h.apart.sublist hs⟩
theorem Mem.add {w0 w w' : World} {M : List Ent} (h : Mem w0 w M) (hb : From w w') (e : Ent) (he : e.ok w' w.heap.size) : Mem w0 w' (e :: M) := by
 have h1 := h.call hb;refine ⟨h1.from_, fun f hf => ?_, List.pairwise_cons.2 ⟨fun f hf b hb1 hb2 => ?_, h1.apart⟩⟩
 . rcases List.mem_cons.1 hf with rfl | hf
   . exact Ent.less he h.from_.size
   . exact h1.ok f hf
 . have h2 := (Ent.lt he hb1).1;have h3 := (Ent.lt (h.ok f hf) hb2).2;omega
theorem Mem.none {w0 w : World} {M : List Ent} (h : Mem w0 w M) (T size : Nat) : Mem w0 w (.row T size none 0 [] :: M) :=
 h.add (Below.refl _ _) _ (OwnS.nil _ _ _ _)
theorem Mem.alloc {w0 w : World} {M : List Ent} (h : Mem w0 w M) (T : Nat) (cs : List Value) : Mem w0 (w.alloc (.cells cs.toArray T)) (.box w.heap.size T cs :: M) :=
 h.add ((Below.refl _ _).alloc (Nat.le_refl _) _) _ ⟨Nat.le_refl _, heap_alloc_new w _⟩
theorem Mem.any {w0 w : World} {M : List Ent} (h : Mem w0 w M) (o : Obj) : Mem w0 (w.alloc o) M := h.call ((Below.refl _ _).alloc (Nat.le_refl _) _)
theorem set_pair {e : Ent} : ∀ {M : List Ent} {i : Nat}, i < M.length -> M.Pairwise Ent.far -> (∀ j f, j ≠ i -> M[j]? = some f -> e.far f) -> (M.set i e).Pairwise Ent.far
 | [], _, hi, _, _ => by cases hi
 | f :: M, 0, _, hp, h => by
  rw [List.set_cons_zero];have h1 := List.pairwise_cons.1 hp;refine List.pairwise_cons.2 ⟨fun g hg => ?_, h1.2⟩;obtain ⟨j, hj⟩ := List.mem_iff_getElem?.1 hg;exact h (j + 1) g (by omega) (by simpa using hj)
 | f :: M, i + 1, hi, hp, h => by
  rw [List.set_cons_succ];have h1 := List.pairwise_cons.1 hp;refine List.pairwise_cons.2 ⟨fun g hg => ?_, set_pair (by simpa using hi) h1.2 fun j f' hj hf => h (j + 1) f' (by omega) (by simpa using hf)⟩;rcases List.mem_or_eq_of_mem_set hg with hg | rfl
  . exact h1.1 g hg
  . exact (h 0 f (by omega) (by simp)).symm
theorem pair_ne {M : List Ent} (hp : M.Pairwise Ent.far) {i j : Nat} {e f : Ent} (hi : M[i]? = some e) (hj : M[j]? = some f) (hij : i ≠ j) : e.far f := by
 obtain ⟨hi1, hi2⟩ := List.getElem?_eq_some_iff.1 hi;obtain ⟨hj1, hj2⟩ := List.getElem?_eq_some_iff.1 hj;rw [List.pairwise_iff_getElem] at hp;rcases Nat.lt_or_gt_of_ne hij with h | h
 . have := hp i j hi1 hj1 h;rwa [hi2, hj2] at this
 . have := hp j i hj1 hi1 h;rw [hi2, hj2] at this;exact this.symm
theorem Mem.put {w0 w w' : World} {M : List Ent} (h : Mem w0 w M) (i : Nat) {e : Ent} (e' : Ent) (hi : M[i]? = some e) (hg : w.grownBy w' e.blk) (he : e'.ok w' w0.heap.size) (hbl : e'.blk = e.blk \/ ∀ b, e'.blk = some b -> w.heap.size <= b) : Mem w0 w' (M.set i e') := by
 have hlt : i < M.length := (List.getElem?_eq_some_iff.1 hi).1;have hek := h.ok e (List.mem_of_getElem? hi);refine ⟨h.from_.grown hg h.from_.size fun k hk => (Ent.lt hek hk).1, fun f hf => ?_, set_pair hlt h.apart fun j f hj hf b hb1 hb2 => ?_⟩
 . obtain ⟨j, hj⟩ := List.mem_iff_getElem?.1 hf;rw [List.getElem?_set] at hj;split at hj
   . injection hj with hj;subst hj;exact he
   . rename_i hne;have hfk := h.ok f (List.mem_of_getElem? hj);refine Ent.keep hfk fun b hb => hg.block b (Ent.lt hfk hb).2 fun hc => ?_;exact pair_ne h.apart hi hj hne b hc.symm hb
 . have hfk := h.ok f (List.mem_of_getElem? hf);rcases hbl with hbl | hbl
   . rw [hbl] at hb1;exact pair_ne h.apart hi hf (fun e => hj e.symm) b hb1 hb2
   . have h1 := hbl b hb1;have h2 := (Ent.lt hfk hb2).2;omega
theorem Mem.own {w0 w : World} {M : List Ent} (h : Mem w0 w M) {i : Nat} {T size : Nat} {A : Option Addr} {c : Nat} {css : List (List Value)} (hi : M[i]? = some (.row T size A c css)) : OwnS w w0.heap.size T size A c css := h.ok _ (List.mem_of_getElem? hi)
theorem Mem.cells {w0 w : World} {M : List Ent} (h : Mem w0 w M) {i g T : Nat} {cs : List Value} (hi : M[i]? = some (.box g T cs)) : w.heap[g]? = some (.cells cs.toArray T (0, 0)) := (h.ok _ (List.mem_of_getElem? hi)).2
theorem Mem.boxlt {w0 w : World} {M : List Ent} (h : Mem w0 w M) {i g T : Nat} {cs : List Value} (hi : M[i]? = some (.box g T cs)) : w0.heap.size <= g /\ g < w.heap.size := Ent.lt (h.ok _ (List.mem_of_getElem? hi)) rfl
theorem Mem.ldb {w0 w : World} {M : List Ent} (h : Mem w0 w M) {i g T n : Nat} {cs : List Value} (hT : IsRow Tryz.prog T n) (hn : cs.length = n) (hi : M[i]? = some (.box g T cs)) (w1 : World) (hb : From w w1) : (loadVar T ⟨g, 0, .none⟩).run Tryz.prog w1 = .ok (.agg cs.toArray) w1 := by
 have h1 := own_box (base := 0) (h.cells hi) hn (Nat.zero_le _);exact own_row hT h1 (i := 0) (cs := cs) rfl (p := 0) (by omega) w1 hb
def cellT (P : Program) (T : Nat) : Bool :=
 match P.underlying T with
 | some (.struct _) => false
 | some (.array _ _) => false
 | some _ => true
 | _ => false
theorem run_load_one {P : Program} {w : World} {T : Nat} {ad : Addr} {v : Value} (hT : cellT P T = true) (h : w.cell? ad = some v) : (loadVar T ad).run P w = .ok v w := by
 unfold cellT at hT
 cases hd : P.underlying T with
 | none => rw [hd] at hT; cases hT
 | some d => exact run_load_cell hd (by rw [hd] at hT; cases d <;> first | rfl | cases hT) h
theorem Mem.ldc {w0 w : World} {M : List Ent} (h : Mem w0 w M) {i g T j T1 : Nat} {cs : List Value} {v : Value} (hT : cellT Tryz.prog T1 = true) (hi : M[i]? = some (.box g T cs)) (hj : cs[j]? = some v) (w1 : World) (hb : From w w1) : (loadVar T1 ⟨g, j, .none⟩).run Tryz.prog w1 = .ok v w1 := by
 have h1 := h.cells hi;have h2 : w1.heap[g]? = some (.cells cs.toArray T (0, 0)) := (hb.block g (h.boxlt hi).2).trans h1;refine run_load_one hT ?_;rw [cell_of_row w1 g j _ _ _ h2];simpa using hj
theorem Rd.cell {P : Program} {w w1 : World} {B g off size k j T1 : Nat} {css : List (List Value)} {cs : List Value} {v : Value} (h : Rd w B size (some ⟨g, off, none⟩) css) (hb : Below B w w1) (hT : cellT P T1 = true) (hk : css[k]? = some cs) (hj : cs[j]? = some v) {p : Nat} (hp : p = off + k * size + j) : (loadVar T1 ⟨g, p, none⟩).run P w1 = .ok v w1 := by
 subst hp;obtain ⟨b, off', e, hlt, _, hc⟩ := h k cs hk;simp only [Option.some.injEq, Addr.mk.injEq, and_true] at e;obtain ⟨rfl, rfl⟩ := e;refine run_load_one hT ?_;rw [cell_same (hb.block _ hlt)];exact hc j _ hj
theorem Rd.bound {w : World} {B size : Nat} {A : Option Addr} {css : List (List Value)} (h : Rd w B size A css) (hn : css ≠ []) : ∀ a, A = some a -> a.block < B := by
 intro a ha;obtain ⟨cs, css', rfl⟩ := List.exists_cons_of_ne_nil hn;obtain ⟨g, off, e, hlt, _, _⟩ := h 0 cs rfl;rw [ha] at e;injection e with e;subst e;exact hlt
theorem wpList_stB {w0 w : World} {M : List Ent} {ops : Array Oper} {rest : List Oper} {o : Oper} {a : Act} {Q : Exit -> Act -> World -> Prop} {T g n : Nat} {cs cs' : List Value} {v : Value} (hgd : o.guard = none) (x y : Operand) (ho : o.op = .store T x y) (H : Mem w0 w M) (i : Nat) (hi : M[i]? = some (.box g T cs))
 (hx : a.eval x = .pointer (some ⟨g, 0, .none⟩)) (hy : a.eval y = v) (hsz : (Tryz.prog.info? T).map (·.size) = some n) (hv : v.cells.toList = cs') (hl' : cs'.length = n) (hl : cs.length = n) (h1 : ∀ u ∈ cs', u.oneCell' = true)
 (h : ∀ w', Mem w0 w' (M.set i (.box g T cs')) -> wpList Tryz.prog ops Q rest (a.put o.dst undef) w') : wpList Tryz.prog ops Q (o :: rest) a w := by
 refine wpList_st (cs := cs') hgd x y ho hx hy hsz hv hl' (H.cells hi) (by simp [hl]) h1 fun cur' w' hc hs hg' hgr => h w' (H.put i (.box g T cs') hi hgr ⟨(H.boxlt hi).1, ?_⟩ (.inl rfl));have : cur' = cs'.toArray := by
  apply Array.ext';rw [hc];simp [hl]
 rw [<- this];exact hg'
theorem Mem.tail {w0 w : World} {e : Ent} {M : List Ent} (h : Mem w0 w (e :: M)) : Mem w0 w M := h.sub (List.sublist_cons_self _ _)
theorem g_bld {P : Program} {w : World} {ops : Array Oper} {rest : List Oper} {a : Act} {Q : Exit -> Act -> World -> Prop} (T : Nat) {ps : Array (Nat × Operand)} {d : Option Nat} {ty : TypeId} {pos : String} {aft : Array Edge} {gd : Option (Nat × Bool)}
 (h : wpList P ops Q (⟨d, .build T ps, ty, pos, aft, gd⟩ :: rest) a w) : wpList P ops Q (⟨d, .build T ps, ty, pos, aft, gd⟩ :: rest) a w := h
theorem wpList_val {P : Program} {w : World} {ops : Array Oper} {rest : List Oper} {o : Oper} {a : Act} {Q : Exit -> Act -> World -> Prop} (hgd : o.guard = none) (v : Value) (hr : (execOp a.eval o).run P w = .ok (.value v) w) (h : wpList P ops Q rest (a.put o.dst v) w) : wpList P ops Q (o :: rest) a w := by
 refine wpList_plain hgd fun K hK => ?_;unfold Oper.wp;rw [hr];exact hK _ _ h
end Go.Proofs.YtfdjcakgolenbaaGreat
namespace Go.Proofs.YtfdjcakgolenbaaGreat
open Go.MapKept
inductive Kx where
 | i (k : IntKind) (n : Int)
 | f (p : Bool)
 | s (x : ByteArray)
deriving DecidableEq
def Kx.val : Kx -> Value
 | .i k n => .int k n
 | .f p => .bool p
 | .s x => .string x
inductive Lk where
 | int (k : IntKind) | bool | str
deriving DecidableEq
def Lk.desc : Lk -> TypeDesc
 | .int k => .int k
 | .bool => .bool
 | .str => .string
def Lk.fits : Lk -> Kx -> Bool
 | .int k, .i k' _ => decide (k = k')
 | .bool, .f _ => true
 | .str, .s _ => true
 | _, _ => false
def fitsL : List Lk -> List Kx -> Bool
 | [], [] => true
 | l :: ls, x :: xs => l.fits x && fitsL ls xs
 | _, _ => false
inductive Kc where
 | one (l : Lk)
 | arr (n : Nat) (l : Lk)
 | st (ls : List Lk)
deriving DecidableEq
def Kc.ls : Kc -> List Lk
 | .one l => [l]
 | .arr n l => List.replicate n l
 | .st ls => ls
def Kc.val (c : Kc) (l : List Kx) : Value := match c, l with
 | .one _, [x] => x.val
 | _, l => .agg (l.map Kx.val).toArray
def leafB (P : Program) (e : TypeId) (l : Lk) : Bool := match P.underlying e, l with
 | some (.int k), .int k' => decide (k = k')
 | some .bool, .bool => true
 | some .string, .str => true
 | _, _ => false
def kfB (P : Program) : Nat -> List Field -> List Lk -> Bool
 | _, [], [] => true
 | n, f :: fs, l :: ls => f.offset == n && f.name != "_" && leafB P f.type l && kfB P (n + 1) fs ls
 | _, _, _ => false
def kcB (P : Program) (kt : TypeId) : Kc -> Bool
 | .one l => leafB P kt l
 | .arr n l => match P.underlying kt with
  | some (.array n' e) => n == n' && leafB P e l && (match P.info? e with | some i => i.size == 1 && P.cellsOf e == 1 | none => false)
  | _ => false
 | .st ls => match P.underlying kt with
  | some (.struct fs) => kfB P 0 fs.toList ls && !P.stoodInHeld kt
  | _ => false
section
variable {P : Program} {w : World}
theorem kc_arr {kt : TypeId} {n : Nat} {l : Lk} (h : kcB P kt (.arr n l) = true) : ∃ e i, P.underlying kt = some (.array n e) /\ leafB P e l = true /\ P.info? e = some i /\ P.cellsOf e = 1 := by
 simp only [kcB] at h;split at h
 . rename_i n' e hu;simp only [Bool.and_eq_true, beq_iff_eq] at h;obtain ⟨⟨rfl, hl⟩, h⟩ := h;split at h
   . rename_i i hi;simp only [Bool.and_eq_true, beq_iff_eq] at h;exact ⟨e, i, hu, hl, hi, h.2⟩
   . cases h
 . cases h
theorem kc_st {kt : TypeId} {ls : List Lk} (h : kcB P kt (.st ls) = true) : ∃ fs, P.underlying kt = some (.struct fs) /\ kfB P 0 fs.toList ls = true /\ P.stoodInHeld kt = false := by
 simp only [kcB] at h;split at h
 . rename_i fs hu;simp only [Bool.and_eq_true, Bool.not_eq_true'] at h;exact ⟨fs, hu, h⟩
 . cases h
theorem leaf_desc {e : TypeId} {l : Lk} (h : leafB P e l = true) : P.underlying e = some l.desc := by
 unfold leafB at h;split at h <;> simp_all [Lk.desc]
theorem leaf_plain {e : TypeId} {l : Lk} (h : leafB P e l = true) : P.plainKey e = true := by
 have := leaf_desc h;unfold Program.plainKey;rw [this];cases l <;> rfl
theorem leaf_eq {e : TypeId} {l : Lk} {x y : Kx} (h : leafB P e l = true) (hx : l.fits x = true) (hy : l.fits y = true) (d : Nat) : (Op.equalIn (d + 1) e x.val y.val).run P w = .ok (decide (x = y)) w := by
 have hd := leaf_desc h;cases l <;> cases x <;> simp only [Lk.fits, Bool.false_eq_true, decide_eq_true_eq] at hx <;> cases y <;> simp only [Lk.fits, Bool.false_eq_true, decide_eq_true_eq] at hy
 . rename_i k _ m _ n;subst hx; subst hy;show (Op.equalIn (d + 1) e (.int _ m) (.int _ n)).run P w = _
   rw [run_equalIn_int w d e _ _ m n hd];congr 1;rw [Bool.eq_iff_iff];simp
 . rename_i a b;show (Op.equalIn (d + 1) e (.bool a) (.bool b)).run P w = _
   rw [run_equalIn_bool' w d e a b hd];congr 1;rw [Bool.eq_iff_iff];simp
 . rename_i a b;show (Op.equalIn (d + 1) e (.string a) (.string b)).run P w = _
   rw [run_equalIn_string w d e a b hd];congr 1;rw [<- beq_toListBytes, Bool.eq_iff_iff, bytes_beq];simp
theorem leaf_check {e : TypeId} {l : Lk} {x : Kx} (h : leafB P e l = true) (hx : l.fits x = true) (em : Bool) (n : Nat) : (Instr.checkKey em (n + 1) e x.val).run P w = .ok () w := by
 have hd := leaf_desc h;cases l <;> cases x <;> simp only [Lk.fits, Bool.false_eq_true, decide_eq_true_eq] at hx <;> simp [Instr.checkKey, run_underlying hd, Lk.desc, Kx.val]
theorem getL {l : List Kx} {n : Nat} {x : Kx} (h : l[n]? = some x) : (l.map Kx.val).toArray[n]? = some x.val := by simp [h]
theorem drop_cons {l : List Kx} {n : Nat} {x : Kx} {r : List Kx} (h : l.drop n = x :: r) : l[n]? = some x /\ l.drop (n + 1) = r := by
 refine ⟨?_, ?_⟩
 . have := congrArg (·[0]?) h;simpa using this
 . have := congrArg (List.drop 1) h;simpa [List.drop_drop, Nat.add_comm] using this
theorem fitsL_cons {l : Lk} {ls : List Lk} {xs : List Kx} (h : fitsL (l :: ls) xs = true) : ∃ x r, xs = x :: r /\ l.fits x = true /\ fitsL ls r = true := by
 cases xs with
 | nil => simp [fitsL] at h
 | cons x r =>
  simp only [fitsL, Bool.and_eq_true] at h;exact ⟨x, r, rfl, h⟩
theorem fitsL_nil {xs : List Kx} (h : fitsL [] xs = true) : xs = [] := by
 cases xs with
 | nil => rfl
 | cons x r => simp [fitsL] at h
theorem eq_fields (d : Nat) (a b : List Kx) : ∀ (fs : List Field) (ls : List Lk) (n : Nat), kfB P n fs ls = true -> fitsL ls (a.drop n) = true -> fitsL ls (b.drop n) = true ->
 (Op.eqFields (d + 1) (a.map Kx.val).toArray (b.map Kx.val).toArray fs).run P w = .ok (decide (a.drop n = b.drop n)) w
 | [], [], n, _, ha, hb => by
  rw [fitsL_nil ha, fitsL_nil hb];simp [Op.eqFields]
 | f :: fs, l :: ls, n, h, ha, hb => by
  simp only [kfB, Bool.and_eq_true, beq_iff_eq, bne_iff_ne, ne_eq] at h;obtain ⟨⟨⟨h1, h2⟩, h3⟩, h4⟩ := h;obtain ⟨x, r, ex, hx, hr⟩ := fitsL_cons ha;obtain ⟨y, s, ey, hy, hs⟩ := fitsL_cons hb;obtain ⟨gx, dx⟩ := drop_cons ex;obtain ⟨gy, dy⟩ := drop_cons ey;have p1 : (part f.type (a.map Kx.val).toArray f.offset).run P w = .ok x.val w := run_part_plain w (leaf_plain h3) (getL (by rw [h1]; exact gx));have p2 : (part f.type (b.map Kx.val).toArray f.offset).run P w = .ok y.val w := run_part_plain w (leaf_plain h3) (getL (by rw [h1]; exact gy));have ih := eq_fields d a b fs ls (n + 1) h4 (by rw [dx]; exact hr) (by rw [dy]; exact hs);simp only [Op.eqFields, h2, ne_eq, not_false_eq_true, if_true, Sem.run_bind, p1, p2, Result.andThen_ok, leaf_eq h3 hx hy d, ex, ey];rw [dx, dy] at ih;by_cases hxy : x = y
  . subst hxy;simp only [decide_true, Bool.not_true, Bool.false_eq_true, if_false, ih, List.cons.injEq, true_and]
  . simp [hxy]
 | [], _ :: _, _, h, _, _ => by simp [kfB] at h
 | _ :: _, [], _, h, _, _ => by simp [kfB] at h
theorem eq_items (d : Nat) {e : TypeId} {l : Lk} (hl : leafB P e l = true) (hc : P.cellsOf e = 1) (a b : List Kx) : ∀ (m n : Nat), fitsL (List.replicate m l) (a.drop n) = true -> fitsL (List.replicate m l) (b.drop n) = true ->
 (Op.eqItems (d + 1) e (P.cellsOf e) (a.map Kx.val).toArray (b.map Kx.val).toArray (List.range' n m)).run P w = .ok (decide (a.drop n = b.drop n)) w
 | 0, n, ha, hb => by
  rw [fitsL_nil ha, fitsL_nil hb];simp [Op.eqItems]
 | m + 1, n, ha, hb => by
  obtain ⟨x, r, ex, hx, hr⟩ := fitsL_cons ha;obtain ⟨y, s, ey, hy, hs⟩ := fitsL_cons hb;obtain ⟨gx, dx⟩ := drop_cons ex;obtain ⟨gy, dy⟩ := drop_cons ey;have p1 : (part e (a.map Kx.val).toArray (n * P.cellsOf e)).run P w = .ok x.val w := run_part_plain w (leaf_plain hl) (getL (by rw [hc, Nat.mul_one]; exact gx));have p2 : (part e (b.map Kx.val).toArray (n * P.cellsOf e)).run P w = .ok y.val w := run_part_plain w (leaf_plain hl) (getL (by rw [hc, Nat.mul_one]; exact gy));have ih := eq_items d hl hc a b m (n + 1) (by rw [dx]; exact hr) (by rw [dy]; exact hs);rw [List.range'_succ];simp only [Op.eqItems, Sem.run_bind, p1, p2, Result.andThen_ok, leaf_eq hl hx hy d, ex, ey];rw [dx, dy] at ih;by_cases hxy : x = y
  . subst hxy;simp only [decide_true, Bool.not_true, Bool.false_eq_true, if_false, ih, List.cons.injEq, true_and]
  . simp [hxy]
theorem check_fields (em : Bool) (d : Nat) (a : List Kx) : ∀ (fs : List Field) (ls : List Lk) (n : Nat), kfB P n fs ls = true -> fitsL ls (a.drop n) = true ->
 (forIn fs PUnit.unit fun f _ => (if f.name ≠ "_" then do
  let v <- part f.type (a.map Kx.val).toArray f.offset
  Instr.checkKey em (d + 1) f.type v
  pure (ForInStep.yield PUnit.unit)
  else pure (ForInStep.yield PUnit.unit) : Sem (ForInStep PUnit))).run P w = .ok PUnit.unit w
 | [], [], n, _, ha => by simp
 | f :: fs, l :: ls, n, h, ha => by
  simp only [kfB, Bool.and_eq_true, beq_iff_eq, bne_iff_ne, ne_eq] at h;obtain ⟨⟨⟨h1, h2⟩, h3⟩, h4⟩ := h;obtain ⟨x, r, ex, hx, hr⟩ := fitsL_cons ha;obtain ⟨gx, dx⟩ := drop_cons ex;have p1 : (part f.type (a.map Kx.val).toArray f.offset).run P w = .ok x.val w := run_part_plain w (leaf_plain h3) (getL (by rw [h1]; exact gx));have ih := check_fields em d a fs ls (n + 1) h4 (by rw [dx]; exact hr);simp only [List.forIn_cons, h2, ne_eq, not_false_eq_true, if_true, Sem.run_bind, p1, Result.andThen_ok, leaf_check h3 hx em d, Sem.run_pure];exact ih
 | [], _ :: _, _, h, _ => by simp [kfB] at h
 | _ :: _, [], _, h, _ => by simp [kfB] at h
theorem key_check {kt : TypeId} {c : Kc} {a : List Kx} (h : kcB P kt c = true) (ha : fitsL c.ls a = true) (em : Bool) : (Instr.checkKey em 10000 kt (c.val a)).run P w = .ok () w := by
 cases c with
 | one l =>
  obtain ⟨x, r, rfl, hx, hr⟩ := fitsL_cons ha;cases fitsL_nil hr;exact leaf_check h hx em 9999
 | arr n l =>
  obtain ⟨e, i, hu, hl, hi, hc⟩ := kc_arr h;show (Instr.checkKey em (9999 + 1) kt (.agg (a.map Kx.val).toArray)).run P w = .ok () w
  rw [Instr.checkKey];simp only [Sem.run_bind, run_underlying hu, Result.andThen_ok];simp only [Std.Legacy.Range.forIn_eq_forIn_range', Std.Legacy.Range.size, Nat.sub_zero, Nat.add_one_sub_one, Nat.div_one];have H : ∀ (m k : Nat), fitsL (List.replicate m l) (a.drop k) = true -> (forIn (List.range' k m) PUnit.unit fun j _ => (do
   let sz <- sizeOf e
   let v <- part e (a.map Kx.val).toArray (j * sz)
   Instr.checkKey em 9999 e v
   pure (ForInStep.yield PUnit.unit) : Sem (ForInStep PUnit))).run P w = .ok PUnit.unit w := by
   intro m
   induction m with
   | zero => intro k _; simp
   | succ m ih =>
    intro k hk;obtain ⟨x, r, ex, hx, hr⟩ := fitsL_cons hk;obtain ⟨gx, dx⟩ := drop_cons ex;have p1 : (part e (a.map Kx.val).toArray (k * P.cellsOf e)).run P w = .ok x.val w := run_part_plain w (leaf_plain hl) (getL (by rw [hc, Nat.mul_one]; exact gx));rw [List.range'_succ];simp only [List.forIn_cons, Sem.run_bind, run_sizeOf w hi, Result.andThen_ok, p1, leaf_check hl hx em 9998, Sem.run_pure];exact ih (k + 1) (by rw [dx]; exact hr)
  rw [H n 0 (by simpa [Kc.ls] using ha)];rfl
 | st ls =>
  obtain ⟨fs, hu, hf, hst⟩ := kc_st h;show (Instr.checkKey em (9999 + 1) kt (.agg (a.map Kx.val).toArray)).run P w = .ok () w
  rw [Instr.checkKey];simp only [Sem.run_bind, run_underlying hu, Result.andThen_ok];rw [<- Array.forIn_toList];rw [check_fields em 9998 a fs.toList ls 0 hf (by simpa [Kc.ls] using ha)];rfl
theorem key_equal {kt : TypeId} {c : Kc} {a b : List Kx} (h : kcB P kt c = true) (ha : fitsL c.ls a = true) (hb : fitsL c.ls b = true) : (Op.equal kt (c.val a) (c.val b)).run P w = .ok (decide (a = b)) w := by
 cases c with
 | one l =>
  obtain ⟨x, r, rfl, hx, hr⟩ := fitsL_cons ha;cases fitsL_nil hr;obtain ⟨y, s, rfl, hy, hs⟩ := fitsL_cons hb;cases fitsL_nil hs;refine (leaf_eq h hx hy 9999).trans ?_;simp
 | arr n l =>
  obtain ⟨e, i, hu, hl, hi, hc⟩ := kc_arr h;refine (run_equalIn_array w 9999 _ _ hu hi).trans ?_;rw [List.range_eq_range'];exact eq_items 9998 hl hc a b n 0 (by simpa [Kc.ls] using ha) (by simpa [Kc.ls] using hb)
 | st ls =>
  obtain ⟨fs, hu, hf, hst⟩ := kc_st h;have hfs : P.fieldsOf kt = fs := by simp [Program.fieldsOf, hu]
  refine (run_equalIn_struct w 9999 kt _ _ (by rw [hfs]; exact hu) hst).trans ?_;rw [hfs];exact eq_fields 9998 a b fs.toList ls 0 hf (by simpa [Kc.ls] using ha) (by simpa [Kc.ls] using hb)
theorem kval_inj {x y : Kx} (h : x.val = y.val) : x = y := by cases x <;> cases y <;> simp_all [Kx.val]
theorem key_inj {c : Kc} {a b : List Kx} (ha : fitsL c.ls a = true) (hb : fitsL c.ls b = true) (h : c.val a = c.val b) : a = b := by
 have hm : ∀ {a b : List Kx}, a.map Kx.val = b.map Kx.val -> a = b := by
  intro a
  induction a with
  | nil => intro b h; cases b with
   | nil => rfl
   | cons y b => simp at h
  | cons x a ih =>
   intro b h
   cases b with
   | nil => simp at h
   | cons y b =>
    simp only [List.map_cons, List.cons.injEq] at h;rw [kval_inj h.1, ih h.2]
 cases c with
 | one l =>
  obtain ⟨x, r, rfl, hx, hr⟩ := fitsL_cons ha;cases fitsL_nil hr;obtain ⟨y, s, rfl, hy, hs⟩ := fitsL_cons hb;cases fitsL_nil hs;rw [kval_inj h]
 | arr n l =>
  simp only [Kc.val, Value.agg.injEq] at h;exact hm (List.toArray_inj h)
 | st ls =>
  simp only [Kc.val, Value.agg.injEq] at h;exact hm (List.toArray_inj h)
theorem bits_self (x : Kx) (n : Nat) : Instr.sameBits n x.val x.val = true := by
 have hb : ∀ y : ByteArray, (y == y) = true := fun y => (bytes_beq y y).2 rfl;cases x <;> cases n <;> simp [Kx.val, Instr.sameBits, hb]
theorem key_stays {c : Kc} {a : List Kx} (ha : fitsL c.ls a = true) : (Instr.keyThatStays (c.val a) (c.val a)).run P w = .ok (c.val a) w := by
 have hb : Instr.sameBits (9999 + 1) (c.val a) (c.val a) = true := by
  have hg : Instr.sameBits (9999 + 1) (.agg (a.map Kx.val).toArray) (.agg (a.map Kx.val).toArray) = true := by
   simp only [Instr.sameBits, BEq.rfl, Bool.true_and, List.all_eq_true];intro p hp;obtain ⟨i, hi⟩ := List.getElem?_of_mem hp;simp only [List.getElem?_zip_eq_some] at hi;obtain ⟨h1, h2⟩ := hi;rw [h1] at h2;injection h2 with h2;have hm := List.mem_of_getElem? h1;simp only [List.mem_map] at hm;obtain ⟨x, _, hx⟩ := hm;obtain ⟨p1, p2⟩ := p;simp only at h2 hx ⊢;subst h2; subst hx;exact bits_self x 9999
  cases c with
  | one l =>
   obtain ⟨x, r, rfl, hx, hr⟩ := fitsL_cons ha;cases fitsL_nil hr;exact bits_self x _
  | arr n l => exact hg
  | st ls => exact hg
 unfold Instr.keyThatStays;rw [if_pos hb];rfl
def keyIs (c : Kc) (v : Value) (a : List Kx) : Prop := v = c.val a /\ fitsL c.ls a = true
theorem key_find {kt : TypeId} {c : Kc} {a : List Kx} (h : kcB P kt c = true) (ha : fitsL c.ls a = true) (es : List MapEntry) (hes : ∀ e ∈ es, ∃ b, keyIs c e.key b) :
 ((Instr.findKey kt (c.val a) es).run P w = .ok none w /\ ∀ e ∈ es, ¬ keyIs c e.key a) \/
 ∃ j e, (Instr.findKey kt (c.val a) es).run P w = .ok (some (j, e.val)) w /\ es[j]? = some e /\ keyIs c e.key a := by
 have ask : ∀ (es : List MapEntry) (i : Nat), (∀ e ∈ es, ∃ b, keyIs c e.key b) -> ((Instr.findAsking kt (c.val a) es i).run P w = .ok none w /\ ∀ e ∈ es, ¬ keyIs c e.key a) \/
  ∃ j e, (Instr.findAsking kt (c.val a) es i).run P w = .ok (some (i + j, e.val)) w /\ es[j]? = some e /\ keyIs c e.key a := by
  intro es
  induction es with
  | nil => intro i _; exact .inl ⟨by simp [Instr.findAsking], by simp⟩
  | cons e es ih =>
   intro i hes;obtain ⟨b, hb, hfb⟩ := hes e (by simp);have hr := key_equal (w := w) h ha hfb;by_cases hab : a = b
   . subst hab;refine .inr ⟨0, e, ?_, rfl, hb, hfb⟩;simp only [Instr.findAsking, Sem.run_bind, hb, hr, Result.andThen_ok, decide_true, if_true, Sem.run_pure, Nat.add_zero]
   . have hne : ¬ keyIs c e.key a := fun h2 => hab (key_inj ha hfb (h2.1.symm.trans hb));have hdec : decide (a = b) = false := by simp [hab]
     rcases ih (i + 1) (fun y hy => hes y (by simp [hy])) with ⟨h1, h2⟩ | ⟨j, e', h1, h2, h3⟩
     . refine .inl ⟨?_, fun y hy => ?_⟩
       . simp only [Instr.findAsking, Sem.run_bind, hb, hr, Result.andThen_ok, hdec, Bool.false_eq_true, if_false, h1]
       . rcases List.mem_cons.1 hy with rfl | hy
         . exact hne
         . exact h2 y hy
     . refine .inr ⟨j + 1, e', ?_, by simpa using h2, h3⟩;simp only [Instr.findAsking, Sem.run_bind, hb, hr, Result.andThen_ok, hdec, Bool.false_eq_true, if_false, h1];rw [Nat.add_assoc, Nat.add_comm 1 j]
 have hu : ∃ d, P.underlying kt = some d := by
  cases c with
  | one l => exact ⟨_, leaf_desc h⟩
  | arr n l => obtain ⟨e, i, hu, _⟩ := kc_arr h; exact ⟨_, hu⟩
  | st ls => obtain ⟨fs, hu, _⟩ := kc_st h; exact ⟨_, hu⟩
 obtain ⟨d, hd⟩ := hu;have hs : ∀ b, fitsL c.ls b = true -> Instr.sameNow d (c.val a) (c.val b) = none \/ Instr.sameNow d (c.val a) (c.val b) = some (decide (a = b)) := by
  intro b hb
  cases c with
  | one l =>
   obtain ⟨x, r, rfl, hx, hr⟩ := fitsL_cons ha;cases fitsL_nil hr;obtain ⟨y, s, rfl, hy, hs⟩ := fitsL_cons hb;cases fitsL_nil hs;right;have := leaf_desc (P := P) (e := kt) (l := l) h;rw [hd] at this;cases this;cases l <;> cases x <;> simp only [Lk.fits, Bool.false_eq_true, decide_eq_true_eq] at hx <;> cases y <;> simp only [Lk.fits, Bool.false_eq_true, decide_eq_true_eq] at hy
   . subst hx; subst hy;simp only [Lk.desc, Kc.val, Kx.val, Instr.sameNow, if_true, Option.some.injEq];rw [Bool.eq_iff_iff];simp
   . simp only [Lk.desc, Kc.val, Kx.val, Instr.sameNow, Option.some.injEq];rw [Bool.eq_iff_iff];simp
   . simp only [Lk.desc, Kc.val, Kx.val, Instr.sameNow, Option.some.injEq];rw [Bool.eq_iff_iff, bytes_beq];simp
  | arr n l => left; simp only [Kc.val]; unfold Instr.sameNow; split <;> simp_all
  | st ls => left; simp only [Kc.val]; unfold Instr.sameNow; split <;> simp_all
 have now : ∀ (es : List MapEntry) (i : Nat), (∀ e ∈ es, ∃ b, keyIs c e.key b) -> Instr.findNow d (c.val a) es i = none \/ (Instr.findNow d (c.val a) es i = some none /\ ∀ e ∈ es, ¬ keyIs c e.key a) \/
  ∃ j e, Instr.findNow d (c.val a) es i = some (some (i + j, e.val)) /\ es[j]? = some e /\ keyIs c e.key a := by
  intro es
  induction es with
  | nil => intro i _; exact .inr (.inl ⟨rfl, by simp⟩)
  | cons e es ih =>
   intro i hes;obtain ⟨b, hb, hfb⟩ := hes e (by simp);rcases hs b hfb with h1 | h1
   . left;simp only [Instr.findNow, hb, h1]
   . by_cases hab : a = b
     . subst hab;refine .inr (.inr ⟨0, e, ?_, rfl, hb, hfb⟩);simp only [Instr.findNow, hb, h1, decide_true, Nat.add_zero]
     . have hne : ¬ keyIs c e.key a := fun h2 => hab (key_inj ha hfb (h2.1.symm.trans hb));have hdec : decide (a = b) = false := by simp [hab]
       rw [hdec] at h1;rcases ih (i + 1) (fun y hy => hes y (by simp [hy])) with h2 | ⟨h2, h3⟩ | ⟨j, e', h2, h3, h4⟩
       . left;simp only [Instr.findNow, hb, h1, h2]
       . refine .inr (.inl ⟨?_, fun y hy => ?_⟩)
         . simp only [Instr.findNow, hb, h1, h2]
         . rcases List.mem_cons.1 hy with rfl | hy
           . exact hne
           . exact h3 y hy
       . refine .inr (.inr ⟨j + 1, e', ?_, by simpa using h3, h4⟩);simp only [Instr.findNow, hb, h1, h2];rw [Nat.add_assoc, Nat.add_comm 1 j]
 unfold Instr.findKey;simp only [Sem.run_bind, run_underlying hd, Result.andThen_ok];rcases now es 0 hes with h1 | ⟨h1, h2⟩ | ⟨j, e, h1, h2, h3⟩
 . rw [h1];rcases ask es 0 hes with h2 | ⟨j, e, h2, h3, h4⟩
   . exact .inl h2
   . exact .inr ⟨j, e, by rw [Nat.zero_add] at h2; exact h2, h3, h4⟩
 . rw [h1];exact .inl ⟨rfl, h2⟩
 . rw [h1];exact .inr ⟨j, e, by rw [Nat.zero_add]; rfl, h2, h3⟩
end
end Go.Proofs.YtfdjcakgolenbaaGreat
namespace Go.Proofs.YtfdjcakgolenbaaGreat
open Go.RowKit
inductive AV where
 | un
 | int (k : IntKind) (n : Unit -> Int)
 | lit (k : IntKind) (n : Int)
 | bool (b : Unit -> Bool)
 | blit (b : Bool)
 | str (s : Unit -> ByteArray)
 | nil
 | sl (fr : Bool) (t : Tc) (l : Unit -> List t.el)
 | wide (fr : Bool) (t : Tc) (l : Unit -> List t.el) (n : Unit -> Nat)
 | pto (cells : List AV) (off : Nat)
 | ptr (loc off : Nat)
 | own (loc : Nat)
 | orp (t : Tc) (loc : Nat) (k : Unit -> Int) (off : Nat)
 | mp (loc : Nat)
 | stamp (loc : Nat)
 | it (loc l2 : Nat)
 | agg (cells : List AV)
 | tup (l : List AV)
 | fn (f : FuncId) (caps : List AV)
inductive Rl where
 | box (b : Nat)
 | row (A : Option Addr) (n c : Nat)
 | mp (b : Nat)
 | stamp (s : Nat)
 | it (b : Nat)
def Rl.blk : Rl -> Option Nat
 | .box b => some b
 | .row A _ _ => A.map (·.block)
 | .mp b => some b
 | .stamp _ => none
 | .it b => some b
def Rl.solid : Rl -> Bool
 | .row _ _ _ => false
 | _ => true
-- CELLS
def cellsAV (fr : Bool) : (t : Tc) -> (Unit -> t.el) -> List AV
 | .int, x => [.int .i64 x]
 | .u8, x => [.int .u8 x]
 | .u32, x => [.int .u32 x]
 | .box, x => [.int .i64 (fun _ => (x ()).id), .str (fun _ => (x ()).num), .int .u8 (fun _ => (x ()).size), .bool (fun _ => (x ()).high), .int .i64 (fun _ => (x ()).kilos), .int .i64 (fun _ => (x ()).load), .int .i64 (fun _ => (x ()).dis), .int .u8 (fun _ => (x ()).cls), .bool (fun _ => (x ()).reefer)]
 | .stowed, x => [.int .i64 (fun _ => (x ()).box), .int .i64 (fun _ => (x ()).col), .int .i64 (fun _ => (x ()).tier), .int .u8 (fun _ => (x ()).half)]
 | .slot, x => [.int .i64 (fun _ => (x ()).col), .int .i64 (fun _ => (x ()).tier), .int .u8 (fun _ => (x ()).half)]
 | .ld, x => [.int .i64 (fun _ => (x ()).kilos), .int .i64 (fun _ => (x ()).x), .int .i64 (fun _ => (x ()).y), .int .i64 (fun _ => (x ()).z)]
 | .spn, x => [.int .i64 (fun _ => (x ()).n), .int .i64 (fun _ => (x ()).low), .int .i64 (fun _ => (x ()).high)]
 | .col, x => [.int .i64 (fun _ => (x ()).bay), .int .i64 (fun _ => (x ()).row), .bool (fun _ => (x ()).deck), .int .i64 (fun _ => (x ()).tiers), .int .i64 (fun _ => (x ()).height), .int .i64 (fun _ => (x ()).k20), .int .i64 (fun _ => (x ()).k40), .int .i64 (fun _ => (x ()).lash), .sl fr .int (fun _ => (x ()).plugs), .int .i64 (fun _ => (x ()).x), .int .i64 (fun _ => (x ()).y), .int .i64 (fun _ => (x ()).z)]
 | .cov, x => [.int .i64 (fun _ => (x ()).bay), .sl fr .int (fun _ => (x ()).rows)]
 | .mid, x => [.int .i64 (fun _ => (x ()).box.id), .str (fun _ => (x ()).box.num), .int .u8 (fun _ => (x ()).box.size), .bool (fun _ => (x ()).box.high), .int .i64 (fun _ => (x ()).box.kilos), .int .i64 (fun _ => (x ()).box.load), .int .i64 (fun _ => (x ()).box.dis), .int .u8 (fun _ => (x ()).box.cls), .bool (fun _ => (x ()).box.reefer), .int .i64 (fun _ => (x ()).x), .int .i64 (fun _ => (x ()).y), .int .i64 (fun _ => (x ()).h)]
 | .hrow, x => [.int .i64 (fun _ => (x ()).draught), .int .i64 (fun _ => (x ()).kilos), .int .i64 (fun _ => (x ()).buoy), .int .i64 (fun _ => (x ()).mc), .int .i64 (fun _ => (x ()).turn)]
 | .frm, x => [.int .i64 (fun _ => (x ()).x), .int .i64 (fun _ => (x ()).light), .int .i64 (fun _ => (x ()).share), .int .i64 (fun _ => (x ()).shear), .int .i64 (fun _ => (x ()).bend)]
 | .tnk, x => [.int .i64 (fun _ => (x ()).kilos), .int .i64 (fun _ => (x ()).x), .int .i64 (fun _ => (x ()).y), .int .i64 (fun _ => (x ()).z), .int .i64 (fun _ => (x ()).surface), .sl fr .int (fun _ => (x ()).steps)]
 | .colq, x => [.int .i64 (fun _ => (x ()).bay), .int .i64 (fun _ => (x ()).row), .bool (fun _ => (x ()).deck), .int .i64 (fun _ => (x ()).tiers), .int .i64 (fun _ => (x ()).height), .int .i64 (fun _ => (x ()).k20), .int .i64 (fun _ => (x ()).k40), .int .i64 (fun _ => (x ()).lash), .wide fr .int (fun _ => (x ()).plugs) (fun _ => (x ()).plugsN), .int .i64 (fun _ => (x ()).x), .int .i64 (fun _ => (x ()).y), .int .i64 (fun _ => (x ()).z)]
 | .covq, x => [.int .i64 (fun _ => (x ()).bay), .wide fr .int (fun _ => (x ()).rows) (fun _ => (x ()).rowsN)]
 | .tnkq, x => [.int .i64 (fun _ => (x ()).kilos), .int .i64 (fun _ => (x ()).x), .int .i64 (fun _ => (x ()).y), .int .i64 (fun _ => (x ()).z), .int .i64 (fun _ => (x ()).surface), .wide fr .int (fun _ => (x ()).steps) (fun _ => (x ()).stepsN)]
 | .plc, x => [.int .u8 (fun _ => (x ()).bay), .int .u8 (fun _ => (x ()).row), .int .u8 (fun _ => (x ()).tiers), .bool (fun _ => (x ()).deck)]
 | .drp, x => [.int .u8 (fun _ => (x ()).col), .int .u8 (fun _ => (x ()).kilos), .bool (fun _ => (x ()).small), .bool (fun _ => (x ()).high)]
 | .wgt, x => [.int .u16 (fun _ => (x ()).kilos), .int .i16 (fun _ => (x ()).x), .int .i16 (fun _ => (x ()).y), .int .i16 (fun _ => (x ()).z)]
theorem cellsAV_len (fr : Bool) (t : Tc) (x : Unit -> t.el) : (cellsAV fr t x).length = t.size := by cases t <;> rfl
def cvT : (t t2 : Tc) -> Option (t.el -> t2.el)
 | .colq, .col => some fun x => ⟨x.bay, x.row, x.deck, x.tiers, x.height, x.k20, x.k40, x.lash, x.plugs.take x.plugsN, x.x, x.y, x.z⟩
 | .covq, .cov => some fun x => ⟨x.bay, x.rows.take x.rowsN⟩
 | .tnkq, .tnk => some fun x => ⟨x.kilos, x.x, x.y, x.z, x.surface, x.steps.take x.stepsN⟩
 | _, _ => none
-- END CELLS
def elAV (ag fr : Bool) (t : Tc) (x : Unit -> t.el) : AV := if ag then .agg (cellsAV fr t x) else match cellsAV fr t x with
 | [c] => c
 | _ => .un
inductive AVR (w : World) (ρ : Nat -> Option Rl) (base : Nat) (ro : Nat -> Prop) : AV -> Value -> Prop
 | un (v) : AVR w ρ base ro .un v
 | int (k n) : AVR w ρ base ro (.int k n) (.int k (n ()))
 | lit (k n) : AVR w ρ base ro (.lit k n) (.int k n)
 | bool (b) : AVR w ρ base ro (.bool b) (.bool (b ()))
 | blit (b) : AVR w ρ base ro (.blit b) (.bool b)
 | str (s) : AVR w ρ base ro (.str s) (.string (s ()))
 | nil : AVR w ρ base ro .nil (.slice none 0 0)
 | sl (fr t l A c) (css : List (List Value)) (hl : css.length = (l ()).length) (hc : css.length <= c) (hr : Rd w w.heap.size t.size A css) (hro : ∀ a, A = some a -> css ≠ [] -> ro a.block) (hfr : fr = true -> ∀ a, A = some a -> css ≠ [] -> base <= a.block)
  (h : ∀ (k : Nat) (cs : List Value) (j : Nat) (x : AV) (v : Value), css[k]? = some cs -> (cellsAV fr t fun _ => (l ()).getD k t.dflt)[j]? = some x -> cs[j]? = some v -> AVR w ρ base ro x v) : AVR w ρ base ro (.sl fr t l) (.slice A (l ()).length c)
 | wide (fr t l n A c) (hn : n () <= (l ()).length) (h : AVR w ρ base ro (.sl fr t l) (.slice A (l ()).length c)) : AVR w ρ base ro (.wide fr t l n) (.slice A (n ()) c)
 | pto (cells : List AV) (off b o) (cs : List Value) (hro : ro b) (hlt : b < w.heap.size) (hl : cells.length = cs.length) (hc : ∀ (j : Nat) u, cs[j]? = some u -> w.cell? ⟨b, o + j, none⟩ = some u) (h : ∀ (j : Nat) x v, cells[j]? = some x -> cs[j]? = some v -> AVR w ρ base ro x v) : AVR w ρ base ro (.pto cells off) (.pointer (some ⟨b, o + off, none⟩))
 | ptr (loc off b) (h : ρ loc = some (.box b)) : AVR w ρ base ro (.ptr loc off) (.pointer (some ⟨b, off, none⟩))
 | own (loc A n c) (h : ρ loc = some (.row A n c)) : AVR w ρ base ro (.own loc) (.slice A n c)
 | orp (t loc k off A) (n : Nat) (c b) (h : ρ loc = some (.row A n c)) (hA : A = some ⟨b, 0, none⟩) (h0 : 0 <= k ()) (hn : k () < (n : Int)) : AVR w ρ base ro (.orp t loc k off) (.pointer (some ⟨b, (k ()).toNat * t.size + off, none⟩))
 | mp (loc b) (h : ρ loc = some (.mp b)) : AVR w ρ base ro (.mp loc) (.map (some b))
 | stamp (loc s) (h : ρ loc = some (.stamp s)) : AVR w ρ base ro (.stamp loc) (goInt s)
 | it (loc l2 b) (h : ρ l2 = some (.it b)) : AVR w ρ base ro (.it loc l2) (.pointer (some ⟨b, 0, none⟩))
 | agg (l : List AV) (vs : List Value) (hl : l.length = vs.length) (h : ∀ (j : Nat) x v, l[j]? = some x -> vs[j]? = some v -> AVR w ρ base ro x v) : AVR w ρ base ro (.agg l) (.agg vs.toArray)
 | tup (l : List AV) (vs : List Value) (hl : l.length = vs.length) (h : ∀ (j : Nat) x v, l[j]? = some x -> vs[j]? = some v -> AVR w ρ base ro x v) : AVR w ρ base ro (.tup l) (.tuple vs.toArray)
 | fn (f) (caps : List AV) (vs : List Value) (hl : caps.length = vs.length) (h : ∀ (j : Nat) x v, caps[j]? = some x -> vs[j]? = some v -> AVR w ρ base ro x v) : AVR w ρ base ro (.fn f caps) (.func (.func f) #[] vs.toArray)
def Each (w : World) (ρ : Nat -> Option Rl) (base : Nat) (ro : Nat -> Prop) (l : List AV) (vs : List Value) : Prop := l.length = vs.length /\ ∀ (j : Nat) x v, l[j]? = some x -> vs[j]? = some v -> AVR w ρ base ro x v
section
variable {w w' : World} {ρ ρ' : Nat -> Option Rl} {base base' : Nat} {ro ro' : Nat -> Prop}
theorem Each.nil : Each w ρ base ro [] [] := ⟨rfl, fun j x v h => by simp at h⟩
theorem Each.cons {x : AV} {v : Value} {l : List AV} {vs : List Value} (h : AVR w ρ base ro x v) (hs : Each w ρ base ro l vs) : Each w ρ base ro (x :: l) (v :: vs) := by
 refine ⟨by simp [hs.1], fun j y u hy hu => ?_⟩
 cases j with
 | zero =>
  simp only [List.getElem?_cons_zero, Option.some.injEq] at hy hu;subst hy; subst hu;exact h
 | succ j => exact hs.2 j y u (by simpa using hy) (by simpa using hu)
theorem Each.head {x : AV} {l : List AV} {vs : List Value} (h : Each w ρ base ro (x :: l) vs) : ∃ v us, vs = v :: us /\ AVR w ρ base ro x v /\ Each w ρ base ro l us := by
 cases vs with
 | nil => exact absurd h.1 (by simp)
 | cons v us => exact ⟨v, us, rfl, h.2 0 x v rfl rfl, by simpa using h.1, fun j y u hy hu => h.2 (j + 1) y u (by simpa using hy) (by simpa using hu)⟩
theorem Each.none {vs : List Value} (h : Each w ρ base ro [] vs) : vs = [] := by
 cases vs with
 | nil => rfl
 | cons v us => exact absurd h.1 (by simp)
theorem Each.get {l : List AV} {vs : List Value} (h : Each w ρ base ro l vs) {j : Nat} {x : AV} (hx : l[j]? = some x) : ∃ v, vs[j]? = some v /\ AVR w ρ base ro x v := by
 have hj := (List.getElem?_eq_some_iff.1 hx).1;exact ⟨vs[j]'(by rw [<- h.1]; exact hj), List.getElem?_eq_getElem _, h.2 j x _ hx (List.getElem?_eq_getElem _)⟩
def Ext (ρ ρ' : Nat -> Option Rl) : Prop := ∀ loc r, ρ loc = some r -> ρ' loc = some r
theorem Ext.refl (ρ : Nat -> Option Rl) : Ext ρ ρ := fun _ _ h => h
theorem AVR.mono {x : AV} {v : Value} (h : AVR w ρ base ro x v) (hw : ∀ b, ro b -> b < w.heap.size -> w'.heap[b]? = w.heap[b]?) (hρ : Ext ρ ρ') (hb : base' <= base) (hro : ∀ b, ro b -> ro' b) : AVR w' ρ' base' ro' x v := by
 induction h with
 | un => exact .un _
 | int => exact .int _ _
 | lit => exact .lit _ _
 | bool => exact .bool _
 | blit => exact .blit _
 | str => exact .str _
 | nil => exact .nil
 | sl fr t l A c css hl hc hr hro1 hfr h ih =>
  refine .sl fr t l A c css hl hc ?_ (fun a ha hn => hro _ (hro1 a ha hn)) (fun hf a ha hn => Nat.le_trans hb (hfr hf a ha hn)) ih;by_cases hn : css = []
  . subst hn;exact Rd.nil _ _ _ _
  . exact Rd.keep hr fun a ha => hw _ (hro1 a ha hn) (Rd.bound hr hn a ha)
 | wide fr t l n A c hn h ih => exact .wide fr t l n A c hn ih
 | pto cells off b o cs hr hlt hl hc h ih =>
  have hsame := hw b hr hlt;refine .pto cells off b o cs (hro _ hr) ?_ hl (fun j u hu => ?_) ih
  . rcases Nat.lt_or_ge b w'.heap.size with h2 | h2
    . exact h2
    . rw [Array.getElem?_eq_none h2, Array.getElem?_eq_getElem hlt] at hsame;cases hsame
  . rw [cell_same hsame];exact hc j u hu
 | ptr loc off b h => exact .ptr _ _ _ (hρ _ _ h)
 | own loc A n c h => exact .own _ _ _ _ (hρ _ _ h)
 | orp t loc k off A n c b h hA h0 hn => exact .orp _ _ _ _ _ _ _ _ (hρ _ _ h) hA h0 hn
 | mp loc b h => exact .mp _ _ (hρ _ _ h)
 | stamp loc s h => exact .stamp _ _ (hρ _ _ h)
 | it loc l2 b h => exact .it _ _ _ (hρ _ _ h)
 | agg l vs hl h ih => exact .agg _ _ hl ih
 | tup l vs hl h ih => exact .tup _ _ hl ih
 | fn f caps vs hl h ih => exact .fn _ _ _ hl ih
theorem Each.mono {l : List AV} {vs : List Value} (h : Each w ρ base ro l vs) (hw : ∀ b, ro b -> b < w.heap.size -> w'.heap[b]? = w.heap[b]?) (hρ : Ext ρ ρ') (hb : base' <= base) (hro : ∀ b, ro b -> ro' b) : Each w' ρ' base' ro' l vs :=
 ⟨h.1, fun j x v hx hv => (h.2 j x v hx hv).mono hw hρ hb hro⟩
/- what a tree names -/
mutual
def AV.has (loc : Nat) : AV -> Bool
 | .own l => l == loc
 | .orp _ l _ _ => l == loc
 | .pto cs _ => AV.hasL loc cs
 | .agg cs => AV.hasL loc cs
 | .tup cs => AV.hasL loc cs
 | .fn _ cs => AV.hasL loc cs
 | _ => false
def AV.hasL (loc : Nat) : List AV -> Bool
 | [] => false
 | x :: l => AV.has loc x || AV.hasL loc l
end
/- no place of the run's own, and what is in it is new if 'fresh' is asked -/
mutual
def AV.plain (fresh : Bool) : AV -> Bool
 | .own _ => false
 | .orp _ _ _ _ => false
 | .ptr _ _ => false
 | .mp _ => false
 | .stamp _ => false
 | .it _ _ => false
 | .pto cs _ => !fresh && AV.plainL fresh cs
 | .agg cs => AV.plainL fresh cs
 | .tup cs => AV.plainL fresh cs
 | .fn _ cs => AV.plainL fresh cs
 | .sl fr _ _ => fr || !fresh
 | .wide fr _ _ _ => fr || !fresh
 | _ => true
def AV.plainL (fresh : Bool) : List AV -> Bool
 | [] => true
 | x :: l => AV.plain fresh x && AV.plainL fresh l
end
theorem hasL_get {loc : Nat} : ∀ {l : List AV} {j : Nat} {x : AV}, AV.hasL loc l = false -> l[j]? = some x -> AV.has loc x = false
 | y :: l, 0, x, h, hx => by
  simp only [List.getElem?_cons_zero, Option.some.injEq] at hx;subst hx;simp only [AV.hasL, Bool.or_eq_false_iff] at h;exact h.1
 | y :: l, j + 1, x, h, hx => by
  simp only [AV.hasL, Bool.or_eq_false_iff] at h;exact hasL_get h.2 (by simpa using hx)
 | [], j, x, _, hx => by simp at hx
theorem plainL_get {fresh : Bool} : ∀ {l : List AV} {j : Nat} {x : AV}, AV.plainL fresh l = true -> l[j]? = some x -> AV.plain fresh x = true
 | y :: l, 0, x, h, hx => by
  simp only [List.getElem?_cons_zero, Option.some.injEq] at hx;subst hx;simp only [AV.plainL, Bool.and_eq_true] at h;exact h.1
 | y :: l, j + 1, x, h, hx => by
  simp only [AV.plainL, Bool.and_eq_true] at h;exact plainL_get h.2 (by simpa using hx)
 | [], j, x, _, hx => by simp at hx
theorem cellsAV_has (fr : Bool) (t : Tc) (x : Unit -> t.el) (loc : Nat) : AV.hasL loc (cellsAV fr t x) = false := by cases t <;> rfl
theorem cellsAV_plain (t : Tc) (x : Unit -> t.el) (fresh : Bool) : AV.plainL fresh (cellsAV true t x) = true := by cases t <;> cases fresh <;> rfl
theorem cellsAV_plain0 (fr : Bool) (t : Tc) (x : Unit -> t.el) : AV.plainL false (cellsAV fr t x) = true := by cases t <;> cases fr <;> rfl
theorem AVR.move {x : AV} {v : Value} {loc : Nat} (h : AVR w ρ base ro x v) (hx : AV.has loc x = false) (hρ : ∀ l r, ρ l = some r -> (l ≠ loc \/ r.solid = true) -> ρ' l = some r) : AVR w ρ' base ro x v := by
 induction h with
 | un => exact .un _
 | int => exact .int _ _
 | lit => exact .lit _ _
 | bool => exact .bool _
 | blit => exact .blit _
 | str => exact .str _
 | nil => exact .nil
 | sl fr t l A c css hl hc hr hro1 hfr h ih =>
  exact .sl fr t l A c css hl hc hr hro1 hfr fun k cs j y v h1 h2 h3 => ih k cs j y v h1 h2 h3 (hasL_get (cellsAV_has _ _ _ _) h2)
 | wide fr t l n A c hn h ih => exact .wide fr t l n A c hn (ih rfl)
 | pto cells off b o cs hr hlt hl hc h ih =>
  exact .pto cells off b o cs hr hlt hl hc fun j y v h1 h2 => ih j y v h1 h2 (hasL_get (by simpa only [AV.has] using hx) h1)
 | ptr l off b h => exact .ptr _ _ _ (hρ _ _ h (.inr rfl))
 | mp l b h => exact .mp _ _ (hρ _ _ h (.inr rfl))
 | stamp l s h => exact .stamp _ _ (hρ _ _ h (.inr rfl))
 | it l l2 b h => exact .it _ _ _ (hρ _ _ h (.inr rfl))
 | own l A n c h =>
  have h1 : l ≠ loc := by simpa [AV.has] using hx
  exact .own _ _ _ _ (hρ _ _ h (.inl h1))
 | orp t l k off A n c b h hA h0 hn =>
  have h1 : l ≠ loc := by simpa [AV.has] using hx
  exact .orp _ _ _ _ _ _ _ _ (hρ _ _ h (.inl h1)) hA h0 hn
 | agg l vs hl h ih => exact .agg _ _ hl fun j y v h1 h2 => ih j y v h1 h2 (hasL_get (by simpa only [AV.has] using hx) h1)
 | tup l vs hl h ih => exact .tup _ _ hl fun j y v h1 h2 => ih j y v h1 h2 (hasL_get (by simpa only [AV.has] using hx) h1)
 | fn f caps vs hl h ih => exact .fn _ _ _ hl fun j y v h1 h2 => ih j y v h1 h2 (hasL_get (by simpa only [AV.has] using hx) h1)
theorem AVR.plain {x : AV} {v : Value} {fresh : Bool} (h : AVR w ρ base ro x v) (hx : AV.plain fresh x = true) (hro : ∀ b, (fresh = true -> base <= b) -> ro b -> ro' b) : AVR w ρ' base ro' x v := by
 induction h with
 | un => exact .un _
 | int => exact .int _ _
 | lit => exact .lit _ _
 | bool => exact .bool _
 | blit => exact .blit _
 | str => exact .str _
 | nil => exact .nil
 | sl fr t l A c css hl hc hr hro1 hfr h ih =>
  have hff : fresh = true -> fr = true := by
   intro hf;simpa [AV.plain, hf] using hx
  refine .sl fr t l A c css hl hc hr (fun a ha hn => hro _ (fun hf => hfr (hff hf) a ha hn) (hro1 a ha hn)) hfr fun k cs j y v h1 h2 h3 => ih k cs j y v h1 h2 h3 (plainL_get ?_ h2)
  cases fresh with
  | true => rw [hff rfl]; exact cellsAV_plain _ _ _
  | false => exact cellsAV_plain0 _ _ _
 | wide fr t l n A c hn h ih => exact .wide fr t l n A c hn (ih (by simpa only [AV.plain] using hx))
 | pto cells off b o cs hr hlt hl hc h ih =>
  simp only [AV.plain, Bool.and_eq_true, Bool.not_eq_true'] at hx;exact .pto cells off b o cs (hro _ (by rw [hx.1]; simp) hr) hlt hl hc fun j y v h1 h2 => ih j y v h1 h2 (plainL_get hx.2 h1)
 | ptr l off b h => simp [AV.plain] at hx
 | own l A n c h => simp [AV.plain] at hx
 | orp t l k off A n c b h hA h0 hn => simp [AV.plain] at hx
 | mp l b h => simp [AV.plain] at hx
 | stamp l s h => simp [AV.plain] at hx
 | it l l2 b h => simp [AV.plain] at hx
 | agg l vs hl h ih => exact .agg _ _ hl fun j y v h1 h2 => ih j y v h1 h2 (plainL_get (by simpa only [AV.plain] using hx) h1)
 | tup l vs hl h ih => exact .tup _ _ hl fun j y v h1 h2 => ih j y v h1 h2 (plainL_get (by simpa only [AV.plain] using hx) h1)
 | fn f caps vs hl h ih => exact .fn _ _ _ hl fun j y v h1 h2 => ih j y v h1 h2 (plainL_get (by simpa only [AV.plain] using hx) h1)
end
end Go.Proofs.YtfdjcakgolenbaaGreat
