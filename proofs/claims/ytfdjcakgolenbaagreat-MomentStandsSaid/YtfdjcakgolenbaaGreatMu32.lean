/-
  Arguments are read: ships, columns, boxes, slots, loads.
-/
import Derived.Test.YtfdjcakgolenbaaGreatMu31
set_option linter.unusedVariables false
set_option linter.unusedSimpArgs false
namespace Go.Proofs.YtfdjcakgolenbaaGreat
open Go.RowKit
def boxSg : List Sg := [.int .i64, .str, .int .u8, .bool, .int .i64, .int .i64, .int .i64, .int .u8, .bool]
def midSg : List Sg := boxSg ++ [.int .i64, .int .i64, .int .i64]
def stoSg : List Sg := [.int .i64, .int .i64, .int .i64, .int .u8]
def sloSg : List Sg := [.int .i64, .int .i64, .int .u8]
def ldSg : List Sg := [.int .i64, .int .i64, .int .i64, .int .i64]
def colSg : List Sg := [.int .i64, .int .i64, .bool, .int .i64, .int .i64, .int .i64, .int .i64, .int .i64, .sl .int, .int .i64, .int .i64, .int .i64]
def shipSg : List Sg := [.sl .col, .sl .cov, .int .i64, .int .i64, .int .i64, .int .i64, .sl .hrow, .sl .frm, .sl .tnk, .int .i64, .int .i64, .int .i64, .int .i64]
structure Shp where
 cols : List Col
 covs : List Cov
 lk : Int
 lx : Int
 ly : Int
 lz : Int
 rows : List Hrow
 frms : List Frm
 tnks : List Tnk
 m1 : Int
 m2 : Int
 m3 : Int
 m4 : Int
def boxL (b : Unit → Box) : List AV := [.int .i64 fun _ => (b ()).id, .str fun _ => (b ()).num, .int .u8 fun _ => (b ()).size, .bool fun _ => (b ()).high, .int .i64 fun _ => (b ()).kilos, .int .i64 fun _ => (b ()).load, .int .i64 fun _ => (b ()).dis, .int .u8 fun _ => (b ()).cls, .bool fun _ => (b ()).reefer]
def midL (b : Unit → Mid) : List AV := (boxL fun _ => (b ()).box) ++ [.int .i64 fun _ => (b ()).x, .int .i64 fun _ => (b ()).y, .int .i64 fun _ => (b ()).h]
def ldL (b : Unit → Ld) : List AV := [.int .i64 fun _ => (b ()).kilos, .int .i64 fun _ => (b ()).x, .int .i64 fun _ => (b ()).y, .int .i64 fun _ => (b ()).z]
def stoL (b : Unit → Stowed) : List AV := [.int .i64 fun _ => (b ()).box, .int .i64 fun _ => (b ()).col, .int .i64 fun _ => (b ()).tier, .int .u8 fun _ => (b ()).half]
def sloL (b : Unit → Slot) : List AV := [.int .i64 fun _ => (b ()).col, .int .i64 fun _ => (b ()).tier, .int .u8 fun _ => (b ()).half]
def colL (b : Unit → Col) : List AV := [.int .i64 fun _ => (b ()).bay, .int .i64 fun _ => (b ()).row, .bool fun _ => (b ()).deck, .int .i64 fun _ => (b ()).tiers, .int .i64 fun _ => (b ()).height, .int .i64 fun _ => (b ()).k20, .int .i64 fun _ => (b ()).k40, .int .i64 fun _ => (b ()).lash, .sl false .int fun _ => (b ()).plugs, .int .i64 fun _ => (b ()).x, .int .i64 fun _ => (b ()).y, .int .i64 fun _ => (b ()).z]
def shipL (b : Unit → Shp) : List AV := [.sl false .col fun _ => (b ()).cols, .sl false .cov fun _ => (b ()).covs, .int .i64 fun _ => (b ()).lk, .int .i64 fun _ => (b ()).lx, .int .i64 fun _ => (b ()).ly, .int .i64 fun _ => (b ()).lz, .sl false .hrow fun _ => (b ()).rows, .sl false .frm fun _ => (b ()).frms, .sl false .tnk fun _ => (b ()).tnks, .int .i64 fun _ => (b ()).m1, .int .i64 fun _ => (b ()).m2, .int .i64 fun _ => (b ()).m3, .int .i64 fun _ => (b ()).m4]
def AV.toI : AV → Option (Unit → Int)
 | .int .i64 n => some n
 | _ => none
def AV.toU8 : AV → Option (Unit → Int)
 | .int .u8 n => some n
 | _ => none
def AV.toB : AV → Option (Unit → Bool)
 | .bool n => some n
 | _ => none
def AV.toS : AV → Option (Unit → ByteArray)
 | .str n => some n
 | _ => none
def AV.toCols : AV → Option (Unit → List Col)
 | .sl false .col l => some l
 | _ => none
def AV.toCovs : AV → Option (Unit → List Cov)
 | .sl false .cov l => some l
 | _ => none
def AV.toInts : AV → Option (Unit → List Int)
 | .sl false .int l => some l
 | _ => none
def AV.toBoxes : AV → Option (Unit → List Box)
 | .sl false .box l => some l
 | _ => none
def AV.toStos : AV → Option (Unit → List Stowed)
 | .sl false .stowed l => some l
 | _ => none
def AV.toSlos : AV → Option (Unit → List Slot)
 | .sl false .slot l => some l
 | _ => none
def AV.toLds : AV → Option (Unit → List Ld)
 | .sl false .ld l => some l
 | _ => none
def AV.toU8s : AV → Option (Unit → List Int)
 | .sl false .u8 l => some l
 | _ => none
def AV.toSpns : AV → Option (Unit → List Spn)
 | .sl false .spn l => some l
 | _ => none
def AV.toMids : AV → Option (Unit → List Mid)
 | .sl false .mid l => some l
 | _ => none
def AV.toHrows : AV → Option (Unit → List Hrow)
 | .sl false .hrow l => some l
 | _ => none
def AV.toFrms : AV → Option (Unit → List Frm)
 | .sl false .frm l => some l
 | _ => none
def AV.toTnks : AV → Option (Unit → List Tnk)
 | .sl false .tnk l => some l
 | _ => none
def AV.toPlcs : AV → Option (Unit → List Plc)
 | .sl false .plc l => some l
 | _ => none
def AV.toDrps : AV → Option (Unit → List Drp)
 | .sl false .drp l => some l
 | _ => none
def AV.toU32 : AV → Option (Unit → Int)
 | .int .u32 n => some n
 | _ => none
def AV.toPI : AV → Option (Unit → Int)
 | .pto [.int .i64 n] 0 => some n
 | _ => none
def AV.toPB : AV → Option (Unit → Bool)
 | .pto [.bool n] 0 => some n
 | _ => none
def AV.toFPI (f : FuncId) : AV → Option (Unit → Int)
 | .fn g [.pto [.int .i64 n] 0] => if g = f then some n else none
 | _ => none
theorem AV.toI_ {x : AV} {n : Unit → Int} (h : x.toI = some n) : x = .int .i64 n := by
 unfold AV.toI at h
 split at h <;> cases h
 rfl
theorem AV.toU8_ {x : AV} {n : Unit → Int} (h : x.toU8 = some n) : x = .int .u8 n := by
 unfold AV.toU8 at h
 split at h <;> cases h
 rfl
theorem AV.toB_ {x : AV} {n : Unit → Bool} (h : x.toB = some n) : x = .bool n := by
 unfold AV.toB at h
 split at h <;> cases h
 rfl
theorem AV.toS_ {x : AV} {n : Unit → ByteArray} (h : x.toS = some n) : x = .str n := by
 unfold AV.toS at h
 split at h <;> cases h
 rfl
theorem AV.toCols_ {x : AV} {n : Unit → List Col} (h : x.toCols = some n) : x = .sl false .col n := by
 unfold AV.toCols at h
 split at h <;> cases h
 rfl
theorem AV.toCovs_ {x : AV} {n : Unit → List Cov} (h : x.toCovs = some n) : x = .sl false .cov n := by
 unfold AV.toCovs at h
 split at h <;> cases h
 rfl
theorem AV.toInts_ {x : AV} {n : Unit → List Int} (h : x.toInts = some n) : x = .sl false .int n := by
 unfold AV.toInts at h
 split at h <;> cases h
 rfl
theorem AV.toBoxes_ {x : AV} {n : Unit → List Box} (h : x.toBoxes = some n) : x = .sl false .box n := by
 unfold AV.toBoxes at h
 split at h <;> cases h
 rfl
theorem AV.toStos_ {x : AV} {n : Unit → List Stowed} (h : x.toStos = some n) : x = .sl false .stowed n := by
 unfold AV.toStos at h
 split at h <;> cases h
 rfl
theorem AV.toSlos_ {x : AV} {n : Unit → List Slot} (h : x.toSlos = some n) : x = .sl false .slot n := by
 unfold AV.toSlos at h
 split at h <;> cases h
 rfl
theorem AV.toLds_ {x : AV} {n : Unit → List Ld} (h : x.toLds = some n) : x = .sl false .ld n := by
 unfold AV.toLds at h
 split at h <;> cases h
 rfl
theorem AV.toU8s_ {x : AV} {n : Unit → List Int} (h : x.toU8s = some n) : x = .sl false .u8 n := by
 unfold AV.toU8s at h
 split at h <;> cases h
 rfl
theorem AV.toSpns_ {x : AV} {n : Unit → List Spn} (h : x.toSpns = some n) : x = .sl false .spn n := by
 unfold AV.toSpns at h
 split at h <;> cases h
 rfl
theorem AV.toMids_ {x : AV} {n : Unit → List Mid} (h : x.toMids = some n) : x = .sl false .mid n := by
 unfold AV.toMids at h
 split at h <;> cases h
 rfl
theorem AV.toHrows_ {x : AV} {n : Unit → List Hrow} (h : x.toHrows = some n) : x = .sl false .hrow n := by
 unfold AV.toHrows at h
 split at h <;> cases h
 rfl
theorem AV.toFrms_ {x : AV} {n : Unit → List Frm} (h : x.toFrms = some n) : x = .sl false .frm n := by
 unfold AV.toFrms at h
 split at h <;> cases h
 rfl
theorem AV.toTnks_ {x : AV} {n : Unit → List Tnk} (h : x.toTnks = some n) : x = .sl false .tnk n := by
 unfold AV.toTnks at h
 split at h <;> cases h
 rfl
theorem AV.toPlcs_ {x : AV} {n : Unit → List Plc} (h : x.toPlcs = some n) : x = .sl false .plc n := by
 unfold AV.toPlcs at h
 split at h <;> cases h
 rfl
theorem AV.toDrps_ {x : AV} {n : Unit → List Drp} (h : x.toDrps = some n) : x = .sl false .drp n := by
 unfold AV.toDrps at h
 split at h <;> cases h
 rfl
theorem AV.toU32_ {x : AV} {n : Unit → Int} (h : x.toU32 = some n) : x = .int .u32 n := by
 unfold AV.toU32 at h
 split at h <;> cases h
 rfl
theorem AV.toPI_ {x : AV} {n : Unit → Int} (h : x.toPI = some n) : x = .pto [.int .i64 n] 0 := by
 unfold AV.toPI at h
 split at h <;> cases h
 rfl
theorem AV.toPB_ {x : AV} {n : Unit → Bool} (h : x.toPB = some n) : x = .pto [.bool n] 0 := by
 unfold AV.toPB at h
 split at h <;> cases h
 rfl
theorem AV.toFPI_ {x : AV} {f : FuncId} {n : Unit → Int} (h : x.toFPI f = some n) : x = .fn f [.pto [.int .i64 n] 0] := by
 unfold AV.toFPI at h
 split at h
 · split at h <;> cases h
   rename_i h
   rw [h]
 · cases h
def AV.toBox : AV → Option (Unit → Box)
 | .agg [a, b, c, d, e, f, g, h, i] => a.toI.bind fun a => b.toS.bind fun b => c.toU8.bind fun c => d.toB.bind fun d => e.toI.bind fun e => f.toI.bind fun f => g.toI.bind fun g => h.toU8.bind fun h => i.toB.bind fun i => some fun _ => ⟨a (), b (), c (), d (), e (), f (), g (), h (), i ()⟩
 | _ => none
def AV.toMid : AV → Option (Unit → Mid)
 | .agg [a, b, c, d, e, f, g, h, i, x, y, z] => (AV.toBox (.agg [a, b, c, d, e, f, g, h, i])).bind fun b => x.toI.bind fun x => y.toI.bind fun y => z.toI.bind fun z => some fun _ => ⟨b (), x (), y (), z ()⟩
 | _ => none
def AV.toLd : AV → Option (Unit → Ld)
 | .agg [a, b, c, d] => a.toI.bind fun a => b.toI.bind fun b => c.toI.bind fun c => d.toI.bind fun d => some fun _ => ⟨a (), b (), c (), d ()⟩
 | _ => none
def AV.toSto : AV → Option (Unit → Stowed)
 | .agg [a, b, c, d] => a.toI.bind fun a => b.toI.bind fun b => c.toI.bind fun c => d.toU8.bind fun d => some fun _ => ⟨a (), b (), c (), d ()⟩
 | _ => none
def AV.toSlo : AV → Option (Unit → Slot)
 | .agg [a, b, c] => a.toI.bind fun a => b.toI.bind fun b => c.toU8.bind fun c => some fun _ => ⟨a (), b (), c ()⟩
 | _ => none
def AV.toCol : AV → Option (Unit → Col)
 | .agg [a, b, c, d, e, f, g, h, i, j, k, l] => a.toI.bind fun a => b.toI.bind fun b => c.toB.bind fun c => d.toI.bind fun d => e.toI.bind fun e => f.toI.bind fun f => g.toI.bind fun g => h.toI.bind fun h => i.toInts.bind fun i => j.toI.bind fun j => k.toI.bind fun k => l.toI.bind fun l => some fun _ => ⟨a (), b (), c (), d (), e (), f (), g (), h (), i (), j (), k (), l ()⟩
 | _ => none
def AV.toShip : AV → Option (Unit → Shp)
 | .agg [a, b, c, d, e, f, g, h, i, j, k, l, m] => a.toCols.bind fun a => b.toCovs.bind fun b => c.toI.bind fun c => d.toI.bind fun d => e.toI.bind fun e => f.toI.bind fun f => g.toHrows.bind fun g => h.toFrms.bind fun h => i.toTnks.bind fun i => j.toI.bind fun j => k.toI.bind fun k => l.toI.bind fun l => m.toI.bind fun m => some fun _ => ⟨a (), b (), c (), d (), e (), f (), g (), h (), i (), j (), k (), l (), m ()⟩
 | _ => none
theorem AV.toBox_ {x : AV} {b : Unit → Box} (h : x.toBox = some b) : x = .agg (boxL b) := by
 unfold AV.toBox at h
 split at h
 · simp only [Option.bind_eq_some_iff, Option.some.injEq] at h
   obtain ⟨a, h1, b, h2, c, h3, d, h4, e, h5, f, h6, g, h7, i, h8, j, h9, rfl⟩ := h
   rw [AV.toI_ h1, AV.toS_ h2, AV.toU8_ h3, AV.toB_ h4, AV.toI_ h5, AV.toI_ h6, AV.toI_ h7, AV.toU8_ h8, AV.toB_ h9]
   rfl
 · cases h
theorem AV.toMid_ {x : AV} {b : Unit → Mid} (h : x.toMid = some b) : x = .agg (midL b) := by
 unfold AV.toMid at h
 split at h
 · simp only [Option.bind_eq_some_iff, Option.some.injEq] at h
   obtain ⟨b, h1, x, h2, y, h3, z, h4, rfl⟩ := h
   have h5 := AV.toBox_ h1
   simp only [AV.agg.injEq] at h5
   rw [AV.toI_ h2, AV.toI_ h3, AV.toI_ h4]
   unfold midL
   rw [← show _ = boxL b from h5]
   rfl
 · cases h
theorem AV.toLd_ {x : AV} {b : Unit → Ld} (h : x.toLd = some b) : x = .agg (ldL b) := by
 unfold AV.toLd at h
 split at h
 · simp only [Option.bind_eq_some_iff, Option.some.injEq] at h
   obtain ⟨a, h1, b, h2, c, h3, d, h4, rfl⟩ := h
   rw [AV.toI_ h1, AV.toI_ h2, AV.toI_ h3, AV.toI_ h4]
   rfl
 · cases h
theorem AV.toSto_ {x : AV} {b : Unit → Stowed} (h : x.toSto = some b) : x = .agg (stoL b) := by
 unfold AV.toSto at h
 split at h
 · simp only [Option.bind_eq_some_iff, Option.some.injEq] at h
   obtain ⟨a, h1, b, h2, c, h3, d, h4, rfl⟩ := h
   rw [AV.toI_ h1, AV.toI_ h2, AV.toI_ h3, AV.toU8_ h4]
   rfl
 · cases h
theorem AV.toSlo_ {x : AV} {b : Unit → Slot} (h : x.toSlo = some b) : x = .agg (sloL b) := by
 unfold AV.toSlo at h
 split at h
 · simp only [Option.bind_eq_some_iff, Option.some.injEq] at h
   obtain ⟨a, h1, b, h2, c, h3, rfl⟩ := h
   rw [AV.toI_ h1, AV.toI_ h2, AV.toU8_ h3]
   rfl
 · cases h
theorem AV.toCol_ {x : AV} {b : Unit → Col} (h : x.toCol = some b) : x = .agg (colL b) := by
 unfold AV.toCol at h
 split at h
 · simp only [Option.bind_eq_some_iff, Option.some.injEq] at h
   obtain ⟨a, h1, b, h2, c, h3, d, h4, e, h5, f, h6, g, h7, i, h8, j, h9, k, h10, l, h11, m, h12, rfl⟩ := h
   rw [AV.toI_ h1, AV.toI_ h2, AV.toB_ h3, AV.toI_ h4, AV.toI_ h5, AV.toI_ h6, AV.toI_ h7, AV.toI_ h8, AV.toInts_ h9, AV.toI_ h10, AV.toI_ h11, AV.toI_ h12]
   rfl
 · cases h
theorem AV.toShip_ {x : AV} {b : Unit → Shp} (h : x.toShip = some b) : x = .agg (shipL b) := by
 unfold AV.toShip at h
 split at h
 · simp only [Option.bind_eq_some_iff, Option.some.injEq] at h
   obtain ⟨a, h1, b, h2, c, h3, d, h4, e, h5, f, h6, g, h7, i, h8, j, h9, k, h10, l, h11, m, h12, n, h13, rfl⟩ := h
   rw [AV.toCols_ h1, AV.toCovs_ h2, AV.toI_ h3, AV.toI_ h4, AV.toI_ h5, AV.toI_ h6, AV.toHrows_ h7, AV.toFrms_ h8, AV.toTnks_ h9, AV.toI_ h10, AV.toI_ h11, AV.toI_ h12, AV.toI_ h13]
   rfl
 · cases h
theorem results_box2 {P : Program} {fn : Func} {p t : Tmp} {T g : Nat} {w : World} {cs : List Value} (h : fn.results = #[.cell p T, .tmp t]) (tmps : Array Value) (hp : tmps.getD p undef = .pointer (some ⟨g, 0, none⟩)) (hl : (loadVar T ⟨g, 0, none⟩).run P w = .ok (.agg cs.toArray) w) :
 (results fn tmps).run P w = .ok (.tuple #[.agg cs.toArray, tmps.getD t undef]) w := by
 have hp' : tmps[p]?.getD undef = .pointer (some ⟨g, 0, none⟩) := by simpa using hp
 simp [results, h, hp', asAddr, hl]
theorem Mem.alloc2 {w0 w : World} {M : List Ent} (h : Mem w0 w M) (T : Nat) (cs : List Value) (T' : Nat) (cs' : List Value) : Mem w0 ((w.alloc (.cells cs.toArray T)).alloc (.cells cs'.toArray T')) (.box (w.heap.size + 1) T' cs' :: .box w.heap.size T cs :: M) := by
 have h := (h.alloc T cs).alloc T' cs'
 have e : (w.alloc (.cells cs.toArray T)).heap.size = w.heap.size + 1 := by simp
 rw [e] at h
 exact h
theorem Rd.addr {w : World} {B size : Nat} {A : Option Addr} {css : List (List Value)} (h : Rd w B size A css) (h0 : 0 < css.length) : ∃ b off, A = some ⟨b, off, none⟩ := by
 obtain ⟨b, off, e, _⟩ := h 0 css[0] (List.getElem?_eq_getElem h0)
 exact ⟨b, off, e⟩
def u8Row (n : Int) : List Value := [.int .u8 n]
def halvesF (size : Int) : List Int := if size = 40 then [0] else if size = 20 then [1, 2] else []
def idxE {α : Type} [DecidableEq α] (x : α) (l : List α) : Int := idx (fun y => decide (x = y)) l
theorem indexU8 (A : Option Addr) (c : Nat) (l : List Int) (n : Nat) (hn : n = l.length) (x : Int) (w : World) (hA : Rd w w.heap.size 1 A (l.map u8Row)) (hl : l.length ≤ 1000000000000) :
 Calls Tryz.prog 184 #[.slice A n c, .int .u8 x] w fun e w' => e = .returned (.int .i64 (idxE x l)) ∧ w' = w := by
 have HN := Lib.hid hn
 have HR := Lib.hid hA
 have hl2 : n ≤ 1000000000000 := by omega
 clear hA hn hl
 go_enter Tryz.func184, Tryz.ntmps184
 go_wp2
 go_loopw [5, 8] (fun _ i wr => ∃ k : Nat, k ≤ n ∧ i = .int .i64 k ∧ (∀ j, (h : j < k) → (h2 : j < l.length) → decide (x = l[j]) = false) ∧ wr = w) (fun _ i _ => n - (intOf i).toNat)
 case atStart => exact ⟨0, by omega, rfl, by omega, rfl⟩
 case round =>
  obtain ⟨k, hk, rfl, hj, rfl⟩ := hrel
  have HJ := Lib.hid hj
  clear hj
  by_cases hkn : k = n
  · have hlt : ¬ (k : Int) < (n : Int) := by omega
    have HI : Hid (idxE x l = -1) := idx_none (fun j h => HJ.out j (by have := HN.out; omega) h)
    clear hkn hk
    go_wp2
    go_ret
    exact ⟨by rw [HI.out]; rfl, rfl⟩
  · have hlt : (k : Int) < (n : Int) := by omega
    have hkl : k < l.length := by have := HN.out; omega
    obtain ⟨b, off, rfl⟩ := Rd.addr HR.out (by rw [List.length_map]; omega)
    obtain ⟨y, hy⟩ : ∃ y, y = l[k] := ⟨_, rfl⟩
    have HL := Lib.hid (Rd.cell (P := Tryz.prog) HR.out (Below.refl _ _) ct5 (k := k) (cs := u8Row y) (by rw [hy]; exact map_get2 u8Row l k hkl) (j := 0) (v := .int .u8 y) rfl (p := off + k) (by omega))
    by_cases hxy : x = y
    · have HI : Hid (idxE x l = k) := idx_found hkl (fun j h => HJ.out j h (by omega)) (by rw [← hy]; exact decide_eq_true hxy)
      have hb : (x == y) = true := by simpa using hxy
      clear hkn hk hy hxy
      go_wp2_with ((with_reducible refine g_ld 5 ?_); refine wpList_ld rfl _ _ rfl _ rfl _ HL.out ?_)
      go_ret
      exact ⟨by rw [HI.out]; rfl, rfl⟩
    · have HJ2 : Hid (∀ j, (h : j < k + 1) → (h2 : j < l.length) → decide (x = l[j]) = false) := by
       intro j h h2
       rcases Nat.lt_or_ge j k with h3 | h3
       · exact HJ.out j h3 h2
       · obtain rfl : j = k := by omega
         rw [← hy]
         exact decide_eq_false hxy
      have hb : (x == y) = false := by simpa using hxy
      clear HJ hy hxy
      go_wp2_with ((with_reducible refine g_ld 5 ?_); refine wpList_ld rfl _ _ rfl _ rfl _ HL.out ?_)
      go_roundw
      case rel => exact ⟨k + 1, by omega, by go_num, HJ2.out, trivial⟩
      case measure => simp [intOf]; omega
theorem containsU8 (A : Option Addr) (c : Nat) (l : List Int) (n : Nat) (hn : n = l.length) (x : Int) (w : World) (hA : Rd w w.heap.size 1 A (l.map u8Row)) (hl : l.length ≤ 1000000000000) :
 Calls Tryz.prog 154 #[.slice A n c, .int .u8 x] w fun e w' => e = .returned (.bool (l.any fun y => decide (x = y))) ∧ w' = w := by
 have HI := Lib.hid (indexU8 A c l n hn x w hA hl)
 rw [any_idx]
 unfold idxE at HI
 generalize idx (fun y => decide (x = y)) l = z at HI ⊢
 clear hA hn hl
 go_enter Tryz.func154, Tryz.ntmps154
 go_wp2_with (go_at_call 184; refine (HI.out).mono ?_; rintro e w2 ⟨rfl, rfl⟩)
 go_ret
 exact ⟨by first | rfl | simp, rfl⟩
def sharesB (a b : Int) : Bool := decide (a = b) || (decide (a = 0) || decide (b = 0))
def meetB (a b : Slot) : Bool := decide (a.col = b.col) && (decide (a.tier = b.tier) && sharesB a.half b.half)
theorem slot_shares (a b : Int) (w : World) : Calls Tryz.prog 157 #[.int .u8 a, .int .u8 b] w fun e w' => e = .returned (.bool (sharesB a b)) ∧ w' = w := by
 by_cases h1 : a = b
 · subst h1
   have e : sharesB a a = true := by simp [sharesB]
   rw [e]
   go_enter Tryz.func157, Tryz.ntmps157
   go_wp2
   go_ret
   exact ⟨rfl, rfl⟩
 · have h1' : (a == b) = false := by simpa using h1
   by_cases h2 : a = 0
   · subst h2
     have e : sharesB 0 b = true := by simp [sharesB]
     rw [e]
     go_enter Tryz.func157, Tryz.ntmps157
     go_wp2
     go_ret
     exact ⟨rfl, rfl⟩
   · have h2' : (a == 0) = false := by simpa using h2
     by_cases h3 : b = 0
     · subst h3
       have e : sharesB a 0 = true := by simp [sharesB]
       rw [e]
       go_enter Tryz.func157, Tryz.ntmps157
       go_wp2
       go_ret
       exact ⟨rfl, rfl⟩
     · have h3' : (b == 0) = false := by simpa using h3
       have e : sharesB a b = false := by simp [sharesB, h1, h2, h3]
       rw [e]
       go_enter Tryz.func157, Tryz.ntmps157
       go_wp2
       go_ret
       exact ⟨rfl, rfl⟩
theorem slot_Meet (a b : Slot) (w : World) : Calls Tryz.prog 127 #[a.val, b.val] w fun e w' => e = .returned (.bool (meetB a b)) ∧ From w w' := by
 obtain ⟨ac, at_, ah⟩ := a
 obtain ⟨bc, bt, bh⟩ := b
 have HB : Hid (From w ((w.alloc (.cells #[.int .i64 ac, .int .i64 at_, .int .u8 ah] 40)).alloc (.cells #[.int .i64 bc, .int .i64 bt, .int .u8 bh] 40))) := ((Below.refl _ _).alloc (Nat.le_refl _) _).alloc (by simp) _
 unfold meetB
 dsimp only
 by_cases h1 : ac = bc
 · subst h1
   have h1' : (ac == ac) = true := by simp
   by_cases h2 : at_ = bt
   · subst h2
     have h2' : (at_ == at_) = true := by simp
     have HS := Lib.hid (fun w1 => slot_shares ah bh w1)
     have e : (decide (ac = ac) && (decide (at_ = at_) && sharesB ah bh)) = sharesB ah bh := by simp
     rw [e]
     generalize sharesB ah bh = s at HS
     go_enter Tryz.func127, Tryz.ntmps127
     go_wp2_with (go_at_call 157; refine (HS.out _).mono ?_; rintro e wx ⟨rfl, hx⟩; rw [hx]; clear hx wx)
     go_ret
     exact ⟨rfl, HB.out⟩
   · have h2' : (at_ == bt) = false := by simpa using h2
     have e : (decide (ac = ac) && (decide (at_ = bt) && sharesB ah bh)) = false := by simp [h2]
     rw [e]
     go_enter Tryz.func127, Tryz.ntmps127
     go_wp2
     go_ret
     exact ⟨rfl, HB.out⟩
 · have h1' : (ac == bc) = false := by simpa using h1
   have e : (decide (ac = bc) && (decide (at_ = bt) && sharesB ah bh)) = false := by simp [h1]
   rw [e]
   go_enter Tryz.func127, Tryz.ntmps127
   go_wp2
   go_ret
   exact ⟨rfl, HB.out⟩
theorem op_slot_eql (x y : Slot) {ρ : Operand → Value} {s t : Nat} {d : Option Nat} {T : TypeId} {ty : TypeId} {pos : String} {aft : Array Edge} {gd : Option (Nat × Bool)} (w : World) (hs : ρ (.tmp s) = x.val) (ht : ρ (.tmp t) = y.val) :
 (execOp ρ ⟨d, .binOp .eql 40 (.tmp s) (.tmp t) T, ty, pos, aft, gd⟩).run Tryz.prog w = .ok (.value (.bool (decide (x = y)))) w := by
 have h1 : (eqGuard .eql 40 (.tmp s) (.tmp t) x.val y.val).run Tryz.prog w = .ok () w := run_eqGuard_agg (P := Tryz.prog) (w := w) .eql 40 (.tmp s) (.tmp t) _ _ (by kernel_rfl)
 unfold execOp
 simp only [hs, ht, Sem.run_bind, h1, Result.andThen_ok, Slot.eql_, Sem.run_pure]
set_option maxRecDepth 10000 in
set_option maxHeartbeats 1000000 in
theorem indexSlot (A : Option Addr) (c : Nat) (l : List Slot) (n : Nat) (hn : n = l.length) (x : Slot) (w : World) (hA : Rd w w.heap.size 3 A (l.map Slot.cells)) (hl : l.length ≤ 1000000000000) :
 Calls Tryz.prog 185 #[.slice A n c, x.val] w fun e w' => e = .returned (.int .i64 (idxE x l)) ∧ From w w' := by
 have HN := Lib.hid hn
 have HR := Lib.hid hA
 have hl2 : n ≤ 1000000000000 := by omega
 have HM0 := Lib.hid ((Mem.nil w).alloc 40 x.cells)
 clear hA hn hl
 go_enter Tryz.func185, Tryz.ntmps185
 go_wp2
 go_loopw [5, 8] (fun _ i wr => ∃ k : Nat, k ≤ n ∧ i = .int .i64 k ∧ (∀ j, (h : j < k) → (h2 : j < l.length) → decide (x = l[j]) = false) ∧ Mem w wr [.box w.heap.size 40 x.cells]) (fun _ i _ => n - (intOf i).toNat)
 case atStart => exact ⟨0, by omega, rfl, by omega, HM0.out⟩
 case round =>
  clear HM0
  obtain ⟨k, hk, rfl, hj, hmem⟩ := hrel
  have HJ := Lib.hid hj
  have HM1 := Lib.hid hmem
  clear hj hmem
  by_cases hkn : k = n
  · have hlt : ¬ (k : Int) < (n : Int) := by omega
    have HI : Hid (idxE x l = -1) := idx_none (fun j h => HJ.out j (by have := HN.out; omega) h)
    clear hkn hk
    go_wp2
    go_ret
    exact ⟨by rw [HI.out]; rfl, HM1.out.from_⟩
  · have hlt : (k : Int) < (n : Int) := by omega
    have hkl : k < l.length := by have := HN.out; omega
    obtain ⟨b, off, rfl⟩ := Rd.addr HR.out (by rw [List.length_map]; omega)
    obtain ⟨y, hy⟩ : ∃ y, y = l[k] := ⟨_, rfl⟩
    have HL := Lib.hid (fun w1 (hb : From wr w1) => Rd.row (P := Tryz.prog) HR.out (HM1.out.from_.trans (hb.mono HM1.out.from_.size)) Slot.row (k := k) (cs := y.cells) (by rw [hy]; exact map_get2 Slot.cells l k hkl) (p := off + k * 3) rfl)
    by_cases hxy : x = y
    · have HI : Hid (idxE x l = k) := idx_found hkl (fun j h => HJ.out j h (by omega)) (by rw [← hy]; exact decide_eq_true hxy)
      have HXY : Hid (decide (x = y) = true) := decide_eq_true hxy
      clear hkn hk hy hxy
      go_upto_region 4 with fail
      refine wp_region_run 6 [.val (x.val), .val (Value.slice (some ⟨b, off, none⟩) n c), .val (Value.int .i64 ((k : Int))), .val (Value.pointer (some ⟨b, off + k * 3, none⟩)), .val (y.val), .val (Value.bool true)] (by kernel_rfl) (by kernel_rfl) (Nat.le_of_ble_eq_true (by kernel_rfl)) (by kernel_rfl) (by kernel_rfl) ?_ ?_ ?_
      · exact trivial
      · exact ⟨(fun w hb => ok_load rfl ((fun w1 hb => HM1.out.ldb Slot.row rfl (i := 0) rfl w1 hb) w hb)), (fun _ _ => ok_move rfl), (fun _ _ => ok_move rfl), (fun _ _ => ok_index (k := k) rfl rfl el162 (hlt) (rfl)), (fun w hb => ok_load rfl ((HL.out) w hb)), (fun w1 _ => (op_slot_eql x y w1 rfl rfl).trans (by rw [HXY.out])), trivial⟩
      intro w2 hb2
      simp only [contS, List.take_succ_cons, List.take_zero, List.drop_succ_cons, List.drop_zero]
      simp only [Act.put, List.setIfInBounds_toArray, List.set_cons_succ, List.set_cons_zero]
      go_wp2
      go_ret
      exact ⟨by rw [HI.out]; rfl, HM1.out.from_.trans (hb2.mono HM1.out.from_.size)⟩
    · have HJ2 : Hid (∀ j, (h : j < k + 1) → (h2 : j < l.length) → decide (x = l[j]) = false) := by
       intro j h h2
       rcases Nat.lt_or_ge j k with h3 | h3
       · exact HJ.out j h3 h2
       · obtain rfl : j = k := by omega
         rw [← hy]
         exact decide_eq_false hxy
      have HXY : Hid (decide (x = y) = false) := decide_eq_false hxy
      clear HJ hy hxy
      go_upto_region 4 with fail
      refine wp_region_run 6 [.val (x.val), .val (Value.slice (some ⟨b, off, none⟩) n c), .val (Value.int .i64 ((k : Int))), .val (Value.pointer (some ⟨b, off + k * 3, none⟩)), .val (y.val), .val (Value.bool false)] (by kernel_rfl) (by kernel_rfl) (Nat.le_of_ble_eq_true (by kernel_rfl)) (by kernel_rfl) (by kernel_rfl) ?_ ?_ ?_
      · exact trivial
      · exact ⟨(fun w hb => ok_load rfl ((fun w1 hb => HM1.out.ldb Slot.row rfl (i := 0) rfl w1 hb) w hb)), (fun _ _ => ok_move rfl), (fun _ _ => ok_move rfl), (fun _ _ => ok_index (k := k) rfl rfl el162 (hlt) (rfl)), (fun w hb => ok_load rfl ((HL.out) w hb)), (fun w1 _ => (op_slot_eql x y w1 rfl rfl).trans (by rw [HXY.out])), trivial⟩
      intro w2 hb2
      simp only [contS, List.take_succ_cons, List.take_zero, List.drop_succ_cons, List.drop_zero]
      simp only [Act.put, List.setIfInBounds_toArray, List.set_cons_succ, List.set_cons_zero]
      go_wp2
      go_roundw
      case rel => exact ⟨k + 1, by omega, by go_num, HJ2.out, HM1.out.call hb2⟩
      case measure => simp [intOf]; omega
theorem containsSlot (A : Option Addr) (c : Nat) (l : List Slot) (n : Nat) (hn : n = l.length) (x : Slot) (w : World) (hA : Rd w w.heap.size 3 A (l.map Slot.cells)) (hl : l.length ≤ 1000000000000) :
 Calls Tryz.prog 156 #[.slice A n c, x.val] w fun e w' => e = .returned (.bool (l.any fun y => decide (x = y))) ∧ From w w' := by
 have HI := Lib.hid (fun w1 (hb : From w w1) => indexSlot A c l n hn x w1 (hA.from hb) hl)
 have HB : Hid (From w (w.alloc (.cells x.cells.toArray 40))) := (Below.refl _ _).alloc (Nat.le_refl _) _
 rw [any_idx]
 unfold idxE at HI
 generalize idx (fun y => decide (x = y)) l = z at HI ⊢
 clear hA hn hl
 go_enter Tryz.func156, Tryz.ntmps156
 go_wp2_with (go_at_call 185; go_loud (refine (HI.out _ HB.out).mono ?_); rintro e w2 ⟨rfl, hb⟩)
 go_ret
 exact ⟨by first | rfl | simp, HB.out.trans (hb.mono HB.out.size)⟩
def belowB (x : Slot) (l : List Slot) (h : Int) : Bool := l.any fun y => decide ((⟨x.col, x.tier - 1, h⟩ : Slot) = y)
def heldB (x : Slot) (l : List Slot) : Bool := if x.tier ≤ 0 then true else belowB x l x.half || (decide (x.half = 0) && (belowB x l 1 && belowB x l 2))
theorem held1 (h : Int) (gl gx : Nat) (A : Option Addr) (c n : Nat) (l : List Slot) (hn : n = l.length) (x : Slot) (w0 w : World) (hA : Rd w w.heap.size 3 A (l.map Slot.cells)) (hl : l.length ≤ 1000000000000) (hm : Mem w0 w [.box gl 162 [.slice A n c], .box gx 40 x.cells]) (ht : 0 < x.tier) (ht2 : x.tier ≤ 1000000) :
 Calls Tryz.prog 155 #[.int .u8 h, .pointer (some ⟨gl, 0, none⟩), .pointer (some ⟨gx, 0, none⟩)] w fun e w' => e = .returned (.bool (belowB x l h)) ∧ From w w' := by
 have HI := Lib.hid (fun w1 (hb : From w w1) => containsSlot A c l n hn ⟨x.col, x.tier - 1, h⟩ w1 (hA.from hb) hl)
 have HM := Lib.hid hm
 have hw1 : IntKind.i64.wrap (x.tier - 1) = x.tier - 1 := wrap_i64 (by omega) (by omega)
 clear hA hm hn hl ht ht2
 unfold belowB
 obtain ⟨xc, xt, xh⟩ := x
 dsimp only at HI hw1 ⊢
 go_enter Tryz.func155, Tryz.ntmps155
 go_wp2_with (first
  | ((with_reducible refine g_ld 162 ?_); refine wpList_ld rfl _ _ rfl _ rfl _ (HM.out.ldc (by kernel_rfl) (i := 0) rfl rfl _ (Below.refl _ _)) ?_)
  | ((with_reducible refine g_ld 3 ?_); refine wpList_ld rfl _ _ rfl _ rfl _ (HM.out.ldc ct3 (i := 1) rfl rfl _ (Below.refl _ _)) ?_)
  | (go_at_call 156; go_loud (refine (HI.out _ (Below.refl _ _)).mono ?_); rintro e w2 ⟨rfl, hb⟩))
 go_ret
 exact ⟨rfl, hb⟩
set_option maxRecDepth 10000 in
set_option maxHeartbeats 1000000 in
theorem slot_Held (x : Slot) (A : Option Addr) (c n : Nat) (l : List Slot) (hn : n = l.length) (w : World) (hA : Rd w w.heap.size 3 A (l.map Slot.cells)) (hl : l.length ≤ 1000000000000) (ht2 : x.tier ≤ 1000000) :
 Calls Tryz.prog 126 #[x.val, .slice A n c] w fun e w' => e = .returned (.bool (heldB x l)) ∧ From w w' := by
 have HM0 := Lib.hid ((Mem.nil w).alloc2 40 x.cells 162 [.slice A n c])
 by_cases ht : x.tier ≤ 0
 · have HV : Hid (heldB x l = true) := if_pos ht
   clear hA hn hl
   obtain ⟨xc, xt, xh⟩ := x
   dsimp only at ht
   go_enter Tryz.func126, Tryz.ntmps126
   go_wp2_with ((with_reducible refine g_ld 3 ?_); refine wpList_ld rfl _ _ rfl _ rfl _ (HM0.out.ldc ct3 (i := 1) rfl rfl _ (Below.refl _ _)) ?_)
   go_ret
   exact ⟨by rw [HV.out]; rfl, HM0.out.from_⟩
 · have hh : ∀ h : Int, Hid (∀ w1, Mem w w1 [.box (w.heap.size + 1) 162 [.slice A n c], .box w.heap.size 40 x.cells] → Calls Tryz.prog 155 #[.int .u8 h, .pointer (some ⟨w.heap.size + 1, 0, none⟩), .pointer (some ⟨w.heap.size, 0, none⟩)] w1 fun e w' => e = .returned (.bool (belowB x l h)) ∧ From w1 w') :=
    fun h w1 hm => held1 h _ _ A c n l hn x w w1 (hA.from hm.from_) hl hm (by omega) ht2
   have H0 := hh x.half
   have H1 := hh 1
   have H2 := hh 2
   have HE : Hid (heldB x l = (belowB x l x.half || (decide (x.half = 0) && (belowB x l 1 && belowB x l 2)))) := if_neg ht
   clear hh hA hn hl ht2
   obtain ⟨b0, hb0⟩ : ∃ b, b = belowB x l x.half := ⟨_, rfl⟩
   obtain ⟨b1, hb1⟩ : ∃ b, b = belowB x l 1 := ⟨_, rfl⟩
   obtain ⟨b2, hb2⟩ : ∃ b, b = belowB x l 2 := ⟨_, rfl⟩
   have HB0 : Hid (belowB x l x.half = b0) := hb0.symm
   have HB1 : Hid (belowB x l 1 = b1) := hb1.symm
   have HB2 : Hid (belowB x l 2 = b2) := hb2.symm
   have HE2 : Hid (heldB x l = (b0 || (decide (x.half = 0) && (b1 && b2)))) := by unfold Hid; rw [HE.out, ← hb0, ← hb1, ← hb2]
   clear hb0 hb1 hb2 HE
   obtain ⟨xc, xt, xh⟩ := x
   dsimp only at ht HE2 H0 HB0
   cases b0 with
   | true =>
    have HV : Hid (heldB ⟨xc, xt, xh⟩ l = true) := by unfold Hid; rw [HE2.out]; rfl
    go_enter Tryz.func126, Tryz.ntmps126
    go_wp2_with (first
     | ((with_reducible refine g_ld 3 ?_); refine wpList_ld rfl _ _ rfl _ rfl _ (HM0.out.ldc ct3 (i := 1) rfl rfl _ (Below.refl _ _)) ?_)
     | (go_at_call 155; refine (H0.out _ HM0.out).mono ?_; rintro e w2 ⟨rfl, hb⟩; rw [HB0.out]; have HM1 := Lib.hid (HM0.out.call hb); clear hb H0 HB0)
     | (go_at_call 155; refine (H1.out _ HM1.out).mono ?_; rintro e w3 ⟨rfl, hb⟩; rw [HB1.out]; have HM2 := Lib.hid (HM1.out.call hb); clear hb H1 HB1)
     | (go_at_call 155; refine (H2.out _ HM2.out).mono ?_; rintro e w4 ⟨rfl, hb⟩; rw [HB2.out]; have HM3 := Lib.hid (HM2.out.call hb); clear hb H2 HB2)
     | ((with_reducible refine g_ld 5 ?_); refine wpList_ldw rfl _ _ rfl _ rfl _ (HM1.out.ldc ct5 (i := 1) rfl rfl _ (Below.refl _ _)) ?_)
     | ((with_reducible refine g_ld 5 ?_); refine wpList_ld rfl _ _ rfl _ rfl _ (HM0.out.ldc ct5 (i := 1) rfl rfl _ (Below.refl _ _)) ?_))
    go_ret
    exact ⟨by rw [HV.out]; rfl, HM1.out.from_⟩
   | false =>
    by_cases hx : xh = 0
    · subst hx
      have hx' : ((0 : Int) == 0) = true := rfl
      cases b1 with
      | false =>
       have HV : Hid (heldB ⟨xc, xt, 0⟩ l = false) := by unfold Hid; rw [HE2.out]; rfl
       go_enter Tryz.func126, Tryz.ntmps126
       go_wp2_with (first
        | ((with_reducible refine g_ld 3 ?_); refine wpList_ld rfl _ _ rfl _ rfl _ (HM0.out.ldc ct3 (i := 1) rfl rfl _ (Below.refl _ _)) ?_)
        | (go_at_call 155; refine (H0.out _ HM0.out).mono ?_; rintro e w2 ⟨rfl, hb⟩; rw [HB0.out]; have HM1 := Lib.hid (HM0.out.call hb); clear hb H0 HB0)
        | (go_at_call 155; refine (H1.out _ HM1.out).mono ?_; rintro e w3 ⟨rfl, hb⟩; rw [HB1.out]; have HM2 := Lib.hid (HM1.out.call hb); clear hb H1 HB1)
        | (go_at_call 155; refine (H2.out _ HM2.out).mono ?_; rintro e w4 ⟨rfl, hb⟩; rw [HB2.out]; have HM3 := Lib.hid (HM2.out.call hb); clear hb H2 HB2)
        | ((with_reducible refine g_ld 5 ?_); refine wpList_ldw rfl _ _ rfl _ rfl _ (HM1.out.ldc ct5 (i := 1) rfl rfl _ (Below.refl _ _)) ?_)
        | ((with_reducible refine g_ld 5 ?_); refine wpList_ld rfl _ _ rfl _ rfl _ (HM0.out.ldc ct5 (i := 1) rfl rfl _ (Below.refl _ _)) ?_))
       go_ret
       exact ⟨by rw [HV.out]; rfl, HM2.out.from_⟩
      | true =>
       have HV : Hid (heldB ⟨xc, xt, 0⟩ l = b2) := by unfold Hid; rw [HE2.out]; simp
       go_enter Tryz.func126, Tryz.ntmps126
       go_wp2_with (first
        | ((with_reducible refine g_ld 3 ?_); refine wpList_ld rfl _ _ rfl _ rfl _ (HM0.out.ldc ct3 (i := 1) rfl rfl _ (Below.refl _ _)) ?_)
        | (go_at_call 155; refine (H0.out _ HM0.out).mono ?_; rintro e w2 ⟨rfl, hb⟩; rw [HB0.out]; have HM1 := Lib.hid (HM0.out.call hb); clear hb H0 HB0)
        | (go_at_call 155; refine (H1.out _ HM1.out).mono ?_; rintro e w3 ⟨rfl, hb⟩; rw [HB1.out]; have HM2 := Lib.hid (HM1.out.call hb); clear hb H1 HB1)
        | (go_at_call 155; refine (H2.out _ HM2.out).mono ?_; rintro e w4 ⟨rfl, hb⟩; rw [HB2.out]; have HM3 := Lib.hid (HM2.out.call hb); clear hb H2 HB2)
        | ((with_reducible refine g_ld 5 ?_); refine wpList_ldw rfl _ _ rfl _ rfl _ (HM1.out.ldc ct5 (i := 1) rfl rfl _ (Below.refl _ _)) ?_)
        | ((with_reducible refine g_ld 5 ?_); refine wpList_ld rfl _ _ rfl _ rfl _ (HM0.out.ldc ct5 (i := 1) rfl rfl _ (Below.refl _ _)) ?_))
       go_ret
       exact ⟨by rw [HV.out]; rfl, HM3.out.from_⟩
    · have hx' : (xh == 0) = false := by simpa using hx
      have HV : Hid (heldB ⟨xc, xt, xh⟩ l = false) := by unfold Hid; rw [HE2.out]; simp [hx]
      go_enter Tryz.func126, Tryz.ntmps126
      go_wp2_with (first
       | ((with_reducible refine g_ld 3 ?_); refine wpList_ld rfl _ _ rfl _ rfl _ (HM0.out.ldc ct3 (i := 1) rfl rfl _ (Below.refl _ _)) ?_)
       | (go_at_call 155; refine (H0.out _ HM0.out).mono ?_; rintro e w2 ⟨rfl, hb⟩; rw [HB0.out]; have HM1 := Lib.hid (HM0.out.call hb); clear hb H0 HB0)
       | (go_at_call 155; refine (H1.out _ HM1.out).mono ?_; rintro e w3 ⟨rfl, hb⟩; rw [HB1.out]; have HM2 := Lib.hid (HM1.out.call hb); clear hb H1 HB1)
       | (go_at_call 155; refine (H2.out _ HM2.out).mono ?_; rintro e w4 ⟨rfl, hb⟩; rw [HB2.out]; have HM3 := Lib.hid (HM2.out.call hb); clear hb H2 HB2)
       | ((with_reducible refine g_ld 5 ?_); refine wpList_ldw rfl _ _ rfl _ rfl _ (HM1.out.ldc ct5 (i := 1) rfl rfl _ (Below.refl _ _)) ?_)
       | ((with_reducible refine g_ld 5 ?_); refine wpList_ld rfl _ _ rfl _ rfl _ (HM0.out.ldc ct5 (i := 1) rfl rfl _ (Below.refl _ _)) ?_))
      go_ret
      exact ⟨by rw [HV.out]; rfl, HM1.out.from_⟩
end Go.Proofs.YtfdjcakgolenbaaGreat
