/-
  The abstract run over this program.
-/
import Derived.Test.YtmbfcdnnlpcgfaaMs29
set_option linter.unusedVariables false
set_option linter.unusedSimpArgs false
namespace Go.Proofs.Ytmbfcdnnlpcgfaa
open Go.RowKit
def AllOk : List Con → Prop
 | [] => True
 | c :: cs => ConOk Try.prog c ∧ AllOk cs
theorem AllOk.mem : ∀ {cs : List Con}, AllOk cs → ∀ c ∈ cs, ConOk Try.prog c
 | [], _, c, hc => by cases hc
 | d :: cs, h, c, hc => by
  rcases List.mem_cons.1 hc with rfl | hc
  · exact h.1
  · exact AllOk.mem h.2 c hc
def FonsOk : List Fon → Prop
 | [] => True
 | c :: cs => FonOk Try.prog c ∧ FonsOk cs
theorem FonsOk.mem : ∀ {cs : List Fon}, FonsOk cs → ∀ c ∈ cs, FonOk Try.prog c
 | [], _, c, hc => by cases hc
 | d :: cs, h, c, hc => by
  rcases List.mem_cons.1 hc with rfl | hc
  · exact h.1
  · exact FonsOk.mem h.2 c hc
def cxf (cs : List Con) (fs : List Fon) (fz : List (Nat × List Nat)) (fx : Bool) : Cx := ⟨tyTab, cs, tcTab, fs, fz, fx, [], [], [], []⟩
def cxz (cs : List Con) (fs : List Fon) (fz : List (Nat × List Nat)) : Cx := cxf cs fs fz false
def cx (cs : List Con) (fs : List Fon) : Cx := cxz cs fs []
def cxk (cs : List Con) (fs : List Fon) (fz kp : List (Nat × List Nat)) (sc : List (Nat × Sch)) (ul : List Nat) : Cx := ⟨tyTab, cs, tcTab, fs, fz, false, kp, sc, ul, []⟩
structure Opt where
 fz : List (Nat × List Nat) := []
 kp : List (Nat × List Nat) := []
 sc : List (Nat × Sch) := []
 ul : List Nat := []
 jn : List (Nat × List Nat) := []
 tc : List (Nat × Tc) := []
def cxo (o : Opt) (cs : List Con) (fs : List Fon) (fx : Bool) : Cx := ⟨tyTab, cs, o.tc ++ tcTab, fs, o.fz, fx, o.kp, o.sc, o.ul, o.jn⟩
theorem fnOkO (o : Opt) {c : Con} {fn : Func} (cs : List Con) (hcs : AllOk cs) (fs : List Fon) (hfs : FonsOk fs) (hf : Try.prog.funcs[c.f]? = some fn) (hb : (fn.body.isNone || fn.name == "runtime.NumGoroutine" || !codeOk (efs fs) o.sc fn.ntmps (bodyOf fn)) = false)
 (h : ∀ avs res, c.go avs = some res → res.pre () → ∃ Ls, (fnF (cxo o cs fs false) Ls fn avs res.av).P) : ConOk Try.prog c := by
 simp only [Bool.or_eq_false_iff, Bool.not_eq_false'] at hb
 exact conOk_of (C := cxo o cs fs false) ty_ok ⟨hcs.mem, hfs.mem⟩ (by kernel_rfl) hf hb.1.1 hb.1.2 hb.2 h
theorem fonOkO (o : Opt) {c : Fon} {fn : Func} (cs : List Con) (hcs : AllOk cs) (fs : List Fon) (hfs : FonsOk fs) (hf : Try.prog.funcs[c.f]? = some fn) (hb : (fn.body.isNone || fn.name == "runtime.NumGoroutine" || !codeOk (efs fs) o.sc fn.ntmps (bodyOf fn)) = false)
 (h : ∀ avs es res, c.go avs es = some res → res.pre () → ∃ Ls, (fnG (cxo o cs fs c.fix) Ls fn avs es c.n res.av res.es).P) : FonOk Try.prog c := by
 simp only [Bool.or_eq_false_iff, Bool.not_eq_false'] at hb
 exact fonOk_of (C := cxo o cs fs c.fix) rfl ty_ok ⟨hcs.mem, hfs.mem⟩ (by kernel_rfl) hf hb.1.1 hb.1.2 hb.2 h
theorem fnOkK (fz kp : List (Nat × List Nat)) (sc : List (Nat × Sch)) {c : Con} {fn : Func} (cs : List Con) (hcs : AllOk cs) (fs : List Fon) (hfs : FonsOk fs) (hf : Try.prog.funcs[c.f]? = some fn) (hb : (fn.body.isNone || fn.name == "runtime.NumGoroutine" || !codeOk (efs fs) sc fn.ntmps (bodyOf fn)) = false)
 (h : ∀ avs res, c.go avs = some res → res.pre () → ∃ Ls, (fnF (cxk cs fs fz kp sc []) Ls fn avs res.av).P) : ConOk Try.prog c := by
 simp only [Bool.or_eq_false_iff, Bool.not_eq_false'] at hb
 exact conOk_of (C := cxk cs fs fz kp sc []) ty_ok ⟨hcs.mem, hfs.mem⟩ (by kernel_rfl) hf hb.1.1 hb.1.2 hb.2 h
theorem fnOkZ (fz : List (Nat × List Nat)) {c : Con} {fn : Func} (cs : List Con) (hcs : AllOk cs) (fs : List Fon) (hfs : FonsOk fs) (hf : Try.prog.funcs[c.f]? = some fn) (hb : (fn.body.isNone || fn.name == "runtime.NumGoroutine" || !codeOk (efs fs) [] fn.ntmps (bodyOf fn)) = false)
 (h : ∀ avs res, c.go avs = some res → res.pre () → ∃ Ls, (fnF (cxz cs fs fz) Ls fn avs res.av).P) : ConOk Try.prog c := by
 simp only [Bool.or_eq_false_iff, Bool.not_eq_false'] at hb
 exact conOk_of (C := cxz cs fs fz) ty_ok ⟨hcs.mem, hfs.mem⟩ (by kernel_rfl) hf hb.1.1 hb.1.2 hb.2 h
theorem fnOkF {c : Con} {fn : Func} (cs : List Con) (hcs : AllOk cs) (fs : List Fon) (hfs : FonsOk fs) (hf : Try.prog.funcs[c.f]? = some fn) (hb : (fn.body.isNone || fn.name == "runtime.NumGoroutine" || !codeOk (efs fs) [] fn.ntmps (bodyOf fn)) = false)
 (h : ∀ avs res, c.go avs = some res → res.pre () → ∃ Ls, (fnF (cx cs fs) Ls fn avs res.av).P) : ConOk Try.prog c := fnOkZ [] cs hcs fs hfs hf hb h
theorem fnOk {c : Con} {fn : Func} (cs : List Con) (hcs : AllOk cs) (hf : Try.prog.funcs[c.f]? = some fn) (hb : (fn.body.isNone || fn.name == "runtime.NumGoroutine" || !codeOk [] [] fn.ntmps (bodyOf fn)) = false)
 (h : ∀ avs res, c.go avs = some res → res.pre () → ∃ Ls, (fnF (cx cs []) Ls fn avs res.av).P) : ConOk Try.prog c := fnOkF cs hcs [] trivial hf hb h
theorem fonOkZ (fz : List (Nat × List Nat)) {c : Fon} {fn : Func} (cs : List Con) (hcs : AllOk cs) (fs : List Fon) (hfs : FonsOk fs) (hf : Try.prog.funcs[c.f]? = some fn) (hb : (fn.body.isNone || fn.name == "runtime.NumGoroutine" || !codeOk (efs fs) [] fn.ntmps (bodyOf fn)) = false)
 (h : ∀ avs es res, c.go avs es = some res → res.pre () → ∃ Ls, (fnG (cxf cs fs fz c.fix) Ls fn avs es c.n res.av res.es).P) : FonOk Try.prog c := by
 simp only [Bool.or_eq_false_iff, Bool.not_eq_false'] at hb
 exact fonOk_of (C := cxf cs fs fz c.fix) rfl ty_ok ⟨hcs.mem, hfs.mem⟩ (by kernel_rfl) hf hb.1.1 hb.1.2 hb.2 h
theorem fonOk {c : Fon} {fn : Func} (cs : List Con) (hcs : AllOk cs) (fs : List Fon) (hfs : FonsOk fs) (hf : Try.prog.funcs[c.f]? = some fn) (hb : (fn.body.isNone || fn.name == "runtime.NumGoroutine" || !codeOk (efs fs) [] fn.ntmps (bodyOf fn)) = false)
 (h : ∀ avs es res, c.go avs es = some res → res.pre () → ∃ Ls, (fnG (cxf cs fs [] c.fix) Ls fn avs es c.n res.av res.es).P) : FonOk Try.prog c := fonOkZ [] cs hcs fs hfs hf hb h
theorem nameIt {α : Type} {G : Prop} (e : α) (h : ∀ x, e = x → G) : G := h e rfl
theorem P_vc (l : List VC) (A : Fm) : (Fm.vc l A).P = (allVC l ∧ A.P) := rfl
theorem P_br (c : Unit → Bool) (A B : Fm) : (Fm.br c A B).P = ((c () = true → A.P) ∧ (c () = false → B.P)) := rfl
theorem P_fin (l : List VC) : (Fm.fin l).P = allVC l := rfl
theorem P_and (A B : Fm) : (Fm.and A B).P = (A.P ∧ B.P) := rfl
theorem T_self (F : Tc → Type) {t : Tc} (h : t = t) (x : F t) : toT F h x = x := rfl
theorem castK (k : Nat) : (NatCast.natCast k : Int) = (k : Int) := rfl
theorem succK (k : Nat) : Nat.succ k = k + 1 := rfl
theorem V_nil : allVC [] = True := rfl
theorem V_one (c : VC) : allVC [c] = c () := rfl
theorem V_cons (c d : VC) (l : List VC) : allVC (c :: d :: l) = (c () ∧ allVC (d :: l)) := rfl
theorem eta {α : Type} (f : Unit → α) : ∃ x, f = fun _ => x := ⟨f (), rfl⟩
theorem predK (k : Nat) : ((k : Int) - 1).toNat = k - 1 := by omega
def AV.valOf : AV → Value
 | .int k n => .int k (n ())
 | .lit k n => .int k n
 | .bool b => .bool (b ())
 | .blit b => .bool b
 | .str s => .string (s ())
 | _ => undef
def AV.flat : AV → Bool
 | .int _ _ => true
 | .lit _ _ => true
 | .bool _ => true
 | .blit _ => true
 | .str _ => true
 | _ => false
section
variable {w w' : World} {ρ ρ' : Nat → Option Rl} {base base' : Nat} {ro ro' : Nat → Prop} {v : Value}
theorem AVR.flat_ {x : AV} (hx : x.flat = true) (h : AVR w ρ base ro x v) : v = x.valOf := by
 cases x <;> simp only [AV.flat, Bool.false_eq_true] at hx
 · exact h.int_
 · exact h.lit_
 · exact h.bool_
 · exact h.blit_
 · exact h.str_
theorem avr_flat {x : AV} (hx : x.flat = true) : AVR w ρ base ro x x.valOf := by
 cases x <;> simp only [AV.flat, Bool.false_eq_true] at hx
 · exact .int _ _
 · exact .lit _ _
 · exact .bool _
 · exact .blit _
 · exact .str _
theorem Each.flat_ : ∀ {l : List AV} {vs : List Value}, l.all AV.flat = true → Each w ρ base ro l vs → vs = l.map AV.valOf
 | [], vs, _, h => h.none
 | x :: l, vs, hl, h => by
  simp only [List.all_cons, Bool.and_eq_true] at hl
  cases vs with
  | nil => have := h.1; simp at this
  | cons v vs =>
   have h1 := h.2 0 x v rfl rfl
   have h2 : Each w ρ base ro l vs := ⟨by have := h.1; simpa using this, fun j y u hy hu => h.2 (j + 1) y u (by simpa using hy) (by simpa using hu)⟩
   rw [h1.flat_ hl.1, Each.flat_ hl.2 h2]
   rfl
theorem each_flat : ∀ {l : List AV}, l.all AV.flat = true → Each w ρ base ro l (l.map AV.valOf)
 | [], _ => .nil
 | x :: l, hl => by
  simp only [List.all_cons, Bool.and_eq_true] at hl
  exact .cons (avr_flat hl.1) (each_flat hl.2)
theorem AVR.aggF {l : List AV} (hl : l.all AV.flat = true) (h : AVR w ρ base ro (.agg l) v) : v = .agg (l.map AV.valOf).toArray := by
 obtain ⟨vs, rfl, hE⟩ := h.agg_
 rw [hE.flat_ hl]
theorem avr_aggF {l : List AV} (hl : l.all AV.flat = true) : AVR w ρ base ro (.agg l) (.agg (l.map AV.valOf).toArray) := by
 have hE : Each w ρ base ro l (l.map AV.valOf) := each_flat hl
 exact .agg _ _ hE.1 hE.2
theorem avr_tup2 {x y : AV} {u v : Value} (hx : AVR w ρ base ro x u) (hy : AVR w ρ base ro y v) : AVR w ρ base ro (.tup [x, y]) (.tuple #[u, v]) := by
 have hE : Each w ρ base ro [x, y] [u, v] := .cons hx (.cons hy .nil)
 exact .tup _ _ hE.1 hE.2
theorem AVR.slF {fr : Bool} {t : Tc} {l : Unit → List t.el} (f : t.el → List Value) (ht : ∀ x : t.el, (cellsAV fr t fun _ => x).all AV.flat = true) (hf : ∀ x : t.el, (cellsAV fr t fun _ => x).map AV.valOf = f x) (h : AVR w ρ base ro (.sl fr t l) v) : ∃ A c, v = .slice A (l ()).length c ∧ (l ()).length ≤ c ∧ Rd w w.heap.size t.size A ((l ()).map f) := by
 obtain ⟨A, c, css, h1, h2, h3, _, _, h6, rfl⟩ := h.sl_
 refine ⟨A, c, rfl, by omega, ?_⟩
 have : css = (l ()).map f := by
  apply List.ext_getElem?
  intro k
  rw [List.getElem?_map]
  cases hk : css[k]? with
  | none =>
   have : (l ())[k]? = none := by rw [List.getElem?_eq_none_iff] at hk ⊢; omega
   rw [this]
   rfl
  | some cs =>
   have hlt := (List.getElem?_eq_some_iff.1 hk).1
   obtain ⟨_, _, _, _, hl, _⟩ := h3 k cs hk
   have hE : Each w ρ base ro (cellsAV fr t fun _ => (l ()).getD k t.dflt) cs := row_each hl fun j y u hy hu => h6 k cs j y u hk hy hu
   rw [hE.flat_ (ht _), hf, List.getElem?_eq_getElem (by omega), Option.map_some, List.getD_eq_getElem?_getD, List.getElem?_eq_getElem (by omega)]
   rfl
 rwa [this] at h3
end
theorem oldOk {c : Con} {fn : Func} (hf : Try.prog.funcs[c.f]? = some fn) (hb : (fn.body.isNone || fn.name == "runtime.NumGoroutine") = false)
 (h : ∀ avs res, c.go avs = some res → ∀ (w : World) (ra : Nat → Prop) (vals : List Value), Each w (fun _ => none) 0 ra avs vals → res.pre () → Calls Try.prog c.f vals.toArray w fun e w' => ∃ v, e = .returned v ∧ From w w' ∧ AVR w' (fun _ => none) w.heap.size (fun b => ra b ∨ w.heap.size ≤ b) res.av v) : ConOk Try.prog c := by
 simp only [Bool.or_eq_false_iff] at hb
 exact ⟨fun args w => callFunc_ok hf hb.1 hb.2 args w, fun avs res hgo w ra vals _ hE hpre => h avs res hgo w ra vals hE hpre⟩
def boxSg : List Sg := [.int .i64, .str, .int .u8, .bool, .int .i64, .int .i64, .int .i64, .int .u8, .bool]
def midSg : List Sg := boxSg ++ [.int .i64, .int .i64, .int .i64]
def stoSg : List Sg := [.int .i64, .int .i64, .int .i64, .int .u8]
def sloSg : List Sg := [.int .i64, .int .i64, .int .u8]
def ldSg : List Sg := [.int .i64, .int .i64, .int .i64, .int .i64]
def colSg : List Sg := [.int .i64, .int .i64, .bool, .int .i64, .int .i64, .int .i64, .int .i64, .int .i64, .sl .int, .int .i64, .int .i64, .int .i64]
def shipSg : List Sg := [.sl .col, .sl .cov, .int .i64, .int .i64, .int .i64, .int .i64, .sl .hrow, .sl .frm, .sl .tnk, .int .i64, .int .i64, .int .i64, .int .i64]
structure Shp where
 cols : List Col
 covs : List Cov
 lk : Int
 lx : Int
 ly : Int
 lz : Int
 rows : List Hrow
 frms : List Frm
 tnks : List Tnk
 m1 : Int
 m2 : Int
 m3 : Int
 m4 : Int
def boxL (b : Unit → Box) : List AV := [.int .i64 fun _ => (b ()).id, .str fun _ => (b ()).num, .int .u8 fun _ => (b ()).size, .bool fun _ => (b ()).high, .int .i64 fun _ => (b ()).kilos, .int .i64 fun _ => (b ()).load, .int .i64 fun _ => (b ()).dis, .int .u8 fun _ => (b ()).cls, .bool fun _ => (b ()).reefer]
def midL (b : Unit → Mid) : List AV := (boxL fun _ => (b ()).box) ++ [.int .i64 fun _ => (b ()).x, .int .i64 fun _ => (b ()).y, .int .i64 fun _ => (b ()).h]
def ldL (b : Unit → Ld) : List AV := [.int .i64 fun _ => (b ()).kilos, .int .i64 fun _ => (b ()).x, .int .i64 fun _ => (b ()).y, .int .i64 fun _ => (b ()).z]
def stoL (b : Unit → Stowed) : List AV := [.int .i64 fun _ => (b ()).box, .int .i64 fun _ => (b ()).col, .int .i64 fun _ => (b ()).tier, .int .u8 fun _ => (b ()).half]
def sloL (b : Unit → Slot) : List AV := [.int .i64 fun _ => (b ()).col, .int .i64 fun _ => (b ()).tier, .int .u8 fun _ => (b ()).half]
def colL (b : Unit → Col) : List AV := [.int .i64 fun _ => (b ()).bay, .int .i64 fun _ => (b ()).row, .bool fun _ => (b ()).deck, .int .i64 fun _ => (b ()).tiers, .int .i64 fun _ => (b ()).height, .int .i64 fun _ => (b ()).k20, .int .i64 fun _ => (b ()).k40, .int .i64 fun _ => (b ()).lash, .sl false .int fun _ => (b ()).plugs, .int .i64 fun _ => (b ()).x, .int .i64 fun _ => (b ()).y, .int .i64 fun _ => (b ()).z]
def shipL (b : Unit → Shp) : List AV := [.sl false .col fun _ => (b ()).cols, .sl false .cov fun _ => (b ()).covs, .int .i64 fun _ => (b ()).lk, .int .i64 fun _ => (b ()).lx, .int .i64 fun _ => (b ()).ly, .int .i64 fun _ => (b ()).lz, .sl false .hrow fun _ => (b ()).rows, .sl false .frm fun _ => (b ()).frms, .sl false .tnk fun _ => (b ()).tnks, .int .i64 fun _ => (b ()).m1, .int .i64 fun _ => (b ()).m2, .int .i64 fun _ => (b ()).m3, .int .i64 fun _ => (b ()).m4]
def AV.toI : AV → Option (Unit → Int)
 | .int .i64 n => some n
 | _ => none
def AV.toU8 : AV → Option (Unit → Int)
 | .int .u8 n => some n
 | _ => none
def AV.toB : AV → Option (Unit → Bool)
 | .bool n => some n
 | _ => none
def AV.toS : AV → Option (Unit → ByteArray)
 | .str n => some n
 | _ => none
def AV.toCols : AV → Option (Unit → List Col)
 | .sl false .col l => some l
 | _ => none
def AV.toCovs : AV → Option (Unit → List Cov)
 | .sl false .cov l => some l
 | _ => none
def AV.toInts : AV → Option (Unit → List Int)
 | .sl false .int l => some l
 | _ => none
def AV.toBoxes : AV → Option (Unit → List Box)
 | .sl false .box l => some l
 | _ => none
def AV.toStos : AV → Option (Unit → List Stowed)
 | .sl false .stowed l => some l
 | _ => none
def AV.toSlos : AV → Option (Unit → List Slot)
 | .sl false .slot l => some l
 | _ => none
def AV.toLds : AV → Option (Unit → List Ld)
 | .sl false .ld l => some l
 | _ => none
def AV.toU8s : AV → Option (Unit → List Int)
 | .sl false .u8 l => some l
 | _ => none
def AV.toSpns : AV → Option (Unit → List Spn)
 | .sl false .spn l => some l
 | _ => none
def AV.toMids : AV → Option (Unit → List Mid)
 | .sl false .mid l => some l
 | _ => none
def AV.toHrows : AV → Option (Unit → List Hrow)
 | .sl false .hrow l => some l
 | _ => none
def AV.toFrms : AV → Option (Unit → List Frm)
 | .sl false .frm l => some l
 | _ => none
def AV.toTnks : AV → Option (Unit → List Tnk)
 | .sl false .tnk l => some l
 | _ => none
def AV.toWgts : AV → Option (Unit → List Wgt)
 | .sl false .wgt l => some l
 | _ => none
def AV.toPI : AV → Option (Unit → Int)
 | .pto [.int .i64 n] 0 => some n
 | _ => none
def AV.toFPI (f : FuncId) : AV → Option (Unit → Int)
 | .fn g [.pto [.int .i64 n] 0] => if g = f then some n else none
 | _ => none
theorem AV.toI_ {x : AV} {n : Unit → Int} (h : x.toI = some n) : x = .int .i64 n := by
 unfold AV.toI at h
 split at h <;> cases h
 rfl
theorem AV.toU8_ {x : AV} {n : Unit → Int} (h : x.toU8 = some n) : x = .int .u8 n := by
 unfold AV.toU8 at h
 split at h <;> cases h
 rfl
theorem AV.toB_ {x : AV} {n : Unit → Bool} (h : x.toB = some n) : x = .bool n := by
 unfold AV.toB at h
 split at h <;> cases h
 rfl
theorem AV.toS_ {x : AV} {n : Unit → ByteArray} (h : x.toS = some n) : x = .str n := by
 unfold AV.toS at h
 split at h <;> cases h
 rfl
theorem AV.toCols_ {x : AV} {n : Unit → List Col} (h : x.toCols = some n) : x = .sl false .col n := by
 unfold AV.toCols at h
 split at h <;> cases h
 rfl
theorem AV.toCovs_ {x : AV} {n : Unit → List Cov} (h : x.toCovs = some n) : x = .sl false .cov n := by
 unfold AV.toCovs at h
 split at h <;> cases h
 rfl
theorem AV.toInts_ {x : AV} {n : Unit → List Int} (h : x.toInts = some n) : x = .sl false .int n := by
 unfold AV.toInts at h
 split at h <;> cases h
 rfl
theorem AV.toBoxes_ {x : AV} {n : Unit → List Box} (h : x.toBoxes = some n) : x = .sl false .box n := by
 unfold AV.toBoxes at h
 split at h <;> cases h
 rfl
theorem AV.toStos_ {x : AV} {n : Unit → List Stowed} (h : x.toStos = some n) : x = .sl false .stowed n := by
 unfold AV.toStos at h
 split at h <;> cases h
 rfl
theorem AV.toSlos_ {x : AV} {n : Unit → List Slot} (h : x.toSlos = some n) : x = .sl false .slot n := by
 unfold AV.toSlos at h
 split at h <;> cases h
 rfl
theorem AV.toLds_ {x : AV} {n : Unit → List Ld} (h : x.toLds = some n) : x = .sl false .ld n := by
 unfold AV.toLds at h
 split at h <;> cases h
 rfl
theorem AV.toU8s_ {x : AV} {n : Unit → List Int} (h : x.toU8s = some n) : x = .sl false .u8 n := by
 unfold AV.toU8s at h
 split at h <;> cases h
 rfl
theorem AV.toSpns_ {x : AV} {n : Unit → List Spn} (h : x.toSpns = some n) : x = .sl false .spn n := by
 unfold AV.toSpns at h
 split at h <;> cases h
 rfl
theorem AV.toMids_ {x : AV} {n : Unit → List Mid} (h : x.toMids = some n) : x = .sl false .mid n := by
 unfold AV.toMids at h
 split at h <;> cases h
 rfl
theorem AV.toHrows_ {x : AV} {n : Unit → List Hrow} (h : x.toHrows = some n) : x = .sl false .hrow n := by
 unfold AV.toHrows at h
 split at h <;> cases h
 rfl
theorem AV.toFrms_ {x : AV} {n : Unit → List Frm} (h : x.toFrms = some n) : x = .sl false .frm n := by
 unfold AV.toFrms at h
 split at h <;> cases h
 rfl
theorem AV.toTnks_ {x : AV} {n : Unit → List Tnk} (h : x.toTnks = some n) : x = .sl false .tnk n := by
 unfold AV.toTnks at h
 split at h <;> cases h
 rfl
theorem AV.toWgts_ {x : AV} {n : Unit → List Wgt} (h : x.toWgts = some n) : x = .sl false .wgt n := by
 unfold AV.toWgts at h
 split at h <;> cases h
 rfl
theorem AV.toPI_ {x : AV} {n : Unit → Int} (h : x.toPI = some n) : x = .pto [.int .i64 n] 0 := by
 unfold AV.toPI at h
 split at h <;> cases h
 rfl
theorem AV.toFPI_ {x : AV} {f : FuncId} {n : Unit → Int} (h : x.toFPI f = some n) : x = .fn f [.pto [.int .i64 n] 0] := by
 unfold AV.toFPI at h
 split at h
 · split at h <;> cases h
   rename_i h
   rw [h]
 · cases h
def AV.toBox : AV → Option (Unit → Box)
 | .agg [a, b, c, d, e, f, g, h, i] => a.toI.bind fun a => b.toS.bind fun b => c.toU8.bind fun c => d.toB.bind fun d => e.toI.bind fun e => f.toI.bind fun f => g.toI.bind fun g => h.toU8.bind fun h => i.toB.bind fun i => some fun _ => ⟨a (), b (), c (), d (), e (), f (), g (), h (), i ()⟩
 | _ => none
def AV.toMid : AV → Option (Unit → Mid)
 | .agg [a, b, c, d, e, f, g, h, i, x, y, z] => (AV.toBox (.agg [a, b, c, d, e, f, g, h, i])).bind fun b => x.toI.bind fun x => y.toI.bind fun y => z.toI.bind fun z => some fun _ => ⟨b (), x (), y (), z ()⟩
 | _ => none
def AV.toLd : AV → Option (Unit → Ld)
 | .agg [a, b, c, d] => a.toI.bind fun a => b.toI.bind fun b => c.toI.bind fun c => d.toI.bind fun d => some fun _ => ⟨a (), b (), c (), d ()⟩
 | _ => none
def AV.toSto : AV → Option (Unit → Stowed)
 | .agg [a, b, c, d] => a.toI.bind fun a => b.toI.bind fun b => c.toI.bind fun c => d.toU8.bind fun d => some fun _ => ⟨a (), b (), c (), d ()⟩
 | _ => none
def AV.toSlo : AV → Option (Unit → Slot)
 | .agg [a, b, c] => a.toI.bind fun a => b.toI.bind fun b => c.toU8.bind fun c => some fun _ => ⟨a (), b (), c ()⟩
 | _ => none
def AV.toCol : AV → Option (Unit → Col)
 | .agg [a, b, c, d, e, f, g, h, i, j, k, l] => a.toI.bind fun a => b.toI.bind fun b => c.toB.bind fun c => d.toI.bind fun d => e.toI.bind fun e => f.toI.bind fun f => g.toI.bind fun g => h.toI.bind fun h => i.toInts.bind fun i => j.toI.bind fun j => k.toI.bind fun k => l.toI.bind fun l => some fun _ => ⟨a (), b (), c (), d (), e (), f (), g (), h (), i (), j (), k (), l ()⟩
 | _ => none
def AV.toShip : AV → Option (Unit → Shp)
 | .agg [a, b, c, d, e, f, g, h, i, j, k, l, m] => a.toCols.bind fun a => b.toCovs.bind fun b => c.toI.bind fun c => d.toI.bind fun d => e.toI.bind fun e => f.toI.bind fun f => g.toHrows.bind fun g => h.toFrms.bind fun h => i.toTnks.bind fun i => j.toI.bind fun j => k.toI.bind fun k => l.toI.bind fun l => m.toI.bind fun m => some fun _ => ⟨a (), b (), c (), d (), e (), f (), g (), h (), i (), j (), k (), l (), m ()⟩
 | _ => none
theorem AV.toBox_ {x : AV} {b : Unit → Box} (h : x.toBox = some b) : x = .agg (boxL b) := by
 unfold AV.toBox at h
 split at h
 · simp only [Option.bind_eq_some_iff, Option.some.injEq] at h
   obtain ⟨a, h1, b, h2, c, h3, d, h4, e, h5, f, h6, g, h7, i, h8, j, h9, rfl⟩ := h
   rw [AV.toI_ h1, AV.toS_ h2, AV.toU8_ h3, AV.toB_ h4, AV.toI_ h5, AV.toI_ h6, AV.toI_ h7, AV.toU8_ h8, AV.toB_ h9]
   rfl
 · cases h
theorem AV.toMid_ {x : AV} {b : Unit → Mid} (h : x.toMid = some b) : x = .agg (midL b) := by
 unfold AV.toMid at h
 split at h
 · simp only [Option.bind_eq_some_iff, Option.some.injEq] at h
   obtain ⟨b, h1, x, h2, y, h3, z, h4, rfl⟩ := h
   have h5 := AV.toBox_ h1
   simp only [AV.agg.injEq] at h5
   rw [AV.toI_ h2, AV.toI_ h3, AV.toI_ h4]
   unfold midL
   rw [← show _ = boxL b from h5]
   rfl
 · cases h
theorem AV.toLd_ {x : AV} {b : Unit → Ld} (h : x.toLd = some b) : x = .agg (ldL b) := by
 unfold AV.toLd at h
 split at h
 · simp only [Option.bind_eq_some_iff, Option.some.injEq] at h
   obtain ⟨a, h1, b, h2, c, h3, d, h4, rfl⟩ := h
   rw [AV.toI_ h1, AV.toI_ h2, AV.toI_ h3, AV.toI_ h4]
   rfl
 · cases h
theorem AV.toSto_ {x : AV} {b : Unit → Stowed} (h : x.toSto = some b) : x = .agg (stoL b) := by
 unfold AV.toSto at h
 split at h
 · simp only [Option.bind_eq_some_iff, Option.some.injEq] at h
   obtain ⟨a, h1, b, h2, c, h3, d, h4, rfl⟩ := h
   rw [AV.toI_ h1, AV.toI_ h2, AV.toI_ h3, AV.toU8_ h4]
   rfl
 · cases h
theorem AV.toSlo_ {x : AV} {b : Unit → Slot} (h : x.toSlo = some b) : x = .agg (sloL b) := by
 unfold AV.toSlo at h
 split at h
 · simp only [Option.bind_eq_some_iff, Option.some.injEq] at h
   obtain ⟨a, h1, b, h2, c, h3, rfl⟩ := h
   rw [AV.toI_ h1, AV.toI_ h2, AV.toU8_ h3]
   rfl
 · cases h
theorem AV.toCol_ {x : AV} {b : Unit → Col} (h : x.toCol = some b) : x = .agg (colL b) := by
 unfold AV.toCol at h
 split at h
 · simp only [Option.bind_eq_some_iff, Option.some.injEq] at h
   obtain ⟨a, h1, b, h2, c, h3, d, h4, e, h5, f, h6, g, h7, i, h8, j, h9, k, h10, l, h11, m, h12, rfl⟩ := h
   rw [AV.toI_ h1, AV.toI_ h2, AV.toB_ h3, AV.toI_ h4, AV.toI_ h5, AV.toI_ h6, AV.toI_ h7, AV.toI_ h8, AV.toInts_ h9, AV.toI_ h10, AV.toI_ h11, AV.toI_ h12]
   rfl
 · cases h
theorem AV.toShip_ {x : AV} {b : Unit → Shp} (h : x.toShip = some b) : x = .agg (shipL b) := by
 unfold AV.toShip at h
 split at h
 · simp only [Option.bind_eq_some_iff, Option.some.injEq] at h
   obtain ⟨a, h1, b, h2, c, h3, d, h4, e, h5, f, h6, g, h7, i, h8, j, h9, k, h10, l, h11, m, h12, n, h13, rfl⟩ := h
   rw [AV.toCols_ h1, AV.toCovs_ h2, AV.toI_ h3, AV.toI_ h4, AV.toI_ h5, AV.toI_ h6, AV.toHrows_ h7, AV.toFrms_ h8, AV.toTnks_ h9, AV.toI_ h10, AV.toI_ h11, AV.toI_ h12, AV.toI_ h13]
   rfl
 · cases h
theorem results_box2 {P : Program} {fn : Func} {p t : Tmp} {T g : Nat} {w : World} {cs : List Value} (h : fn.results = #[.cell p T, .tmp t]) (tmps : Array Value) (hp : tmps.getD p undef = .pointer (some ⟨g, 0, none⟩)) (hl : (loadVar T ⟨g, 0, none⟩).run P w = .ok (.agg cs.toArray) w) :
 (results fn tmps).run P w = .ok (.tuple #[.agg cs.toArray, tmps.getD t undef]) w := by
 have hp' : tmps[p]?.getD undef = .pointer (some ⟨g, 0, none⟩) := by simpa using hp
 simp [results, h, hp', asAddr, hl]
theorem Mem.alloc2 {w0 w : World} {M : List Ent} (h : Mem w0 w M) (T : Nat) (cs : List Value) (T' : Nat) (cs' : List Value) : Mem w0 ((w.alloc (.cells cs.toArray T)).alloc (.cells cs'.toArray T')) (.box (w.heap.size + 1) T' cs' :: .box w.heap.size T cs :: M) := by
 have h := (h.alloc T cs).alloc T' cs'
 have e : (w.alloc (.cells cs.toArray T)).heap.size = w.heap.size + 1 := by simp
 rw [e] at h
 exact h
theorem Rd.addr {w : World} {B size : Nat} {A : Option Addr} {css : List (List Value)} (h : Rd w B size A css) (h0 : 0 < css.length) : ∃ b off, A = some ⟨b, off, none⟩ := by
 obtain ⟨b, off, e, _⟩ := h 0 css[0] (List.getElem?_eq_getElem h0)
 exact ⟨b, off, e⟩
def u8Row (n : Int) : List Value := [.int .u8 n]
def halvesF (size : Int) : List Int := if size = 40 then [0] else if size = 20 then [1, 2] else []
def idxE {α : Type} [DecidableEq α] (x : α) (l : List α) : Int := idx (fun y => decide (x = y)) l
theorem indexU8 (A : Option Addr) (c : Nat) (l : List Int) (n : Nat) (hn : n = l.length) (x : Int) (w : World) (hA : Rd w w.heap.size 1 A (l.map u8Row)) (hl : l.length ≤ 1000000000000) :
 Calls Try.prog 85 #[.slice A n c, .int .u8 x] w fun e w' => e = .returned (.int .i64 (idxE x l)) ∧ w' = w := by
 have HN := Lib.hid hn
 have HR := Lib.hid hA
 have hl2 : n ≤ 1000000000000 := by omega
 clear hA hn hl
 go_enter Try.func85, Try.ntmps85
 go_wp2
 go_loopw [5, 8] (fun _ i wr => ∃ k : Nat, k ≤ n ∧ i = .int .i64 k ∧ (∀ j, (h : j < k) → (h2 : j < l.length) → decide (x = l[j]) = false) ∧ wr = w) (fun _ i _ => n - (intOf i).toNat)
 case atStart => exact ⟨0, by omega, rfl, by omega, rfl⟩
 case round =>
  obtain ⟨k, hk, rfl, hj, rfl⟩ := hrel
  have HJ := Lib.hid hj
  clear hj
  by_cases hkn : k = n
  · have hlt : ¬ (k : Int) < (n : Int) := by omega
    have HI : Hid (idxE x l = -1) := idx_none (fun j h => HJ.out j (by have := HN.out; omega) h)
    clear hkn hk
    go_wp2
    go_ret
    exact ⟨by rw [HI.out]; rfl, rfl⟩
  · have hlt : (k : Int) < (n : Int) := by omega
    have hkl : k < l.length := by have := HN.out; omega
    obtain ⟨b, off, rfl⟩ := Rd.addr HR.out (by rw [List.length_map]; omega)
    obtain ⟨y, hy⟩ : ∃ y, y = l[k] := ⟨_, rfl⟩
    have HL := Lib.hid (Rd.cell (P := Try.prog) HR.out (Below.refl _ _) ct5 (k := k) (cs := u8Row y) (by rw [hy]; exact map_get2 u8Row l k hkl) (j := 0) (v := .int .u8 y) rfl (p := off + k) (by omega))
    by_cases hxy : x = y
    · have HI : Hid (idxE x l = k) := idx_found hkl (fun j h => HJ.out j h (by omega)) (by rw [← hy]; exact decide_eq_true hxy)
      have hb : (x == y) = true := by simpa using hxy
      clear hkn hk hy hxy
      go_wp2_with ((with_reducible refine g_ld 5 ?_); refine wpList_ld rfl _ _ rfl _ rfl _ HL.out ?_)
      go_ret
      exact ⟨by rw [HI.out]; rfl, rfl⟩
    · have HJ2 : Hid (∀ j, (h : j < k + 1) → (h2 : j < l.length) → decide (x = l[j]) = false) := by
       intro j h h2
       rcases Nat.lt_or_ge j k with h3 | h3
       · exact HJ.out j h3 h2
       · obtain rfl : j = k := by omega
         rw [← hy]
         exact decide_eq_false hxy
      have hb : (x == y) = false := by simpa using hxy
      clear HJ hy hxy
      go_wp2_with ((with_reducible refine g_ld 5 ?_); refine wpList_ld rfl _ _ rfl _ rfl _ HL.out ?_)
      go_roundw
      case rel => exact ⟨k + 1, by omega, by go_num, HJ2.out, trivial⟩
      case measure => simp [intOf]; omega
theorem containsU8 (A : Option Addr) (c : Nat) (l : List Int) (n : Nat) (hn : n = l.length) (x : Int) (w : World) (hA : Rd w w.heap.size 1 A (l.map u8Row)) (hl : l.length ≤ 1000000000000) :
 Calls Try.prog 73 #[.slice A n c, .int .u8 x] w fun e w' => e = .returned (.bool (l.any fun y => decide (x = y))) ∧ w' = w := by
 have HI := Lib.hid (indexU8 A c l n hn x w hA hl)
 rw [any_idx]
 unfold idxE at HI
 generalize idx (fun y => decide (x = y)) l = z at HI ⊢
 clear hA hn hl
 go_enter Try.func73, Try.ntmps73
 go_wp2_with (go_at_call 85; refine (HI.out).mono ?_; rintro e w2 ⟨rfl, rfl⟩)
 go_ret
 exact ⟨by first | rfl | simp, rfl⟩
def sharesB (a b : Int) : Bool := decide (a = b) || (decide (a = 0) || decide (b = 0))
def meetB (a b : Slot) : Bool := decide (a.col = b.col) && (decide (a.tier = b.tier) && sharesB a.half b.half)
theorem slot_shares (a b : Int) (w : World) : Calls Try.prog 77 #[.int .u8 a, .int .u8 b] w fun e w' => e = .returned (.bool (sharesB a b)) ∧ w' = w := by
 by_cases h1 : a = b
 · subst h1
   have e : sharesB a a = true := by simp [sharesB]
   rw [e]
   go_enter Try.func77, Try.ntmps77
   go_wp2
   go_ret
   exact ⟨rfl, rfl⟩
 · have h1' : (a == b) = false := by simpa using h1
   by_cases h2 : a = 0
   · subst h2
     have e : sharesB 0 b = true := by simp [sharesB]
     rw [e]
     go_enter Try.func77, Try.ntmps77
     go_wp2
     go_ret
     exact ⟨rfl, rfl⟩
   · have h2' : (a == 0) = false := by simpa using h2
     by_cases h3 : b = 0
     · subst h3
       have e : sharesB a 0 = true := by simp [sharesB]
       rw [e]
       go_enter Try.func77, Try.ntmps77
       go_wp2
       go_ret
       exact ⟨rfl, rfl⟩
     · have h3' : (b == 0) = false := by simpa using h3
       have e : sharesB a b = false := by simp [sharesB, h1, h2, h3]
       rw [e]
       go_enter Try.func77, Try.ntmps77
       go_wp2
       go_ret
       exact ⟨rfl, rfl⟩
theorem slot_Meet (a b : Slot) (w : World) : Calls Try.prog 53 #[a.val, b.val] w fun e w' => e = .returned (.bool (meetB a b)) ∧ From w w' := by
 obtain ⟨ac, at_, ah⟩ := a
 obtain ⟨bc, bt, bh⟩ := b
 have HB : Hid (From w ((w.alloc (.cells #[.int .i64 ac, .int .i64 at_, .int .u8 ah] 84)).alloc (.cells #[.int .i64 bc, .int .i64 bt, .int .u8 bh] 84))) := ((Below.refl _ _).alloc (Nat.le_refl _) _).alloc (by simp) _
 unfold meetB
 dsimp only
 by_cases h1 : ac = bc
 · subst h1
   have h1' : (ac == ac) = true := by simp
   by_cases h2 : at_ = bt
   · subst h2
     have h2' : (at_ == at_) = true := by simp
     have HS := Lib.hid (fun w1 => slot_shares ah bh w1)
     have e : (decide (ac = ac) && (decide (at_ = at_) && sharesB ah bh)) = sharesB ah bh := by simp
     rw [e]
     generalize sharesB ah bh = s at HS
     go_enter Try.func53, Try.ntmps53
     go_wp2_with (go_at_call 77; refine (HS.out _).mono ?_; rintro e wx ⟨rfl, hx⟩; rw [hx]; clear hx wx)
     go_ret
     exact ⟨rfl, HB.out⟩
   · have h2' : (at_ == bt) = false := by simpa using h2
     have e : (decide (ac = ac) && (decide (at_ = bt) && sharesB ah bh)) = false := by simp [h2]
     rw [e]
     go_enter Try.func53, Try.ntmps53
     go_wp2
     go_ret
     exact ⟨rfl, HB.out⟩
 · have h1' : (ac == bc) = false := by simpa using h1
   have e : (decide (ac = bc) && (decide (at_ = bt) && sharesB ah bh)) = false := by simp [h1]
   rw [e]
   go_enter Try.func53, Try.ntmps53
   go_wp2
   go_ret
   exact ⟨rfl, HB.out⟩
end Go.Proofs.Ytmbfcdnnlpcgfaa
