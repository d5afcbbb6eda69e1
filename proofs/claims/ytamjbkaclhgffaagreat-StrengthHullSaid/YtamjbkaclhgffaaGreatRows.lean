/-
  No cell of these rows narrows 'for every input' (looked for: loops, veiled, ifaces, maps, wideKeys, modest, calm, conditions, laid).
  DERIVED. THE GIVEN ROWS OF THIS SEAT. 3 by the template 'for every input the law returns true; each argument reads behind the call as it read before'; 0 by the template 'total and deterministic' (their statements: YtamjbkaclhgffaaGreatTotals.lean).
  GIVEN WITH THE SEED: the statements are not yours to turn. If you find one false, say at which input.
  Laid BY PROGRAM, IN A SANDBOX (cutbox-rows.mjs): the forced cells as the released guide's own fill.sh prints them over the translation 5bf839d56484aaba… (all of the seat's roots in one cut). By AI agents, Wed Nov 11 2026. No macro, syntax, notation, axiom, sorry.
-/
import Derived.Test.YtamjbkaclhgffaaGreatChecked
import GoSem.Claim
import GoSem.ClaimJoined
import GoSem.ClaimMapViews
import Derived.JoinedTies
import Derived.KernelRfl
namespace Go.Proofs.YtamjbkaclhgffaaGreat
/- THE CELL 'sum', in the pinned program and in every row, IS THE sha256 OF THE DUMP (.gsa) THAT YtamjbkaclhgffaaGreatProg.lean LOADS. Nothing in Lean hashes anything: it is a label: what it is worth is what the hold of that sum in a sandbox is worth. -/
noncomputable def Tryz.pinned : Pinned := { name := "ytamjbkaclhgffaagreat", sum := "5bf839d56484aaba6309d4b9e2ad0eae94a1851e5bbfe1c850b314625c3af98f", checked := Tryz.checked }
namespace Rows
def none {H : Type} : Left H := { results := [], args := [] }

/-- 'twistlocklaw18.StrengthHulls': WHATEVER THE INPUT: true; the input reads as it did. -/
def strengthHullsSpec : ChangeSpec := { name := "strengthHulls", fn := fun _ => fun
  | [d1, d2, d3, d4] => { results := [.lit (.bool true)], args := [d1, d2, d3, d4] }
  | _ => none }
def strengthHullsRow : OpenClaim := { program := "ytamjbkaclhgffaagreat", sum := "5bf839d56484aaba6309d4b9e2ad0eae94a1851e5bbfe1c850b314625c3af98f", func := "twistlock/twistlocklaw18.StrengthHulls", spec := "strengthHulls", unfollowed := true, recurses := true, plainKeys := false, apart := false }
def StrengthHullsSaid : Prop := strengthHullsRow.holds Tryz.pinned (OpenSpec.ofChange strengthHullsSpec)

/-- ITS FALSE NEIGHBOUR: 'it returns false'. Refute it at one input. -/
def strengthHullsWrong : ChangeSpec := { name := "strengthHulls", fn := fun _ => fun
  | [d1, d2, d3, d4] => { results := [.lit (.bool false)], args := [d1, d2, d3, d4] }
  | _ => none }
def StrengthHullsWrongFalsely : Prop := strengthHullsRow.holds Tryz.pinned (OpenSpec.ofChange strengthHullsWrong)

/-- 'twistlocklaw18.StrengthSmall': WHATEVER THE INPUT: true; the input reads as it did. -/
def strengthSmallSpec : ChangeSpec := { name := "strengthSmall", fn := fun _ => fun
  | [] => { results := [.lit (.bool true)], args := [] }
  | _ => none }
def strengthSmallRow : OpenClaim := { program := "ytamjbkaclhgffaagreat", sum := "5bf839d56484aaba6309d4b9e2ad0eae94a1851e5bbfe1c850b314625c3af98f", func := "twistlock/twistlocklaw18.StrengthSmall", spec := "strengthSmall", unfollowed := true, recurses := true, plainKeys := false, apart := false }
def StrengthSmallSaid : Prop := strengthSmallRow.holds Tryz.pinned (OpenSpec.ofChange strengthSmallSpec)

/-- ITS FALSE NEIGHBOUR: 'it returns false'. Refute it at one input. -/
def strengthSmallWrong : ChangeSpec := { name := "strengthSmall", fn := fun _ => fun
  | [] => { results := [.lit (.bool false)], args := [] }
  | _ => none }
def StrengthSmallWrongFalsely : Prop := strengthSmallRow.holds Tryz.pinned (OpenSpec.ofChange strengthSmallWrong)

/-- 'twistlocklaw18.StrengthHull': WHATEVER THE INPUT: true; the input reads as it did. -/
def strengthHullSpec : ChangeSpec := { name := "strengthHull", fn := fun _ => fun
  | [d1, d2, d3, d4, d5, d6] => { results := [.lit (.bool true)], args := [d1, d2, d3, d4, d5, d6] }
  | _ => none }
def strengthHullRow : OpenClaim := { program := "ytamjbkaclhgffaagreat", sum := "5bf839d56484aaba6309d4b9e2ad0eae94a1851e5bbfe1c850b314625c3af98f", func := "twistlock/twistlocklaw18.StrengthHull", spec := "strengthHull", unfollowed := true, recurses := true, plainKeys := false, apart := false }
def StrengthHullSaid : Prop := strengthHullRow.holds Tryz.pinned (OpenSpec.ofChange strengthHullSpec)

/-- ITS FALSE NEIGHBOUR: 'it returns false'. Refute it at one input. -/
def strengthHullWrong : ChangeSpec := { name := "strengthHull", fn := fun _ => fun
  | [d1, d2, d3, d4, d5, d6] => { results := [.lit (.bool false)], args := [d1, d2, d3, d4, d5, d6] }
  | _ => none }
def StrengthHullWrongFalsely : Prop := strengthHullRow.holds Tryz.pinned (OpenSpec.ofChange strengthHullWrong)

/- THE SECOND FORM. 'bulk': how many values and letters a reading holds, each counted each time it is reached (what is shared counts as often as it is met; a slice's spare places count too). A statement '..UptoSaid' is the law's where the arguments, and the package variables that the reading takes, are together of bulk at most 1048576: NARROWER than '..Said'. Prove '..Said' where nothing that the law and all that it calls make is longer than what came in: it says more and counts as full. Else prove '..UptoSaid'. A law counts once. -/
mutual
def uptoBulk {H : Type} : DataW H → Nat
  | .lit (.string bytes) => bytes.length + 1
  | .lit _ => 1
  | .nil => 1
  | .ptr d => uptoBulk d + 1
  | .slice elems spare => uptoBulkAll elems + uptoBulkAll spare + 1
  | .agg parts => uptoBulkAll parts + 1
  | .iface _ d => uptoBulk d + 1
  | .map entries => uptoBulkEntries entries + 1
  | .held _ => 1
def uptoBulkAll {H : Type} : List (DataW H) → Nat
  | [] => 0
  | d :: r => uptoBulk d + uptoBulkAll r
def uptoBulkEntries {H : Type} : List (Lit × DataW H) → Nat
  | [] => 0
  | x :: r => uptoBulkEntry x + uptoBulkEntries r
def uptoBulkEntry {H : Type} : Lit × DataW H → Nat
  | (.string bytes, d) => bytes.length + uptoBulk d + 1
  | (_, d) => uptoBulk d + 1
 end
def uptoSmall : (H : Type) → List (DataW H) → Bool := fun _ ds => decide (uptoBulkAll ds ≤ 1048576)
def OpenSpec.upto (s : _root_.Go.ChangeSpec) : _root_.Go.OpenSpec := { _root_.Go.OpenSpec.ofChange s with cond := some uptoSmall }

/-- 'twistlocklaw18.StrengthHulls', WHERE WHAT IT READS IS OF BULK AT MOST 1048576: true; the input reads as it did. -/
def strengthHullsUptoRow : OpenClaim := { program := "ytamjbkaclhgffaagreat", sum := "5bf839d56484aaba6309d4b9e2ad0eae94a1851e5bbfe1c850b314625c3af98f", func := "twistlock/twistlocklaw18.StrengthHulls", spec := "strengthHulls", unfollowed := true, recurses := true, plainKeys := false, apart := false, narrowed := true }
def StrengthHullsUptoSaid : Prop := strengthHullsUptoRow.holds Tryz.pinned (OpenSpec.upto strengthHullsSpec)

/-- 'twistlocklaw18.StrengthSmall', WHERE WHAT IT READS IS OF BULK AT MOST 1048576: true; the input reads as it did. -/
def strengthSmallUptoRow : OpenClaim := { program := "ytamjbkaclhgffaagreat", sum := "5bf839d56484aaba6309d4b9e2ad0eae94a1851e5bbfe1c850b314625c3af98f", func := "twistlock/twistlocklaw18.StrengthSmall", spec := "strengthSmall", unfollowed := true, recurses := true, plainKeys := false, apart := false, narrowed := true }
def StrengthSmallUptoSaid : Prop := strengthSmallUptoRow.holds Tryz.pinned (OpenSpec.upto strengthSmallSpec)

/-- 'twistlocklaw18.StrengthHull', WHERE WHAT IT READS IS OF BULK AT MOST 1048576: true; the input reads as it did. -/
def strengthHullUptoRow : OpenClaim := { program := "ytamjbkaclhgffaagreat", sum := "5bf839d56484aaba6309d4b9e2ad0eae94a1851e5bbfe1c850b314625c3af98f", func := "twistlock/twistlocklaw18.StrengthHull", spec := "strengthHull", unfollowed := true, recurses := true, plainKeys := false, apart := false, narrowed := true }
def StrengthHullUptoSaid : Prop := strengthHullUptoRow.holds Tryz.pinned (OpenSpec.upto strengthHullSpec)

end Rows
end Go.Proofs.YtamjbkaclhgffaaGreat
