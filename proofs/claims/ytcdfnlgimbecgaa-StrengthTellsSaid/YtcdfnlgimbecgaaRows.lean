/-
  No cell of these rows narrows 'for every input' (looked for: loops, veiled, ifaces, maps, wideKeys, modest, calm, conditions, laid).
  DERIVED. THE GIVEN ROWS OF THIS SEAT. 5 by the template 'for every input the law returns true; each argument reads behind the call as it read before'; 0 by the template 'total and deterministic' (their statements: YtcdfnlgimbecgaaTotals.lean).
  GIVEN WITH THE SEED: the statements are not yours to turn. If you find one false, say at which input.
  Laid BY PROGRAM, IN A SANDBOX (cutbox-rows.mjs): the forced cells as the released guide's own fill.sh prints them over the translation cc6a9719083f3ab5… (all of the seat's roots in one cut). By AI agents, Wed Nov 11 2026. No macro, syntax, notation, axiom, sorry.
-/
import Derived.Test.YtcdfnlgimbecgaaChecked
import GoSem.Claim
import GoSem.ClaimJoined
import GoSem.ClaimMapViews
import Derived.JoinedTies
import Derived.KernelRfl
namespace Go.Proofs.Ytcdfnlgimbecgaa
/- THE CELL 'sum', in the pinned program and in every row, IS THE sha256 OF THE DUMP (.gsa) THAT YtcdfnlgimbecgaaProg.lean LOADS. Nothing in Lean hashes anything: it is a label: what it is worth is what the hold of that sum in a sandbox is worth. -/
noncomputable def Try.pinned : Pinned := { name := "ytcdfnlgimbecgaa", sum := "cc6a9719083f3ab5537822cf420a046a25b8b53d189c5a459639c0a280e259c0", checked := Try.checked }
namespace Rows
def none {H : Type} : Left H := { results := [], args := [] }

/-- 'twistlocklaw18.StrengthTells': WHATEVER THE INPUT: true; the input reads as it did. -/
def strengthTellsSpec : ChangeSpec := { name := "strengthTells", fn := fun _ => fun
  | [d1, d2] => { results := [.lit (.bool true)], args := [d1, d2] }
  | _ => none }
def strengthTellsRow : OpenClaim := { program := "ytcdfnlgimbecgaa", sum := "cc6a9719083f3ab5537822cf420a046a25b8b53d189c5a459639c0a280e259c0", func := "twistlock/twistlocklaw18.StrengthTells", spec := "strengthTells", unfollowed := true, recurses := true, plainKeys := false, apart := false }
def StrengthTellsSaid : Prop := strengthTellsRow.holds Try.pinned (OpenSpec.ofChange strengthTellsSpec)

/-- ITS FALSE NEIGHBOUR: 'it returns false'. Refute it at one input. -/
def strengthTellsWrong : ChangeSpec := { name := "strengthTells", fn := fun _ => fun
  | [d1, d2] => { results := [.lit (.bool false)], args := [d1, d2] }
  | _ => none }
def StrengthTellsWrongFalsely : Prop := strengthTellsRow.holds Try.pinned (OpenSpec.ofChange strengthTellsWrong)

/-- 'twistlocklaw18.StrengthOver': WHATEVER THE INPUT: true; the input reads as it did. -/
def strengthOverSpec : ChangeSpec := { name := "strengthOver", fn := fun _ => fun
  | [d1, d2] => { results := [.lit (.bool true)], args := [d1, d2] }
  | _ => none }
def strengthOverRow : OpenClaim := { program := "ytcdfnlgimbecgaa", sum := "cc6a9719083f3ab5537822cf420a046a25b8b53d189c5a459639c0a280e259c0", func := "twistlock/twistlocklaw18.StrengthOver", spec := "strengthOver", unfollowed := true, recurses := true, plainKeys := false, apart := false }
def StrengthOverSaid : Prop := strengthOverRow.holds Try.pinned (OpenSpec.ofChange strengthOverSpec)

/-- ITS FALSE NEIGHBOUR: 'it returns false'. Refute it at one input. -/
def strengthOverWrong : ChangeSpec := { name := "strengthOver", fn := fun _ => fun
  | [d1, d2] => { results := [.lit (.bool false)], args := [d1, d2] }
  | _ => none }
def StrengthOverWrongFalsely : Prop := strengthOverRow.holds Try.pinned (OpenSpec.ofChange strengthOverWrong)

/-- 'twistlocklaw18.StrengthEnds': WHATEVER THE INPUT: true; the input reads as it did. -/
def strengthEndsSpec : ChangeSpec := { name := "strengthEnds", fn := fun _ => fun
  | [d] => { results := [.lit (.bool true)], args := [d] }
  | _ => none }
def strengthEndsRow : OpenClaim := { program := "ytcdfnlgimbecgaa", sum := "cc6a9719083f3ab5537822cf420a046a25b8b53d189c5a459639c0a280e259c0", func := "twistlock/twistlocklaw18.StrengthEnds", spec := "strengthEnds", unfollowed := true, recurses := true, plainKeys := false, apart := false }
def StrengthEndsSaid : Prop := strengthEndsRow.holds Try.pinned (OpenSpec.ofChange strengthEndsSpec)

/-- ITS FALSE NEIGHBOUR: 'it returns false'. Refute it at one input. -/
def strengthEndsWrong : ChangeSpec := { name := "strengthEnds", fn := fun _ => fun
  | [d] => { results := [.lit (.bool false)], args := [d] }
  | _ => none }
def StrengthEndsWrongFalsely : Prop := strengthEndsRow.holds Try.pinned (OpenSpec.ofChange strengthEndsWrong)

/-- 'twistlocklaw18.StrengthLimits': WHATEVER THE INPUT: true; the input reads as it did. -/
def strengthLimitsSpec : ChangeSpec := { name := "strengthLimits", fn := fun _ => fun
  | [d1, d2, d3] => { results := [.lit (.bool true)], args := [d1, d2, d3] }
  | _ => none }
def strengthLimitsRow : OpenClaim := { program := "ytcdfnlgimbecgaa", sum := "cc6a9719083f3ab5537822cf420a046a25b8b53d189c5a459639c0a280e259c0", func := "twistlock/twistlocklaw18.StrengthLimits", spec := "strengthLimits", unfollowed := true, recurses := true, plainKeys := false, apart := false }
def StrengthLimitsSaid : Prop := strengthLimitsRow.holds Try.pinned (OpenSpec.ofChange strengthLimitsSpec)

/-- ITS FALSE NEIGHBOUR: 'it returns false'. Refute it at one input. -/
def strengthLimitsWrong : ChangeSpec := { name := "strengthLimits", fn := fun _ => fun
  | [d1, d2, d3] => { results := [.lit (.bool false)], args := [d1, d2, d3] }
  | _ => none }
def StrengthLimitsWrongFalsely : Prop := strengthLimitsRow.holds Try.pinned (OpenSpec.ofChange strengthLimitsWrong)

/-- 'twistlocklaw15.MomentSums': WHATEVER THE INPUT: true; the input reads as it did. -/
def momentSumsSpec : ChangeSpec := { name := "momentSums", fn := fun _ => fun
  | [d1, d2] => { results := [.lit (.bool true)], args := [d1, d2] }
  | _ => none }
def momentSumsRow : OpenClaim := { program := "ytcdfnlgimbecgaa", sum := "cc6a9719083f3ab5537822cf420a046a25b8b53d189c5a459639c0a280e259c0", func := "twistlock/twistlocklaw15.MomentSums", spec := "momentSums", unfollowed := true, recurses := true, plainKeys := false, apart := false }
def MomentSumsSaid : Prop := momentSumsRow.holds Try.pinned (OpenSpec.ofChange momentSumsSpec)

/-- ITS FALSE NEIGHBOUR: 'it returns false'. Refute it at one input. -/
def momentSumsWrong : ChangeSpec := { name := "momentSums", fn := fun _ => fun
  | [d1, d2] => { results := [.lit (.bool false)], args := [d1, d2] }
  | _ => none }
def MomentSumsWrongFalsely : Prop := momentSumsRow.holds Try.pinned (OpenSpec.ofChange momentSumsWrong)

/- THE SECOND FORM. 'bulk': how many values and letters a reading holds, each counted each time it is reached (what is shared counts as often as it is met; a slice's spare places count too). A statement '..UptoSaid' is the law's where the arguments, and the package variables that the reading takes, are together of bulk at most 1048576: NARROWER than '..Said'. Prove '..Said' where nothing that the law and all that it calls make is longer than what came in: it says more and counts as full. Else prove '..UptoSaid'. A law counts once. -/
mutual
def uptoBulk {H : Type} : DataW H → Nat
  | .lit (.string bytes) => bytes.length + 1
  | .lit _ => 1
  | .nil => 1
  | .ptr d => uptoBulk d + 1
  | .slice elems spare => uptoBulkAll elems + uptoBulkAll spare + 1
  | .agg parts => uptoBulkAll parts + 1
  | .iface _ d => uptoBulk d + 1
  | .map entries => uptoBulkEntries entries + 1
  | .held _ => 1
def uptoBulkAll {H : Type} : List (DataW H) → Nat
  | [] => 0
  | d :: r => uptoBulk d + uptoBulkAll r
def uptoBulkEntries {H : Type} : List (Lit × DataW H) → Nat
  | [] => 0
  | x :: r => uptoBulkEntry x + uptoBulkEntries r
def uptoBulkEntry {H : Type} : Lit × DataW H → Nat
  | (.string bytes, d) => bytes.length + uptoBulk d + 1
  | (_, d) => uptoBulk d + 1
 end
def uptoSmall : (H : Type) → List (DataW H) → Bool := fun _ ds => decide (uptoBulkAll ds ≤ 1048576)
def OpenSpec.upto (s : _root_.Go.ChangeSpec) : _root_.Go.OpenSpec := { _root_.Go.OpenSpec.ofChange s with cond := some uptoSmall }

/-- 'twistlocklaw18.StrengthTells', WHERE WHAT IT READS IS OF BULK AT MOST 1048576: true; the input reads as it did. -/
def strengthTellsUptoRow : OpenClaim := { program := "ytcdfnlgimbecgaa", sum := "cc6a9719083f3ab5537822cf420a046a25b8b53d189c5a459639c0a280e259c0", func := "twistlock/twistlocklaw18.StrengthTells", spec := "strengthTells", unfollowed := true, recurses := true, plainKeys := false, apart := false, narrowed := true }
def StrengthTellsUptoSaid : Prop := strengthTellsUptoRow.holds Try.pinned (OpenSpec.upto strengthTellsSpec)

/-- 'twistlocklaw18.StrengthOver', WHERE WHAT IT READS IS OF BULK AT MOST 1048576: true; the input reads as it did. -/
def strengthOverUptoRow : OpenClaim := { program := "ytcdfnlgimbecgaa", sum := "cc6a9719083f3ab5537822cf420a046a25b8b53d189c5a459639c0a280e259c0", func := "twistlock/twistlocklaw18.StrengthOver", spec := "strengthOver", unfollowed := true, recurses := true, plainKeys := false, apart := false, narrowed := true }
def StrengthOverUptoSaid : Prop := strengthOverUptoRow.holds Try.pinned (OpenSpec.upto strengthOverSpec)

/-- 'twistlocklaw18.StrengthEnds', WHERE WHAT IT READS IS OF BULK AT MOST 1048576: true; the input reads as it did. -/
def strengthEndsUptoRow : OpenClaim := { program := "ytcdfnlgimbecgaa", sum := "cc6a9719083f3ab5537822cf420a046a25b8b53d189c5a459639c0a280e259c0", func := "twistlock/twistlocklaw18.StrengthEnds", spec := "strengthEnds", unfollowed := true, recurses := true, plainKeys := false, apart := false, narrowed := true }
def StrengthEndsUptoSaid : Prop := strengthEndsUptoRow.holds Try.pinned (OpenSpec.upto strengthEndsSpec)

/-- 'twistlocklaw18.StrengthLimits', WHERE WHAT IT READS IS OF BULK AT MOST 1048576: true; the input reads as it did. -/
def strengthLimitsUptoRow : OpenClaim := { program := "ytcdfnlgimbecgaa", sum := "cc6a9719083f3ab5537822cf420a046a25b8b53d189c5a459639c0a280e259c0", func := "twistlock/twistlocklaw18.StrengthLimits", spec := "strengthLimits", unfollowed := true, recurses := true, plainKeys := false, apart := false, narrowed := true }
def StrengthLimitsUptoSaid : Prop := strengthLimitsUptoRow.holds Try.pinned (OpenSpec.upto strengthLimitsSpec)

/-- 'twistlocklaw15.MomentSums', WHERE WHAT IT READS IS OF BULK AT MOST 1048576: true; the input reads as it did. -/
def momentSumsUptoRow : OpenClaim := { program := "ytcdfnlgimbecgaa", sum := "cc6a9719083f3ab5537822cf420a046a25b8b53d189c5a459639c0a280e259c0", func := "twistlock/twistlocklaw15.MomentSums", spec := "momentSums", unfollowed := true, recurses := true, plainKeys := false, apart := false, narrowed := true }
def MomentSumsUptoSaid : Prop := momentSumsUptoRow.holds Try.pinned (OpenSpec.upto momentSumsSpec)

end Rows
end Go.Proofs.Ytcdfnlgimbecgaa
