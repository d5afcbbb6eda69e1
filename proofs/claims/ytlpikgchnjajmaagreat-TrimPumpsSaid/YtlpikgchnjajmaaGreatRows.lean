/-
  No cell of these rows narrows 'for every input' (looked for: loops, veiled, ifaces, maps, wideKeys, modest, calm, conditions, laid).
  DERIVED. THE GIVEN ROWS OF THIS SEAT. 9 by the template 'for every input the law returns true; each argument reads behind the call as it read before'; 0 by the template 'total and deterministic' (their statements: YtlpikgchnjajmaaGreatTotals.lean).
  GIVEN WITH THE SEED: the statements are not yours to turn. If you find one false, say at which input.
  Laid BY PROGRAM, IN A SANDBOX (cutbox-rows.mjs): the forced cells as the released guide's own fill.sh prints them over the translation 7d68bf92b4bcf15a… (all of the seat's roots in one cut). By AI agents, Wed Nov 11 2026. No macro, syntax, notation, axiom, sorry.
-/
import Derived.Test.YtlpikgchnjajmaaGreatChecked
import GoSem.Claim
import GoSem.ClaimJoined
import GoSem.ClaimMapViews
import Derived.JoinedTies
import Derived.KernelRfl
namespace Go.Proofs.YtlpikgchnjajmaaGreat
/- THE CELL 'sum', in the pinned program and in every row, IS THE sha256 OF THE DUMP (.gsa) THAT YtlpikgchnjajmaaGreatProg.lean LOADS. Nothing in Lean hashes anything: it is a label: what it is worth is what the hold of that sum in a sandbox is worth. -/
noncomputable def Tryz.pinned : Pinned := { name := "ytlpikgchnjajmaagreat", sum := "7d68bf92b4bcf15a17941f449fe03248b708a798ead1db7d03f9f9131011b464", checked := Tryz.checked }
namespace Rows
def none {H : Type} : Left H := { results := [], args := [] }

/-- 'twistlocklaw19.TrimTells': WHATEVER THE INPUT: true; the input reads as it did. -/
def trimTellsSpec : ChangeSpec := { name := "trimTells", fn := fun _ => fun
  | [d1, d2, d3, d4, d5] => { results := [.lit (.bool true)], args := [d1, d2, d3, d4, d5] }
  | _ => none }
def trimTellsRow : OpenClaim := { program := "ytlpikgchnjajmaagreat", sum := "7d68bf92b4bcf15a17941f449fe03248b708a798ead1db7d03f9f9131011b464", func := "twistlock/twistlocklaw19.TrimTells", spec := "trimTells", unfollowed := true, recurses := true, plainKeys := false, apart := false }
def TrimTellsSaid : Prop := trimTellsRow.holds Tryz.pinned (OpenSpec.ofChange trimTellsSpec)

/-- ITS FALSE NEIGHBOUR: 'it returns false'. Refute it at one input. -/
def trimTellsWrong : ChangeSpec := { name := "trimTells", fn := fun _ => fun
  | [d1, d2, d3, d4, d5] => { results := [.lit (.bool false)], args := [d1, d2, d3, d4, d5] }
  | _ => none }
def TrimTellsWrongFalsely : Prop := trimTellsRow.holds Tryz.pinned (OpenSpec.ofChange trimTellsWrong)

/-- 'twistlocklaw19.TrimBallasts': WHATEVER THE INPUT: true; the input reads as it did. -/
def trimBallastsSpec : ChangeSpec := { name := "trimBallasts", fn := fun _ => fun
  | [d1, d2, d3, d4, d5] => { results := [.lit (.bool true)], args := [d1, d2, d3, d4, d5] }
  | _ => none }
def trimBallastsRow : OpenClaim := { program := "ytlpikgchnjajmaagreat", sum := "7d68bf92b4bcf15a17941f449fe03248b708a798ead1db7d03f9f9131011b464", func := "twistlock/twistlocklaw19.TrimBallasts", spec := "trimBallasts", unfollowed := true, recurses := true, plainKeys := false, apart := false }
def TrimBallastsSaid : Prop := trimBallastsRow.holds Tryz.pinned (OpenSpec.ofChange trimBallastsSpec)

/-- ITS FALSE NEIGHBOUR: 'it returns false'. Refute it at one input. -/
def trimBallastsWrong : ChangeSpec := { name := "trimBallasts", fn := fun _ => fun
  | [d1, d2, d3, d4, d5] => { results := [.lit (.bool false)], args := [d1, d2, d3, d4, d5] }
  | _ => none }
def TrimBallastsWrongFalsely : Prop := trimBallastsRow.holds Tryz.pinned (OpenSpec.ofChange trimBallastsWrong)

/-- 'twistlocklaw19.TrimSmall': WHATEVER THE INPUT: true; the input reads as it did. -/
def trimSmallSpec : ChangeSpec := { name := "trimSmall", fn := fun _ => fun
  | [] => { results := [.lit (.bool true)], args := [] }
  | _ => none }
def trimSmallRow : OpenClaim := { program := "ytlpikgchnjajmaagreat", sum := "7d68bf92b4bcf15a17941f449fe03248b708a798ead1db7d03f9f9131011b464", func := "twistlock/twistlocklaw19.TrimSmall", spec := "trimSmall", unfollowed := true, recurses := true, plainKeys := false, apart := false }
def TrimSmallSaid : Prop := trimSmallRow.holds Tryz.pinned (OpenSpec.ofChange trimSmallSpec)

/-- ITS FALSE NEIGHBOUR: 'it returns false'. Refute it at one input. -/
def trimSmallWrong : ChangeSpec := { name := "trimSmall", fn := fun _ => fun
  | [] => { results := [.lit (.bool false)], args := [] }
  | _ => none }
def TrimSmallWrongFalsely : Prop := trimSmallRow.holds Tryz.pinned (OpenSpec.ofChange trimSmallWrong)

/-- 'twistlocklaw19.TrimFloats': WHATEVER THE INPUT: true; the input reads as it did. -/
def trimFloatsSpec : ChangeSpec := { name := "trimFloats", fn := fun _ => fun
  | [d1, d2] => { results := [.lit (.bool true)], args := [d1, d2] }
  | _ => none }
def trimFloatsRow : OpenClaim := { program := "ytlpikgchnjajmaagreat", sum := "7d68bf92b4bcf15a17941f449fe03248b708a798ead1db7d03f9f9131011b464", func := "twistlock/twistlocklaw19.TrimFloats", spec := "trimFloats", unfollowed := true, recurses := true, plainKeys := false, apart := false }
def TrimFloatsSaid : Prop := trimFloatsRow.holds Tryz.pinned (OpenSpec.ofChange trimFloatsSpec)

/-- ITS FALSE NEIGHBOUR: 'it returns false'. Refute it at one input. -/
def trimFloatsWrong : ChangeSpec := { name := "trimFloats", fn := fun _ => fun
  | [d1, d2] => { results := [.lit (.bool false)], args := [d1, d2] }
  | _ => none }
def TrimFloatsWrongFalsely : Prop := trimFloatsRow.holds Tryz.pinned (OpenSpec.ofChange trimFloatsWrong)

/-- 'twistlocklaw19.TrimPumps': WHATEVER THE INPUT: true; the input reads as it did. -/
def trimPumpsSpec : ChangeSpec := { name := "trimPumps", fn := fun _ => fun
  | [d1, d2, d3, d4] => { results := [.lit (.bool true)], args := [d1, d2, d3, d4] }
  | _ => none }
def trimPumpsRow : OpenClaim := { program := "ytlpikgchnjajmaagreat", sum := "7d68bf92b4bcf15a17941f449fe03248b708a798ead1db7d03f9f9131011b464", func := "twistlock/twistlocklaw19.TrimPumps", spec := "trimPumps", unfollowed := true, recurses := true, plainKeys := false, apart := false }
def TrimPumpsSaid : Prop := trimPumpsRow.holds Tryz.pinned (OpenSpec.ofChange trimPumpsSpec)

/-- ITS FALSE NEIGHBOUR: 'it returns false'. Refute it at one input. -/
def trimPumpsWrong : ChangeSpec := { name := "trimPumps", fn := fun _ => fun
  | [d1, d2, d3, d4] => { results := [.lit (.bool false)], args := [d1, d2, d3, d4] }
  | _ => none }
def TrimPumpsWrongFalsely : Prop := trimPumpsRow.holds Tryz.pinned (OpenSpec.ofChange trimPumpsWrong)

/-- 'twistlocklaw19.TrimMirror': WHATEVER THE INPUT: true; the input reads as it did. -/
def trimMirrorSpec : ChangeSpec := { name := "trimMirror", fn := fun _ => fun
  | [d1, d2] => { results := [.lit (.bool true)], args := [d1, d2] }
  | _ => none }
def trimMirrorRow : OpenClaim := { program := "ytlpikgchnjajmaagreat", sum := "7d68bf92b4bcf15a17941f449fe03248b708a798ead1db7d03f9f9131011b464", func := "twistlock/twistlocklaw19.TrimMirror", spec := "trimMirror", unfollowed := true, recurses := true, plainKeys := false, apart := false }
def TrimMirrorSaid : Prop := trimMirrorRow.holds Tryz.pinned (OpenSpec.ofChange trimMirrorSpec)

/-- ITS FALSE NEIGHBOUR: 'it returns false'. Refute it at one input. -/
def trimMirrorWrong : ChangeSpec := { name := "trimMirror", fn := fun _ => fun
  | [d1, d2] => { results := [.lit (.bool false)], args := [d1, d2] }
  | _ => none }
def TrimMirrorWrongFalsely : Prop := trimMirrorRow.holds Tryz.pinned (OpenSpec.ofChange trimMirrorWrong)

/-- 'twistlocklaw19.TrimWrong': WHATEVER THE INPUT: true; the input reads as it did. -/
def trimWrongSpec : ChangeSpec := { name := "trimWrong", fn := fun _ => fun
  | [d1, d2] => { results := [.lit (.bool true)], args := [d1, d2] }
  | _ => none }
def trimWrongRow : OpenClaim := { program := "ytlpikgchnjajmaagreat", sum := "7d68bf92b4bcf15a17941f449fe03248b708a798ead1db7d03f9f9131011b464", func := "twistlock/twistlocklaw19.TrimWrong", spec := "trimWrong", unfollowed := true, recurses := true, plainKeys := false, apart := false }
def TrimWrongSaid : Prop := trimWrongRow.holds Tryz.pinned (OpenSpec.ofChange trimWrongSpec)

/-- ITS FALSE NEIGHBOUR: 'it returns false'. Refute it at one input. -/
def trimWrongWrong : ChangeSpec := { name := "trimWrong", fn := fun _ => fun
  | [d1, d2] => { results := [.lit (.bool false)], args := [d1, d2] }
  | _ => none }
def TrimWrongWrongFalsely : Prop := trimWrongRow.holds Tryz.pinned (OpenSpec.ofChange trimWrongWrong)

/-- 'twistlocklaw19.TrimLimits': WHATEVER THE INPUT: true; the input reads as it did. -/
def trimLimitsSpec : ChangeSpec := { name := "trimLimits", fn := fun _ => fun
  | [d1, d2] => { results := [.lit (.bool true)], args := [d1, d2] }
  | _ => none }
def trimLimitsRow : OpenClaim := { program := "ytlpikgchnjajmaagreat", sum := "7d68bf92b4bcf15a17941f449fe03248b708a798ead1db7d03f9f9131011b464", func := "twistlock/twistlocklaw19.TrimLimits", spec := "trimLimits", unfollowed := true, recurses := true, plainKeys := false, apart := false }
def TrimLimitsSaid : Prop := trimLimitsRow.holds Tryz.pinned (OpenSpec.ofChange trimLimitsSpec)

/-- ITS FALSE NEIGHBOUR: 'it returns false'. Refute it at one input. -/
def trimLimitsWrong : ChangeSpec := { name := "trimLimits", fn := fun _ => fun
  | [d1, d2] => { results := [.lit (.bool false)], args := [d1, d2] }
  | _ => none }
def TrimLimitsWrongFalsely : Prop := trimLimitsRow.holds Tryz.pinned (OpenSpec.ofChange trimLimitsWrong)

/-- 'twistlocklaw19.TrimLeast': WHATEVER THE INPUT: true; the input reads as it did. -/
def trimLeastSpec : ChangeSpec := { name := "trimLeast", fn := fun _ => fun
  | [d1, d2] => { results := [.lit (.bool true)], args := [d1, d2] }
  | _ => none }
def trimLeastRow : OpenClaim := { program := "ytlpikgchnjajmaagreat", sum := "7d68bf92b4bcf15a17941f449fe03248b708a798ead1db7d03f9f9131011b464", func := "twistlock/twistlocklaw19.TrimLeast", spec := "trimLeast", unfollowed := true, recurses := true, plainKeys := false, apart := false }
def TrimLeastSaid : Prop := trimLeastRow.holds Tryz.pinned (OpenSpec.ofChange trimLeastSpec)

/-- ITS FALSE NEIGHBOUR: 'it returns false'. Refute it at one input. -/
def trimLeastWrong : ChangeSpec := { name := "trimLeast", fn := fun _ => fun
  | [d1, d2] => { results := [.lit (.bool false)], args := [d1, d2] }
  | _ => none }
def TrimLeastWrongFalsely : Prop := trimLeastRow.holds Tryz.pinned (OpenSpec.ofChange trimLeastWrong)

/- THE SECOND FORM. 'bulk': how many values and letters a reading holds, each counted each time it is reached (what is shared counts as often as it is met; a slice's spare places count too). A statement '..UptoSaid' is the law's where the arguments, and the package variables that the reading takes, are together of bulk at most 1048576: NARROWER than '..Said'. Prove '..Said' where nothing that the law and all that it calls make is longer than what came in: it says more and counts as full. Else prove '..UptoSaid'. A law counts once. -/
mutual
def uptoBulk {H : Type} : DataW H → Nat
  | .lit (.string bytes) => bytes.length + 1
  | .lit _ => 1
  | .nil => 1
  | .ptr d => uptoBulk d + 1
  | .slice elems spare => uptoBulkAll elems + uptoBulkAll spare + 1
  | .agg parts => uptoBulkAll parts + 1
  | .iface _ d => uptoBulk d + 1
  | .map entries => uptoBulkEntries entries + 1
  | .held _ => 1
def uptoBulkAll {H : Type} : List (DataW H) → Nat
  | [] => 0
  | d :: r => uptoBulk d + uptoBulkAll r
def uptoBulkEntries {H : Type} : List (Lit × DataW H) → Nat
  | [] => 0
  | x :: r => uptoBulkEntry x + uptoBulkEntries r
def uptoBulkEntry {H : Type} : Lit × DataW H → Nat
  | (.string bytes, d) => bytes.length + uptoBulk d + 1
  | (_, d) => uptoBulk d + 1
 end
def uptoSmall : (H : Type) → List (DataW H) → Bool := fun _ ds => decide (uptoBulkAll ds ≤ 1048576)
def OpenSpec.upto (s : _root_.Go.ChangeSpec) : _root_.Go.OpenSpec := { _root_.Go.OpenSpec.ofChange s with cond := some uptoSmall }

/-- 'twistlocklaw19.TrimTells', WHERE WHAT IT READS IS OF BULK AT MOST 1048576: true; the input reads as it did. -/
def trimTellsUptoRow : OpenClaim := { program := "ytlpikgchnjajmaagreat", sum := "7d68bf92b4bcf15a17941f449fe03248b708a798ead1db7d03f9f9131011b464", func := "twistlock/twistlocklaw19.TrimTells", spec := "trimTells", unfollowed := true, recurses := true, plainKeys := false, apart := false, narrowed := true }
def TrimTellsUptoSaid : Prop := trimTellsUptoRow.holds Tryz.pinned (OpenSpec.upto trimTellsSpec)

/-- 'twistlocklaw19.TrimBallasts', WHERE WHAT IT READS IS OF BULK AT MOST 1048576: true; the input reads as it did. -/
def trimBallastsUptoRow : OpenClaim := { program := "ytlpikgchnjajmaagreat", sum := "7d68bf92b4bcf15a17941f449fe03248b708a798ead1db7d03f9f9131011b464", func := "twistlock/twistlocklaw19.TrimBallasts", spec := "trimBallasts", unfollowed := true, recurses := true, plainKeys := false, apart := false, narrowed := true }
def TrimBallastsUptoSaid : Prop := trimBallastsUptoRow.holds Tryz.pinned (OpenSpec.upto trimBallastsSpec)

/-- 'twistlocklaw19.TrimSmall', WHERE WHAT IT READS IS OF BULK AT MOST 1048576: true; the input reads as it did. -/
def trimSmallUptoRow : OpenClaim := { program := "ytlpikgchnjajmaagreat", sum := "7d68bf92b4bcf15a17941f449fe03248b708a798ead1db7d03f9f9131011b464", func := "twistlock/twistlocklaw19.TrimSmall", spec := "trimSmall", unfollowed := true, recurses := true, plainKeys := false, apart := false, narrowed := true }
def TrimSmallUptoSaid : Prop := trimSmallUptoRow.holds Tryz.pinned (OpenSpec.upto trimSmallSpec)

/-- 'twistlocklaw19.TrimFloats', WHERE WHAT IT READS IS OF BULK AT MOST 1048576: true; the input reads as it did. -/
def trimFloatsUptoRow : OpenClaim := { program := "ytlpikgchnjajmaagreat", sum := "7d68bf92b4bcf15a17941f449fe03248b708a798ead1db7d03f9f9131011b464", func := "twistlock/twistlocklaw19.TrimFloats", spec := "trimFloats", unfollowed := true, recurses := true, plainKeys := false, apart := false, narrowed := true }
def TrimFloatsUptoSaid : Prop := trimFloatsUptoRow.holds Tryz.pinned (OpenSpec.upto trimFloatsSpec)

/-- 'twistlocklaw19.TrimPumps', WHERE WHAT IT READS IS OF BULK AT MOST 1048576: true; the input reads as it did. -/
def trimPumpsUptoRow : OpenClaim := { program := "ytlpikgchnjajmaagreat", sum := "7d68bf92b4bcf15a17941f449fe03248b708a798ead1db7d03f9f9131011b464", func := "twistlock/twistlocklaw19.TrimPumps", spec := "trimPumps", unfollowed := true, recurses := true, plainKeys := false, apart := false, narrowed := true }
def TrimPumpsUptoSaid : Prop := trimPumpsUptoRow.holds Tryz.pinned (OpenSpec.upto trimPumpsSpec)

/-- 'twistlocklaw19.TrimMirror', WHERE WHAT IT READS IS OF BULK AT MOST 1048576: true; the input reads as it did. -/
def trimMirrorUptoRow : OpenClaim := { program := "ytlpikgchnjajmaagreat", sum := "7d68bf92b4bcf15a17941f449fe03248b708a798ead1db7d03f9f9131011b464", func := "twistlock/twistlocklaw19.TrimMirror", spec := "trimMirror", unfollowed := true, recurses := true, plainKeys := false, apart := false, narrowed := true }
def TrimMirrorUptoSaid : Prop := trimMirrorUptoRow.holds Tryz.pinned (OpenSpec.upto trimMirrorSpec)

/-- 'twistlocklaw19.TrimWrong', WHERE WHAT IT READS IS OF BULK AT MOST 1048576: true; the input reads as it did. -/
def trimWrongUptoRow : OpenClaim := { program := "ytlpikgchnjajmaagreat", sum := "7d68bf92b4bcf15a17941f449fe03248b708a798ead1db7d03f9f9131011b464", func := "twistlock/twistlocklaw19.TrimWrong", spec := "trimWrong", unfollowed := true, recurses := true, plainKeys := false, apart := false, narrowed := true }
def TrimWrongUptoSaid : Prop := trimWrongUptoRow.holds Tryz.pinned (OpenSpec.upto trimWrongSpec)

/-- 'twistlocklaw19.TrimLimits', WHERE WHAT IT READS IS OF BULK AT MOST 1048576: true; the input reads as it did. -/
def trimLimitsUptoRow : OpenClaim := { program := "ytlpikgchnjajmaagreat", sum := "7d68bf92b4bcf15a17941f449fe03248b708a798ead1db7d03f9f9131011b464", func := "twistlock/twistlocklaw19.TrimLimits", spec := "trimLimits", unfollowed := true, recurses := true, plainKeys := false, apart := false, narrowed := true }
def TrimLimitsUptoSaid : Prop := trimLimitsUptoRow.holds Tryz.pinned (OpenSpec.upto trimLimitsSpec)

/-- 'twistlocklaw19.TrimLeast', WHERE WHAT IT READS IS OF BULK AT MOST 1048576: true; the input reads as it did. -/
def trimLeastUptoRow : OpenClaim := { program := "ytlpikgchnjajmaagreat", sum := "7d68bf92b4bcf15a17941f449fe03248b708a798ead1db7d03f9f9131011b464", func := "twistlock/twistlocklaw19.TrimLeast", spec := "trimLeast", unfollowed := true, recurses := true, plainKeys := false, apart := false, narrowed := true }
def TrimLeastUptoSaid : Prop := trimLeastUptoRow.holds Tryz.pinned (OpenSpec.upto trimLeastSpec)

end Rows
end Go.Proofs.YtlpikgchnjajmaaGreat
