/-
  No cell of these rows narrows 'for every input' (looked for: loops, veiled, ifaces, maps, wideKeys, modest, calm, conditions, laid).
  DERIVED. THE GIVEN ROWS OF THIS SEAT. 6 by the template 'for every input the law returns true; each argument reads behind the call as it read before'; 0 by the template 'total and deterministic' (their statements: YtfdjcakgolenbaaGreatTotals.lean).
  GIVEN WITH THE SEED: the statements are not yours to turn. If you find one false, say at which input.
  Laid BY PROGRAM, IN A SANDBOX (cutbox-rows.mjs): the forced cells as the released guide's own fill.sh prints them over the translation f7e0ef095d4a967d… (all of the seat's roots in one cut). By AI agents, Wed Nov 11 2026. No macro, syntax, notation, axiom, sorry.
-/
import Derived.Test.YtfdjcakgolenbaaGreatChecked
import GoSem.Claim
import GoSem.ClaimJoined
import GoSem.ClaimMapViews
import Derived.JoinedTies
import Derived.KernelRfl
namespace Go.Proofs.YtfdjcakgolenbaaGreat
/- THE CELL 'sum', in the pinned program and in every row, IS THE sha256 OF THE DUMP (.gsa) THAT YtfdjcakgolenbaaGreatProg.lean LOADS. Nothing in Lean hashes anything: it is a label: what it is worth is what the hold of that sum in a sandbox is worth. -/
noncomputable def Tryz.pinned : Pinned := { name := "ytfdjcakgolenbaagreat", sum := "f7e0ef095d4a967d056965a139431ab5f0c2576f75aaf624b74f1c462edffeee", checked := Tryz.checked }
namespace Rows
def none {H : Type} : Left H := { results := [], args := [] }

/-- 'twistlocklaw15.MomentTells': WHATEVER THE INPUT: true; the input reads as it did. -/
def momentTellsSpec : ChangeSpec := { name := "momentTells", fn := fun _ => fun
  | [d1, d2, d3, d4] => { results := [.lit (.bool true)], args := [d1, d2, d3, d4] }
  | _ => none }
def momentTellsRow : OpenClaim := { program := "ytfdjcakgolenbaagreat", sum := "f7e0ef095d4a967d056965a139431ab5f0c2576f75aaf624b74f1c462edffeee", func := "twistlock/twistlocklaw15.MomentTells", spec := "momentTells", unfollowed := true, recurses := true, plainKeys := false, apart := false }
def MomentTellsSaid : Prop := momentTellsRow.holds Tryz.pinned (OpenSpec.ofChange momentTellsSpec)

/-- ITS FALSE NEIGHBOUR: 'it returns false'. Refute it at one input. -/
def momentTellsWrong : ChangeSpec := { name := "momentTells", fn := fun _ => fun
  | [d1, d2, d3, d4] => { results := [.lit (.bool false)], args := [d1, d2, d3, d4] }
  | _ => none }
def MomentTellsWrongFalsely : Prop := momentTellsRow.holds Tryz.pinned (OpenSpec.ofChange momentTellsWrong)

/-- 'twistlocklaw15.MomentSmall': WHATEVER THE INPUT: true; the input reads as it did. -/
def momentSmallSpec : ChangeSpec := { name := "momentSmall", fn := fun _ => fun
  | [] => { results := [.lit (.bool true)], args := [] }
  | _ => none }
def momentSmallRow : OpenClaim := { program := "ytfdjcakgolenbaagreat", sum := "f7e0ef095d4a967d056965a139431ab5f0c2576f75aaf624b74f1c462edffeee", func := "twistlock/twistlocklaw15.MomentSmall", spec := "momentSmall", unfollowed := true, recurses := true, plainKeys := false, apart := false }
def MomentSmallSaid : Prop := momentSmallRow.holds Tryz.pinned (OpenSpec.ofChange momentSmallSpec)

/-- ITS FALSE NEIGHBOUR: 'it returns false'. Refute it at one input. -/
def momentSmallWrong : ChangeSpec := { name := "momentSmall", fn := fun _ => fun
  | [] => { results := [.lit (.bool false)], args := [] }
  | _ => none }
def MomentSmallWrongFalsely : Prop := momentSmallRow.holds Tryz.pinned (OpenSpec.ofChange momentSmallWrong)

/-- 'twistlocklaw15.MomentTurns': WHATEVER THE INPUT: true; the input reads as it did. -/
def momentTurnsSpec : ChangeSpec := { name := "momentTurns", fn := fun _ => fun
  | [d1, d2, d3] => { results := [.lit (.bool true)], args := [d1, d2, d3] }
  | _ => none }
def momentTurnsRow : OpenClaim := { program := "ytfdjcakgolenbaagreat", sum := "f7e0ef095d4a967d056965a139431ab5f0c2576f75aaf624b74f1c462edffeee", func := "twistlock/twistlocklaw15.MomentTurns", spec := "momentTurns", unfollowed := true, recurses := true, plainKeys := false, apart := false }
def MomentTurnsSaid : Prop := momentTurnsRow.holds Tryz.pinned (OpenSpec.ofChange momentTurnsSpec)

/-- ITS FALSE NEIGHBOUR: 'it returns false'. Refute it at one input. -/
def momentTurnsWrong : ChangeSpec := { name := "momentTurns", fn := fun _ => fun
  | [d1, d2, d3] => { results := [.lit (.bool false)], args := [d1, d2, d3] }
  | _ => none }
def MomentTurnsWrongFalsely : Prop := momentTurnsRow.holds Tryz.pinned (OpenSpec.ofChange momentTurnsWrong)

/-- 'twistlocklaw15.MomentStands': WHATEVER THE INPUT: true; the input reads as it did. -/
def momentStandsSpec : ChangeSpec := { name := "momentStands", fn := fun _ => fun
  | [d1, d2, d3] => { results := [.lit (.bool true)], args := [d1, d2, d3] }
  | _ => none }
def momentStandsRow : OpenClaim := { program := "ytfdjcakgolenbaagreat", sum := "f7e0ef095d4a967d056965a139431ab5f0c2576f75aaf624b74f1c462edffeee", func := "twistlock/twistlocklaw15.MomentStands", spec := "momentStands", unfollowed := true, recurses := true, plainKeys := false, apart := false }
def MomentStandsSaid : Prop := momentStandsRow.holds Tryz.pinned (OpenSpec.ofChange momentStandsSpec)

/-- ITS FALSE NEIGHBOUR: 'it returns false'. Refute it at one input. -/
def momentStandsWrong : ChangeSpec := { name := "momentStands", fn := fun _ => fun
  | [d1, d2, d3] => { results := [.lit (.bool false)], args := [d1, d2, d3] }
  | _ => none }
def MomentStandsWrongFalsely : Prop := momentStandsRow.holds Tryz.pinned (OpenSpec.ofChange momentStandsWrong)

/-- 'twistlocklaw15.MomentWrong': WHATEVER THE INPUT: true; the input reads as it did. -/
def momentWrongSpec : ChangeSpec := { name := "momentWrong", fn := fun _ => fun
  | [d1, d2, d3, d4, d5] => { results := [.lit (.bool true)], args := [d1, d2, d3, d4, d5] }
  | _ => none }
def momentWrongRow : OpenClaim := { program := "ytfdjcakgolenbaagreat", sum := "f7e0ef095d4a967d056965a139431ab5f0c2576f75aaf624b74f1c462edffeee", func := "twistlock/twistlocklaw15.MomentWrong", spec := "momentWrong", unfollowed := true, recurses := true, plainKeys := false, apart := false }
def MomentWrongSaid : Prop := momentWrongRow.holds Tryz.pinned (OpenSpec.ofChange momentWrongSpec)

/-- ITS FALSE NEIGHBOUR: 'it returns false'. Refute it at one input. -/
def momentWrongWrong : ChangeSpec := { name := "momentWrong", fn := fun _ => fun
  | [d1, d2, d3, d4, d5] => { results := [.lit (.bool false)], args := [d1, d2, d3, d4, d5] }
  | _ => none }
def MomentWrongWrongFalsely : Prop := momentWrongRow.holds Tryz.pinned (OpenSpec.ofChange momentWrongWrong)

/-- 'twistlocklaw15.MomentAdds': WHATEVER THE INPUT: true; the input reads as it did. -/
def momentAddsSpec : ChangeSpec := { name := "momentAdds", fn := fun _ => fun
  | [d1, d2, d3] => { results := [.lit (.bool true)], args := [d1, d2, d3] }
  | _ => none }
def momentAddsRow : OpenClaim := { program := "ytfdjcakgolenbaagreat", sum := "f7e0ef095d4a967d056965a139431ab5f0c2576f75aaf624b74f1c462edffeee", func := "twistlock/twistlocklaw15.MomentAdds", spec := "momentAdds", unfollowed := true, recurses := true, plainKeys := false, apart := false }
def MomentAddsSaid : Prop := momentAddsRow.holds Tryz.pinned (OpenSpec.ofChange momentAddsSpec)

/-- ITS FALSE NEIGHBOUR: 'it returns false'. Refute it at one input. -/
def momentAddsWrong : ChangeSpec := { name := "momentAdds", fn := fun _ => fun
  | [d1, d2, d3] => { results := [.lit (.bool false)], args := [d1, d2, d3] }
  | _ => none }
def MomentAddsWrongFalsely : Prop := momentAddsRow.holds Tryz.pinned (OpenSpec.ofChange momentAddsWrong)

/- THE SECOND FORM. 'bulk': how many values and letters a reading holds, each counted each time it is reached (what is shared counts as often as it is met; a slice's spare places count too). A statement '..UptoSaid' is the law's where the arguments, and the package variables that the reading takes, are together of bulk at most 1048576: NARROWER than '..Said'. Prove '..Said' where nothing that the law and all that it calls make is longer than what came in: it says more and counts as full. Else prove '..UptoSaid'. A law counts once. -/
mutual
def uptoBulk {H : Type} : DataW H → Nat
  | .lit (.string bytes) => bytes.length + 1
  | .lit _ => 1
  | .nil => 1
  | .ptr d => uptoBulk d + 1
  | .slice elems spare => uptoBulkAll elems + uptoBulkAll spare + 1
  | .agg parts => uptoBulkAll parts + 1
  | .iface _ d => uptoBulk d + 1
  | .map entries => uptoBulkEntries entries + 1
  | .held _ => 1
def uptoBulkAll {H : Type} : List (DataW H) → Nat
  | [] => 0
  | d :: r => uptoBulk d + uptoBulkAll r
def uptoBulkEntries {H : Type} : List (Lit × DataW H) → Nat
  | [] => 0
  | x :: r => uptoBulkEntry x + uptoBulkEntries r
def uptoBulkEntry {H : Type} : Lit × DataW H → Nat
  | (.string bytes, d) => bytes.length + uptoBulk d + 1
  | (_, d) => uptoBulk d + 1
 end
def uptoSmall : (H : Type) → List (DataW H) → Bool := fun _ ds => decide (uptoBulkAll ds ≤ 1048576)
def OpenSpec.upto (s : _root_.Go.ChangeSpec) : _root_.Go.OpenSpec := { _root_.Go.OpenSpec.ofChange s with cond := some uptoSmall }

/-- 'twistlocklaw15.MomentTells', WHERE WHAT IT READS IS OF BULK AT MOST 1048576: true; the input reads as it did. -/
def momentTellsUptoRow : OpenClaim := { program := "ytfdjcakgolenbaagreat", sum := "f7e0ef095d4a967d056965a139431ab5f0c2576f75aaf624b74f1c462edffeee", func := "twistlock/twistlocklaw15.MomentTells", spec := "momentTells", unfollowed := true, recurses := true, plainKeys := false, apart := false, narrowed := true }
def MomentTellsUptoSaid : Prop := momentTellsUptoRow.holds Tryz.pinned (OpenSpec.upto momentTellsSpec)

/-- 'twistlocklaw15.MomentSmall', WHERE WHAT IT READS IS OF BULK AT MOST 1048576: true; the input reads as it did. -/
def momentSmallUptoRow : OpenClaim := { program := "ytfdjcakgolenbaagreat", sum := "f7e0ef095d4a967d056965a139431ab5f0c2576f75aaf624b74f1c462edffeee", func := "twistlock/twistlocklaw15.MomentSmall", spec := "momentSmall", unfollowed := true, recurses := true, plainKeys := false, apart := false, narrowed := true }
def MomentSmallUptoSaid : Prop := momentSmallUptoRow.holds Tryz.pinned (OpenSpec.upto momentSmallSpec)

/-- 'twistlocklaw15.MomentTurns', WHERE WHAT IT READS IS OF BULK AT MOST 1048576: true; the input reads as it did. -/
def momentTurnsUptoRow : OpenClaim := { program := "ytfdjcakgolenbaagreat", sum := "f7e0ef095d4a967d056965a139431ab5f0c2576f75aaf624b74f1c462edffeee", func := "twistlock/twistlocklaw15.MomentTurns", spec := "momentTurns", unfollowed := true, recurses := true, plainKeys := false, apart := false, narrowed := true }
def MomentTurnsUptoSaid : Prop := momentTurnsUptoRow.holds Tryz.pinned (OpenSpec.upto momentTurnsSpec)

/-- 'twistlocklaw15.MomentStands', WHERE WHAT IT READS IS OF BULK AT MOST 1048576: true; the input reads as it did. -/
def momentStandsUptoRow : OpenClaim := { program := "ytfdjcakgolenbaagreat", sum := "f7e0ef095d4a967d056965a139431ab5f0c2576f75aaf624b74f1c462edffeee", func := "twistlock/twistlocklaw15.MomentStands", spec := "momentStands", unfollowed := true, recurses := true, plainKeys := false, apart := false, narrowed := true }
def MomentStandsUptoSaid : Prop := momentStandsUptoRow.holds Tryz.pinned (OpenSpec.upto momentStandsSpec)

/-- 'twistlocklaw15.MomentWrong', WHERE WHAT IT READS IS OF BULK AT MOST 1048576: true; the input reads as it did. -/
def momentWrongUptoRow : OpenClaim := { program := "ytfdjcakgolenbaagreat", sum := "f7e0ef095d4a967d056965a139431ab5f0c2576f75aaf624b74f1c462edffeee", func := "twistlock/twistlocklaw15.MomentWrong", spec := "momentWrong", unfollowed := true, recurses := true, plainKeys := false, apart := false, narrowed := true }
def MomentWrongUptoSaid : Prop := momentWrongUptoRow.holds Tryz.pinned (OpenSpec.upto momentWrongSpec)

/-- 'twistlocklaw15.MomentAdds', WHERE WHAT IT READS IS OF BULK AT MOST 1048576: true; the input reads as it did. -/
def momentAddsUptoRow : OpenClaim := { program := "ytfdjcakgolenbaagreat", sum := "f7e0ef095d4a967d056965a139431ab5f0c2576f75aaf624b74f1c462edffeee", func := "twistlock/twistlocklaw15.MomentAdds", spec := "momentAdds", unfollowed := true, recurses := true, plainKeys := false, apart := false, narrowed := true }
def MomentAddsUptoSaid : Prop := momentAddsUptoRow.holds Tryz.pinned (OpenSpec.upto momentAddsSpec)

end Rows
end Go.Proofs.YtfdjcakgolenbaaGreat
