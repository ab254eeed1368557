/-
  No cell of these rows narrows 'for every input' (looked for: loops, veiled, ifaces, maps, wideKeys, modest, calm, conditions, laid).
  DERIVED. THE GIVEN ROWS OF THIS SEAT. 8 by the template 'for every input the law returns true; each argument reads behind the call as it read before'; 0 by the template 'total and deterministic' (their statements: YtjhijcehcklipaaTotals.lean).
  GIVEN WITH THE SEED: the statements are not yours to turn. If you find one false, say at which input.
  Laid BY PROGRAM, IN A SANDBOX (cutbox-rows.mjs): the forced cells as the released guide's own fill.sh prints them over the translation cbfc6e8170bada04… (all of the seat's roots in one cut). By AI agents, Wed Nov 11 2026. No macro, syntax, notation, axiom, sorry.
-/
import Derived.Test.YtjhijcehcklipaaChecked
import GoSem.Claim
import GoSem.ClaimJoined
import GoSem.ClaimMapViews
import Derived.JoinedTies
import Derived.KernelRfl
namespace Go.Proofs.Ytjhijcehcklipaa
/- THE CELL 'sum', in the pinned program and in every row, IS THE sha256 OF THE DUMP (.gsa) THAT YtjhijcehcklipaaProg.lean LOADS. Nothing in Lean hashes anything: it is a label: what it is worth is what the hold of that sum in a sandbox is worth. -/
noncomputable def Try.pinned : Pinned := { name := "ytjhijcehcklipaa", sum := "cbfc6e8170bada0426c4b59e11c60018d1b37704f6aa8267cc5f0dcbef60901f", checked := Try.checked }
namespace Rows
def none {H : Type} : Left H := { results := [], args := [] }

/-- 'incipitlaw10.FilesTail': WHATEVER THE INPUT: true; the input reads as it did. -/
def filesTailSpec : ChangeSpec := { name := "filesTail", fn := fun _ => fun
  | [d1, d2, d3] => { results := [.lit (.bool true)], args := [d1, d2, d3] }
  | _ => none }
def filesTailRow : OpenClaim := { program := "ytjhijcehcklipaa", sum := "cbfc6e8170bada0426c4b59e11c60018d1b37704f6aa8267cc5f0dcbef60901f", func := "incipit/incipitlaw10.FilesTail", spec := "filesTail", inPlace := ["maps.clone"], unfollowed := true, recurses := true, apart := false }
def FilesTailSaid : Prop := filesTailRow.holds Try.pinned (OpenSpec.ofChange filesTailSpec)

/-- ITS FALSE NEIGHBOUR: 'it returns false'. Refute it at one input. -/
def filesTailWrong : ChangeSpec := { name := "filesTail", fn := fun _ => fun
  | [d1, d2, d3] => { results := [.lit (.bool false)], args := [d1, d2, d3] }
  | _ => none }
def FilesTailWrongFalsely : Prop := filesTailRow.holds Try.pinned (OpenSpec.ofChange filesTailWrong)

/-- 'incipitlaw10.FilesSwitch': WHATEVER THE INPUT: true; the input reads as it did. -/
def filesSwitchSpec : ChangeSpec := { name := "filesSwitch", fn := fun _ => fun
  | [d1, d2] => { results := [.lit (.bool true)], args := [d1, d2] }
  | _ => none }
def filesSwitchRow : OpenClaim := { program := "ytjhijcehcklipaa", sum := "cbfc6e8170bada0426c4b59e11c60018d1b37704f6aa8267cc5f0dcbef60901f", func := "incipit/incipitlaw10.FilesSwitch", spec := "filesSwitch", inPlace := ["maps.clone"], unfollowed := true, recurses := true, apart := false }
def FilesSwitchSaid : Prop := filesSwitchRow.holds Try.pinned (OpenSpec.ofChange filesSwitchSpec)

/-- ITS FALSE NEIGHBOUR: 'it returns false'. Refute it at one input. -/
def filesSwitchWrong : ChangeSpec := { name := "filesSwitch", fn := fun _ => fun
  | [d1, d2] => { results := [.lit (.bool false)], args := [d1, d2] }
  | _ => none }
def FilesSwitchWrongFalsely : Prop := filesSwitchRow.holds Try.pinned (OpenSpec.ofChange filesSwitchWrong)

/-- 'incipitlaw20.VersionSpan': WHATEVER THE INPUT: true; the input reads as it did. -/
def versionSpanSpec : ChangeSpec := { name := "versionSpan", fn := fun _ => fun
  | [d1, d2, d3] => { results := [.lit (.bool true)], args := [d1, d2, d3] }
  | _ => none }
def versionSpanRow : OpenClaim := { program := "ytjhijcehcklipaa", sum := "cbfc6e8170bada0426c4b59e11c60018d1b37704f6aa8267cc5f0dcbef60901f", func := "incipit/incipitlaw20.VersionSpan", spec := "versionSpan", inPlace := ["internal/bytealg.abigen_runtime_cmpstring"], unfollowed := true, recurses := true, apart := false }
def VersionSpanSaid : Prop := versionSpanRow.holds Try.pinned (OpenSpec.ofChange versionSpanSpec)

/-- ITS FALSE NEIGHBOUR: 'it returns false'. Refute it at one input. -/
def versionSpanWrong : ChangeSpec := { name := "versionSpan", fn := fun _ => fun
  | [d1, d2, d3] => { results := [.lit (.bool false)], args := [d1, d2, d3] }
  | _ => none }
def VersionSpanWrongFalsely : Prop := versionSpanRow.holds Try.pinned (OpenSpec.ofChange versionSpanWrong)

/-- 'incipitlaw20.VersionMoves': WHATEVER THE INPUT: true; the input reads as it did. -/
def versionMovesSpec : ChangeSpec := { name := "versionMoves", fn := fun _ => fun
  | [d1, d2] => { results := [.lit (.bool true)], args := [d1, d2] }
  | _ => none }
def versionMovesRow : OpenClaim := { program := "ytjhijcehcklipaa", sum := "cbfc6e8170bada0426c4b59e11c60018d1b37704f6aa8267cc5f0dcbef60901f", func := "incipit/incipitlaw20.VersionMoves", spec := "versionMoves", inPlace := ["internal/bytealg.abigen_runtime_cmpstring"], unfollowed := true, recurses := true, apart := false }
def VersionMovesSaid : Prop := versionMovesRow.holds Try.pinned (OpenSpec.ofChange versionMovesSpec)

/-- ITS FALSE NEIGHBOUR: 'it returns false'. Refute it at one input. -/
def versionMovesWrong : ChangeSpec := { name := "versionMoves", fn := fun _ => fun
  | [d1, d2] => { results := [.lit (.bool false)], args := [d1, d2] }
  | _ => none }
def VersionMovesWrongFalsely : Prop := versionMovesRow.holds Try.pinned (OpenSpec.ofChange versionMovesWrong)

/-- 'incipitlaw22.PickLevels': WHATEVER THE INPUT: true; the input reads as it did. -/
def pickLevelsSpec : ChangeSpec := { name := "pickLevels", fn := fun _ => fun
  | [d] => { results := [.lit (.bool true)], args := [d] }
  | _ => none }
def pickLevelsRow : OpenClaim := { program := "ytjhijcehcklipaa", sum := "cbfc6e8170bada0426c4b59e11c60018d1b37704f6aa8267cc5f0dcbef60901f", func := "incipit/incipitlaw22.PickLevels", spec := "pickLevels", inPlace := ["internal/bytealg.abigen_runtime_cmpstring"], unfollowed := true, recurses := true, apart := false }
def PickLevelsSaid : Prop := pickLevelsRow.holds Try.pinned (OpenSpec.ofChange pickLevelsSpec)

/-- ITS FALSE NEIGHBOUR: 'it returns false'. Refute it at one input. -/
def pickLevelsWrong : ChangeSpec := { name := "pickLevels", fn := fun _ => fun
  | [d] => { results := [.lit (.bool false)], args := [d] }
  | _ => none }
def PickLevelsWrongFalsely : Prop := pickLevelsRow.holds Try.pinned (OpenSpec.ofChange pickLevelsWrong)

/-- 'incipitlaw20.VersionApart': WHATEVER THE INPUT: true; the input reads as it did. -/
def versionApartSpec : ChangeSpec := { name := "versionApart", fn := fun _ => fun
  | [d] => { results := [.lit (.bool true)], args := [d] }
  | _ => none }
def versionApartRow : OpenClaim := { program := "ytjhijcehcklipaa", sum := "cbfc6e8170bada0426c4b59e11c60018d1b37704f6aa8267cc5f0dcbef60901f", func := "incipit/incipitlaw20.VersionApart", spec := "versionApart", inPlace := ["internal/bytealg.abigen_runtime_cmpstring"], unfollowed := true, recurses := true, apart := false }
def VersionApartSaid : Prop := versionApartRow.holds Try.pinned (OpenSpec.ofChange versionApartSpec)

/-- ITS FALSE NEIGHBOUR: 'it returns false'. Refute it at one input. -/
def versionApartWrong : ChangeSpec := { name := "versionApart", fn := fun _ => fun
  | [d] => { results := [.lit (.bool false)], args := [d] }
  | _ => none }
def VersionApartWrongFalsely : Prop := versionApartRow.holds Try.pinned (OpenSpec.ofChange versionApartWrong)

/-- 'incipitlaw20.VersionAll': WHATEVER THE INPUT: true; the input reads as it did. -/
def versionAllSpec : ChangeSpec := { name := "versionAll", fn := fun _ => fun
  | [d1, d2, d3, d4] => { results := [.lit (.bool true)], args := [d1, d2, d3, d4] }
  | _ => none }
def versionAllRow : OpenClaim := { program := "ytjhijcehcklipaa", sum := "cbfc6e8170bada0426c4b59e11c60018d1b37704f6aa8267cc5f0dcbef60901f", func := "incipit/incipitlaw20.VersionAll", spec := "versionAll", inPlace := ["internal/bytealg.abigen_runtime_cmpstring"], unfollowed := true, recurses := true, apart := false }
def VersionAllSaid : Prop := versionAllRow.holds Try.pinned (OpenSpec.ofChange versionAllSpec)

/-- ITS FALSE NEIGHBOUR: 'it returns false'. Refute it at one input. -/
def versionAllWrong : ChangeSpec := { name := "versionAll", fn := fun _ => fun
  | [d1, d2, d3, d4] => { results := [.lit (.bool false)], args := [d1, d2, d3, d4] }
  | _ => none }
def VersionAllWrongFalsely : Prop := versionAllRow.holds Try.pinned (OpenSpec.ofChange versionAllWrong)

/-- 'incipitlaw22.PickAll': WHATEVER THE INPUT: true; the input reads as it did. -/
def pickAllSpec : ChangeSpec := { name := "pickAll", fn := fun _ => fun
  | [d] => { results := [.lit (.bool true)], args := [d] }
  | _ => none }
def pickAllRow : OpenClaim := { program := "ytjhijcehcklipaa", sum := "cbfc6e8170bada0426c4b59e11c60018d1b37704f6aa8267cc5f0dcbef60901f", func := "incipit/incipitlaw22.PickAll", spec := "pickAll", inPlace := ["internal/bytealg.abigen_runtime_cmpstring"], unfollowed := true, recurses := true, apart := false }
def PickAllSaid : Prop := pickAllRow.holds Try.pinned (OpenSpec.ofChange pickAllSpec)

/-- ITS FALSE NEIGHBOUR: 'it returns false'. Refute it at one input. -/
def pickAllWrong : ChangeSpec := { name := "pickAll", fn := fun _ => fun
  | [d] => { results := [.lit (.bool false)], args := [d] }
  | _ => none }
def PickAllWrongFalsely : Prop := pickAllRow.holds Try.pinned (OpenSpec.ofChange pickAllWrong)

/- THE SECOND FORM. 'bulk': how many values and letters a reading holds, each counted each time it is reached (what is shared counts as often as it is met; a slice's spare places count too). A statement '..UptoSaid' is the law's where the arguments, and the package variables that the reading takes, are together of bulk at most 1048576: NARROWER than '..Said'. Prove '..Said' where nothing that the law and all that it calls make is longer than what came in: it says more and counts as full. Else prove '..UptoSaid'. A law counts once. -/
mutual
def uptoBulk {H : Type} : DataW H → Nat
  | .lit (.string bytes) => bytes.length + 1
  | .lit _ => 1
  | .nil => 1
  | .ptr d => uptoBulk d + 1
  | .slice elems spare => uptoBulkAll elems + uptoBulkAll spare + 1
  | .agg parts => uptoBulkAll parts + 1
  | .iface _ d => uptoBulk d + 1
  | .map entries => uptoBulkEntries entries + 1
  | .held _ => 1
def uptoBulkAll {H : Type} : List (DataW H) → Nat
  | [] => 0
  | d :: r => uptoBulk d + uptoBulkAll r
def uptoBulkEntries {H : Type} : List (Lit × DataW H) → Nat
  | [] => 0
  | x :: r => uptoBulkEntry x + uptoBulkEntries r
def uptoBulkEntry {H : Type} : Lit × DataW H → Nat
  | (.string bytes, d) => bytes.length + uptoBulk d + 1
  | (_, d) => uptoBulk d + 1
 end
def uptoSmall : (H : Type) → List (DataW H) → Bool := fun _ ds => decide (uptoBulkAll ds ≤ 1048576)
def OpenSpec.upto (s : _root_.Go.ChangeSpec) : _root_.Go.OpenSpec := { _root_.Go.OpenSpec.ofChange s with cond := some uptoSmall }

/-- 'incipitlaw10.FilesTail', WHERE WHAT IT READS IS OF BULK AT MOST 1048576: true; the input reads as it did. -/
def filesTailUptoRow : OpenClaim := { program := "ytjhijcehcklipaa", sum := "cbfc6e8170bada0426c4b59e11c60018d1b37704f6aa8267cc5f0dcbef60901f", func := "incipit/incipitlaw10.FilesTail", spec := "filesTail", inPlace := ["maps.clone"], unfollowed := true, recurses := true, apart := false, narrowed := true }
def FilesTailUptoSaid : Prop := filesTailUptoRow.holds Try.pinned (OpenSpec.upto filesTailSpec)

/-- 'incipitlaw10.FilesSwitch', WHERE WHAT IT READS IS OF BULK AT MOST 1048576: true; the input reads as it did. -/
def filesSwitchUptoRow : OpenClaim := { program := "ytjhijcehcklipaa", sum := "cbfc6e8170bada0426c4b59e11c60018d1b37704f6aa8267cc5f0dcbef60901f", func := "incipit/incipitlaw10.FilesSwitch", spec := "filesSwitch", inPlace := ["maps.clone"], unfollowed := true, recurses := true, apart := false, narrowed := true }
def FilesSwitchUptoSaid : Prop := filesSwitchUptoRow.holds Try.pinned (OpenSpec.upto filesSwitchSpec)

/-- 'incipitlaw20.VersionSpan', WHERE WHAT IT READS IS OF BULK AT MOST 1048576: true; the input reads as it did. -/
def versionSpanUptoRow : OpenClaim := { program := "ytjhijcehcklipaa", sum := "cbfc6e8170bada0426c4b59e11c60018d1b37704f6aa8267cc5f0dcbef60901f", func := "incipit/incipitlaw20.VersionSpan", spec := "versionSpan", inPlace := ["internal/bytealg.abigen_runtime_cmpstring"], unfollowed := true, recurses := true, apart := false, narrowed := true }
def VersionSpanUptoSaid : Prop := versionSpanUptoRow.holds Try.pinned (OpenSpec.upto versionSpanSpec)

/-- 'incipitlaw20.VersionMoves', WHERE WHAT IT READS IS OF BULK AT MOST 1048576: true; the input reads as it did. -/
def versionMovesUptoRow : OpenClaim := { program := "ytjhijcehcklipaa", sum := "cbfc6e8170bada0426c4b59e11c60018d1b37704f6aa8267cc5f0dcbef60901f", func := "incipit/incipitlaw20.VersionMoves", spec := "versionMoves", inPlace := ["internal/bytealg.abigen_runtime_cmpstring"], unfollowed := true, recurses := true, apart := false, narrowed := true }
def VersionMovesUptoSaid : Prop := versionMovesUptoRow.holds Try.pinned (OpenSpec.upto versionMovesSpec)

/-- 'incipitlaw22.PickLevels', WHERE WHAT IT READS IS OF BULK AT MOST 1048576: true; the input reads as it did. -/
def pickLevelsUptoRow : OpenClaim := { program := "ytjhijcehcklipaa", sum := "cbfc6e8170bada0426c4b59e11c60018d1b37704f6aa8267cc5f0dcbef60901f", func := "incipit/incipitlaw22.PickLevels", spec := "pickLevels", inPlace := ["internal/bytealg.abigen_runtime_cmpstring"], unfollowed := true, recurses := true, apart := false, narrowed := true }
def PickLevelsUptoSaid : Prop := pickLevelsUptoRow.holds Try.pinned (OpenSpec.upto pickLevelsSpec)

/-- 'incipitlaw20.VersionApart', WHERE WHAT IT READS IS OF BULK AT MOST 1048576: true; the input reads as it did. -/
def versionApartUptoRow : OpenClaim := { program := "ytjhijcehcklipaa", sum := "cbfc6e8170bada0426c4b59e11c60018d1b37704f6aa8267cc5f0dcbef60901f", func := "incipit/incipitlaw20.VersionApart", spec := "versionApart", inPlace := ["internal/bytealg.abigen_runtime_cmpstring"], unfollowed := true, recurses := true, apart := false, narrowed := true }
def VersionApartUptoSaid : Prop := versionApartUptoRow.holds Try.pinned (OpenSpec.upto versionApartSpec)

/-- 'incipitlaw20.VersionAll', WHERE WHAT IT READS IS OF BULK AT MOST 1048576: true; the input reads as it did. -/
def versionAllUptoRow : OpenClaim := { program := "ytjhijcehcklipaa", sum := "cbfc6e8170bada0426c4b59e11c60018d1b37704f6aa8267cc5f0dcbef60901f", func := "incipit/incipitlaw20.VersionAll", spec := "versionAll", inPlace := ["internal/bytealg.abigen_runtime_cmpstring"], unfollowed := true, recurses := true, apart := false, narrowed := true }
def VersionAllUptoSaid : Prop := versionAllUptoRow.holds Try.pinned (OpenSpec.upto versionAllSpec)

/-- 'incipitlaw22.PickAll', WHERE WHAT IT READS IS OF BULK AT MOST 1048576: true; the input reads as it did. -/
def pickAllUptoRow : OpenClaim := { program := "ytjhijcehcklipaa", sum := "cbfc6e8170bada0426c4b59e11c60018d1b37704f6aa8267cc5f0dcbef60901f", func := "incipit/incipitlaw22.PickAll", spec := "pickAll", inPlace := ["internal/bytealg.abigen_runtime_cmpstring"], unfollowed := true, recurses := true, apart := false, narrowed := true }
def PickAllUptoSaid : Prop := pickAllUptoRow.holds Try.pinned (OpenSpec.upto pickAllSpec)

end Rows
end Go.Proofs.Ytjhijcehcklipaa
