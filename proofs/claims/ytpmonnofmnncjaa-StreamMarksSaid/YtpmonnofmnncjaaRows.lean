/-
  No cell of these rows narrows 'for every input' (looked for: loops, veiled, ifaces, maps, wideKeys, modest, calm, conditions, laid).
  DERIVED. THE GIVEN ROWS OF THIS SEAT. 5 by the template 'for every input the law returns true; each argument reads behind the call as it read before'; 0 by the template 'total and deterministic' (their statements: YtpmonnofmnncjaaTotals.lean).
  GIVEN WITH THE SEED: the statements are not yours to turn. If you find one false, say at which input.
  Laid BY PROGRAM, IN A SANDBOX (cutbox-rows.mjs): the forced cells as the released guide's own fill.sh prints them over the translation a58f2fc55c9cced6… (all of the seat's roots in one cut). By AI agents, Wed Nov 11 2026. No macro, syntax, notation, axiom, sorry.
-/
import Derived.Test.YtpmonnofmnncjaaChecked
import GoSem.Claim
import GoSem.ClaimJoined
import GoSem.ClaimMapViews
import Derived.JoinedTies
import Derived.KernelRfl
namespace Go.Proofs.Ytpmonnofmnncjaa
/- THE CELL 'sum', in the pinned program and in every row, IS THE sha256 OF THE DUMP (.gsa) THAT YtpmonnofmnncjaaProg.lean LOADS. Nothing in Lean hashes anything: it is a label: what it is worth is what the hold of that sum in a sandbox is worth. -/
noncomputable def Try.pinned : Pinned := { name := "ytpmonnofmnncjaa", sum := "a58f2fc55c9cced68c983e389844e928e199f1c469a3d867a6313fb55b66fd34", checked := Try.checked }
namespace Rows
def none {H : Type} : Left H := { results := [], args := [] }

/-- 'incipitlaw10.FilesNone': WHATEVER THE INPUT: true; the input reads as it did. -/
def filesNoneSpec : ChangeSpec := { name := "filesNone", fn := fun _ => fun
  | [] => { results := [.lit (.bool true)], args := [] }
  | _ => none }
def filesNoneRow : OpenClaim := { program := "ytpmonnofmnncjaa", sum := "a58f2fc55c9cced68c983e389844e928e199f1c469a3d867a6313fb55b66fd34", func := "incipit/incipitlaw10.FilesNone", spec := "filesNone", inPlace := ["maps.clone"], unfollowed := true, recurses := true, apart := false }
def FilesNoneSaid : Prop := filesNoneRow.holds Try.pinned (OpenSpec.ofChange filesNoneSpec)

/-- ITS FALSE NEIGHBOUR: 'it returns false'. Refute it at one input. -/
def filesNoneWrong : ChangeSpec := { name := "filesNone", fn := fun _ => fun
  | [] => { results := [.lit (.bool false)], args := [] }
  | _ => none }
def FilesNoneWrongFalsely : Prop := filesNoneRow.holds Try.pinned (OpenSpec.ofChange filesNoneWrong)

/-- 'incipitlaw10.FilesFail': WHATEVER THE INPUT: true; the input reads as it did. -/
def filesFailSpec : ChangeSpec := { name := "filesFail", fn := fun _ => fun
  | [d1, d2] => { results := [.lit (.bool true)], args := [d1, d2] }
  | _ => none }
def filesFailRow : OpenClaim := { program := "ytpmonnofmnncjaa", sum := "a58f2fc55c9cced68c983e389844e928e199f1c469a3d867a6313fb55b66fd34", func := "incipit/incipitlaw10.FilesFail", spec := "filesFail", inPlace := ["maps.clone"], unfollowed := true, recurses := true, apart := false }
def FilesFailSaid : Prop := filesFailRow.holds Try.pinned (OpenSpec.ofChange filesFailSpec)

/-- ITS FALSE NEIGHBOUR: 'it returns false'. Refute it at one input. -/
def filesFailWrong : ChangeSpec := { name := "filesFail", fn := fun _ => fun
  | [d1, d2] => { results := [.lit (.bool false)], args := [d1, d2] }
  | _ => none }
def FilesFailWrongFalsely : Prop := filesFailRow.holds Try.pinned (OpenSpec.ofChange filesFailWrong)

/-- 'incipitlaw5.StreamMarks': WHATEVER THE INPUT: true; the input reads as it did. -/
def streamMarksSpec : ChangeSpec := { name := "streamMarks", fn := fun _ => fun
  | [d1, d2] => { results := [.lit (.bool true)], args := [d1, d2] }
  | _ => none }
def streamMarksRow : OpenClaim := { program := "ytpmonnofmnncjaa", sum := "a58f2fc55c9cced68c983e389844e928e199f1c469a3d867a6313fb55b66fd34", func := "incipit/incipitlaw5.StreamMarks", spec := "streamMarks", unfollowed := true, recurses := true, apart := false }
def StreamMarksSaid : Prop := streamMarksRow.holds Try.pinned (OpenSpec.ofChange streamMarksSpec)

/-- ITS FALSE NEIGHBOUR: 'it returns false'. Refute it at one input. -/
def streamMarksWrong : ChangeSpec := { name := "streamMarks", fn := fun _ => fun
  | [d1, d2] => { results := [.lit (.bool false)], args := [d1, d2] }
  | _ => none }
def StreamMarksWrongFalsely : Prop := streamMarksRow.holds Try.pinned (OpenSpec.ofChange streamMarksWrong)

/-- 'incipitlaw10.FilesSwitch': WHATEVER THE INPUT: true; the input reads as it did. -/
def filesSwitchSpec : ChangeSpec := { name := "filesSwitch", fn := fun _ => fun
  | [d1, d2] => { results := [.lit (.bool true)], args := [d1, d2] }
  | _ => none }
def filesSwitchRow : OpenClaim := { program := "ytpmonnofmnncjaa", sum := "a58f2fc55c9cced68c983e389844e928e199f1c469a3d867a6313fb55b66fd34", func := "incipit/incipitlaw10.FilesSwitch", spec := "filesSwitch", inPlace := ["maps.clone"], unfollowed := true, recurses := true, apart := false }
def FilesSwitchSaid : Prop := filesSwitchRow.holds Try.pinned (OpenSpec.ofChange filesSwitchSpec)

/-- ITS FALSE NEIGHBOUR: 'it returns false'. Refute it at one input. -/
def filesSwitchWrong : ChangeSpec := { name := "filesSwitch", fn := fun _ => fun
  | [d1, d2] => { results := [.lit (.bool false)], args := [d1, d2] }
  | _ => none }
def FilesSwitchWrongFalsely : Prop := filesSwitchRow.holds Try.pinned (OpenSpec.ofChange filesSwitchWrong)

/-- 'incipitlaw10.FilesTail': WHATEVER THE INPUT: true; the input reads as it did. -/
def filesTailSpec : ChangeSpec := { name := "filesTail", fn := fun _ => fun
  | [d1, d2, d3] => { results := [.lit (.bool true)], args := [d1, d2, d3] }
  | _ => none }
def filesTailRow : OpenClaim := { program := "ytpmonnofmnncjaa", sum := "a58f2fc55c9cced68c983e389844e928e199f1c469a3d867a6313fb55b66fd34", func := "incipit/incipitlaw10.FilesTail", spec := "filesTail", inPlace := ["maps.clone"], unfollowed := true, recurses := true, apart := false }
def FilesTailSaid : Prop := filesTailRow.holds Try.pinned (OpenSpec.ofChange filesTailSpec)

/-- ITS FALSE NEIGHBOUR: 'it returns false'. Refute it at one input. -/
def filesTailWrong : ChangeSpec := { name := "filesTail", fn := fun _ => fun
  | [d1, d2, d3] => { results := [.lit (.bool false)], args := [d1, d2, d3] }
  | _ => none }
def FilesTailWrongFalsely : Prop := filesTailRow.holds Try.pinned (OpenSpec.ofChange filesTailWrong)

/- THE SECOND FORM. 'bulk': how many values and letters a reading holds, each counted each time it is reached (what is shared counts as often as it is met; a slice's spare places count too). A statement '..UptoSaid' is the law's where the arguments, and the package variables that the reading takes, are together of bulk at most 1048576: NARROWER than '..Said'. Prove '..Said' where nothing that the law and all that it calls make is longer than what came in: it says more and counts as full. Else prove '..UptoSaid'. A law counts once. -/
mutual
def uptoBulk {H : Type} : DataW H → Nat
  | .lit (.string bytes) => bytes.length + 1
  | .lit _ => 1
  | .nil => 1
  | .ptr d => uptoBulk d + 1
  | .slice elems spare => uptoBulkAll elems + uptoBulkAll spare + 1
  | .agg parts => uptoBulkAll parts + 1
  | .iface _ d => uptoBulk d + 1
  | .map entries => uptoBulkEntries entries + 1
  | .held _ => 1
def uptoBulkAll {H : Type} : List (DataW H) → Nat
  | [] => 0
  | d :: r => uptoBulk d + uptoBulkAll r
def uptoBulkEntries {H : Type} : List (Lit × DataW H) → Nat
  | [] => 0
  | x :: r => uptoBulkEntry x + uptoBulkEntries r
def uptoBulkEntry {H : Type} : Lit × DataW H → Nat
  | (.string bytes, d) => bytes.length + uptoBulk d + 1
  | (_, d) => uptoBulk d + 1
 end
def uptoSmall : (H : Type) → List (DataW H) → Bool := fun _ ds => decide (uptoBulkAll ds ≤ 1048576)
def OpenSpec.upto (s : _root_.Go.ChangeSpec) : _root_.Go.OpenSpec := { _root_.Go.OpenSpec.ofChange s with cond := some uptoSmall }

/-- 'incipitlaw10.FilesNone', WHERE WHAT IT READS IS OF BULK AT MOST 1048576: true; the input reads as it did. -/
def filesNoneUptoRow : OpenClaim := { program := "ytpmonnofmnncjaa", sum := "a58f2fc55c9cced68c983e389844e928e199f1c469a3d867a6313fb55b66fd34", func := "incipit/incipitlaw10.FilesNone", spec := "filesNone", inPlace := ["maps.clone"], unfollowed := true, recurses := true, apart := false, narrowed := true }
def FilesNoneUptoSaid : Prop := filesNoneUptoRow.holds Try.pinned (OpenSpec.upto filesNoneSpec)

/-- 'incipitlaw10.FilesFail', WHERE WHAT IT READS IS OF BULK AT MOST 1048576: true; the input reads as it did. -/
def filesFailUptoRow : OpenClaim := { program := "ytpmonnofmnncjaa", sum := "a58f2fc55c9cced68c983e389844e928e199f1c469a3d867a6313fb55b66fd34", func := "incipit/incipitlaw10.FilesFail", spec := "filesFail", inPlace := ["maps.clone"], unfollowed := true, recurses := true, apart := false, narrowed := true }
def FilesFailUptoSaid : Prop := filesFailUptoRow.holds Try.pinned (OpenSpec.upto filesFailSpec)

/-- 'incipitlaw5.StreamMarks', WHERE WHAT IT READS IS OF BULK AT MOST 1048576: true; the input reads as it did. -/
def streamMarksUptoRow : OpenClaim := { program := "ytpmonnofmnncjaa", sum := "a58f2fc55c9cced68c983e389844e928e199f1c469a3d867a6313fb55b66fd34", func := "incipit/incipitlaw5.StreamMarks", spec := "streamMarks", unfollowed := true, recurses := true, apart := false, narrowed := true }
def StreamMarksUptoSaid : Prop := streamMarksUptoRow.holds Try.pinned (OpenSpec.upto streamMarksSpec)

/-- 'incipitlaw10.FilesSwitch', WHERE WHAT IT READS IS OF BULK AT MOST 1048576: true; the input reads as it did. -/
def filesSwitchUptoRow : OpenClaim := { program := "ytpmonnofmnncjaa", sum := "a58f2fc55c9cced68c983e389844e928e199f1c469a3d867a6313fb55b66fd34", func := "incipit/incipitlaw10.FilesSwitch", spec := "filesSwitch", inPlace := ["maps.clone"], unfollowed := true, recurses := true, apart := false, narrowed := true }
def FilesSwitchUptoSaid : Prop := filesSwitchUptoRow.holds Try.pinned (OpenSpec.upto filesSwitchSpec)

/-- 'incipitlaw10.FilesTail', WHERE WHAT IT READS IS OF BULK AT MOST 1048576: true; the input reads as it did. -/
def filesTailUptoRow : OpenClaim := { program := "ytpmonnofmnncjaa", sum := "a58f2fc55c9cced68c983e389844e928e199f1c469a3d867a6313fb55b66fd34", func := "incipit/incipitlaw10.FilesTail", spec := "filesTail", inPlace := ["maps.clone"], unfollowed := true, recurses := true, apart := false, narrowed := true }
def FilesTailUptoSaid : Prop := filesTailUptoRow.holds Try.pinned (OpenSpec.upto filesTailSpec)

end Rows
end Go.Proofs.Ytpmonnofmnncjaa
