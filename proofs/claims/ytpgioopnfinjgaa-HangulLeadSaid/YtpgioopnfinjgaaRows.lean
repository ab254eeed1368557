/-
  No cell of these rows narrows 'for every input' (looked for: loops, veiled, ifaces, maps, wideKeys, modest, calm, conditions, laid).
  DERIVED. THE GIVEN ROWS OF THIS SEAT. 8 by the template 'for every input the law returns true; each argument reads behind the call as it read before'; 0 by the template 'total and deterministic' (their statements: YtpgioopnfinjgaaTotals.lean).
  GIVEN WITH THE SEED: the statements are not yours to turn. If you find one false, say at which input.
  Laid BY PROGRAM, IN A SANDBOX (cutbox-rows.mjs): the forced cells as the released guide's own fill.sh prints them over the translation 64b945b0069bbdf8… (all of the seat's roots in one cut). By AI agents, Wed Nov 11 2026. No macro, syntax, notation, axiom, sorry.
-/
import Derived.Test.YtpgioopnfinjgaaChecked
import GoSem.Claim
import GoSem.ClaimJoined
import GoSem.ClaimMapViews
import Derived.JoinedTies
import Derived.KernelRfl
namespace Go.Proofs.Ytpgioopnfinjgaa
/- THE CELL 'sum', in the pinned program and in every row, IS THE sha256 OF THE DUMP (.gsa) THAT YtpgioopnfinjgaaProg.lean LOADS. Nothing in Lean hashes anything: it is a label: what it is worth is what the hold of that sum in a sandbox is worth. -/
noncomputable def Try.pinned : Pinned := { name := "ytpgioopnfinjgaa", sum := "64b945b0069bbdf814b8dabf97ee9de7a74e46ee4ab67f8e0236a712d10b2ae5", checked := Try.checked }
namespace Rows
def none {H : Type} : Left H := { results := [], args := [] }

/-- 'incipitlaw3.HangulSplit': WHATEVER THE INPUT: true; the input reads as it did. -/
def hangulSplitSpec : ChangeSpec := { name := "hangulSplit", fn := fun _ => fun
  | [d] => { results := [.lit (.bool true)], args := [d] }
  | _ => none }
def hangulSplitRow : OpenClaim := { program := "ytpgioopnfinjgaa", sum := "64b945b0069bbdf814b8dabf97ee9de7a74e46ee4ab67f8e0236a712d10b2ae5", func := "incipit/incipitlaw3.HangulSplit", spec := "hangulSplit", apart := false }
def HangulSplitSaid : Prop := hangulSplitRow.holds Try.pinned (OpenSpec.ofChange hangulSplitSpec)

/-- ITS FALSE NEIGHBOUR: 'it returns false'. Refute it at one input. -/
def hangulSplitWrong : ChangeSpec := { name := "hangulSplit", fn := fun _ => fun
  | [d] => { results := [.lit (.bool false)], args := [d] }
  | _ => none }
def HangulSplitWrongFalsely : Prop := hangulSplitRow.holds Try.pinned (OpenSpec.ofChange hangulSplitWrong)

/-- 'incipitlaw3.HangulLead': WHATEVER THE INPUT: true; the input reads as it did. -/
def hangulLeadSpec : ChangeSpec := { name := "hangulLead", fn := fun _ => fun
  | [d] => { results := [.lit (.bool true)], args := [d] }
  | _ => none }
def hangulLeadRow : OpenClaim := { program := "ytpgioopnfinjgaa", sum := "64b945b0069bbdf814b8dabf97ee9de7a74e46ee4ab67f8e0236a712d10b2ae5", func := "incipit/incipitlaw3.HangulLead", spec := "hangulLead", apart := false }
def HangulLeadSaid : Prop := hangulLeadRow.holds Try.pinned (OpenSpec.ofChange hangulLeadSpec)

/-- ITS FALSE NEIGHBOUR: 'it returns false'. Refute it at one input. -/
def hangulLeadWrong : ChangeSpec := { name := "hangulLead", fn := fun _ => fun
  | [d] => { results := [.lit (.bool false)], args := [d] }
  | _ => none }
def HangulLeadWrongFalsely : Prop := hangulLeadRow.holds Try.pinned (OpenSpec.ofChange hangulLeadWrong)

/-- 'incipitlaw1.UtfRead': WHATEVER THE INPUT: true; the input reads as it did. -/
def utfReadSpec : ChangeSpec := { name := "utfRead", fn := fun _ => fun
  | [d] => { results := [.lit (.bool true)], args := [d] }
  | _ => none }
def utfReadRow : OpenClaim := { program := "ytpgioopnfinjgaa", sum := "64b945b0069bbdf814b8dabf97ee9de7a74e46ee4ab67f8e0236a712d10b2ae5", func := "incipit/incipitlaw1.UtfRead", spec := "utfRead", apart := false }
def UtfReadSaid : Prop := utfReadRow.holds Try.pinned (OpenSpec.ofChange utfReadSpec)

/-- ITS FALSE NEIGHBOUR: 'it returns false'. Refute it at one input. -/
def utfReadWrong : ChangeSpec := { name := "utfRead", fn := fun _ => fun
  | [d] => { results := [.lit (.bool false)], args := [d] }
  | _ => none }
def UtfReadWrongFalsely : Prop := utfReadRow.holds Try.pinned (OpenSpec.ofChange utfReadWrong)

/-- 'incipitlaw1.UtfWrite': WHATEVER THE INPUT: true; the input reads as it did. -/
def utfWriteSpec : ChangeSpec := { name := "utfWrite", fn := fun _ => fun
  | [d] => { results := [.lit (.bool true)], args := [d] }
  | _ => none }
def utfWriteRow : OpenClaim := { program := "ytpgioopnfinjgaa", sum := "64b945b0069bbdf814b8dabf97ee9de7a74e46ee4ab67f8e0236a712d10b2ae5", func := "incipit/incipitlaw1.UtfWrite", spec := "utfWrite", apart := false }
def UtfWriteSaid : Prop := utfWriteRow.holds Try.pinned (OpenSpec.ofChange utfWriteSpec)

/-- ITS FALSE NEIGHBOUR: 'it returns false'. Refute it at one input. -/
def utfWriteWrong : ChangeSpec := { name := "utfWrite", fn := fun _ => fun
  | [d] => { results := [.lit (.bool false)], args := [d] }
  | _ => none }
def UtfWriteWrongFalsely : Prop := utfWriteRow.holds Try.pinned (OpenSpec.ofChange utfWriteWrong)

/-- 'incipitlaw1.UtfFour': WHATEVER THE INPUT: true; the input reads as it did. -/
def utfFourSpec : ChangeSpec := { name := "utfFour", fn := fun _ => fun
  | [d1, d2, d3, d4] => { results := [.lit (.bool true)], args := [d1, d2, d3, d4] }
  | _ => none }
def utfFourRow : OpenClaim := { program := "ytpgioopnfinjgaa", sum := "64b945b0069bbdf814b8dabf97ee9de7a74e46ee4ab67f8e0236a712d10b2ae5", func := "incipit/incipitlaw1.UtfFour", spec := "utfFour", apart := false }
def UtfFourSaid : Prop := utfFourRow.holds Try.pinned (OpenSpec.ofChange utfFourSpec)

/-- ITS FALSE NEIGHBOUR: 'it returns false'. Refute it at one input. -/
def utfFourWrong : ChangeSpec := { name := "utfFour", fn := fun _ => fun
  | [d1, d2, d3, d4] => { results := [.lit (.bool false)], args := [d1, d2, d3, d4] }
  | _ => none }
def UtfFourWrongFalsely : Prop := utfFourRow.holds Try.pinned (OpenSpec.ofChange utfFourWrong)

/-- 'incipitlaw1.UtfCut': WHATEVER THE INPUT: true; the input reads as it did. -/
def utfCutSpec : ChangeSpec := { name := "utfCut", fn := fun _ => fun
  | [d1, d2, d3] => { results := [.lit (.bool true)], args := [d1, d2, d3] }
  | _ => none }
def utfCutRow : OpenClaim := { program := "ytpgioopnfinjgaa", sum := "64b945b0069bbdf814b8dabf97ee9de7a74e46ee4ab67f8e0236a712d10b2ae5", func := "incipit/incipitlaw1.UtfCut", spec := "utfCut", apart := false }
def UtfCutSaid : Prop := utfCutRow.holds Try.pinned (OpenSpec.ofChange utfCutSpec)

/-- ITS FALSE NEIGHBOUR: 'it returns false'. Refute it at one input. -/
def utfCutWrong : ChangeSpec := { name := "utfCut", fn := fun _ => fun
  | [d1, d2, d3] => { results := [.lit (.bool false)], args := [d1, d2, d3] }
  | _ => none }
def UtfCutWrongFalsely : Prop := utfCutRow.holds Try.pinned (OpenSpec.ofChange utfCutWrong)

/-- 'incipitlaw1.UtfLong': WHATEVER THE INPUT: true; the input reads as it did. -/
def utfLongSpec : ChangeSpec := { name := "utfLong", fn := fun _ => fun
  | [d] => { results := [.lit (.bool true)], args := [d] }
  | _ => none }
def utfLongRow : OpenClaim := { program := "ytpgioopnfinjgaa", sum := "64b945b0069bbdf814b8dabf97ee9de7a74e46ee4ab67f8e0236a712d10b2ae5", func := "incipit/incipitlaw1.UtfLong", spec := "utfLong", apart := false }
def UtfLongSaid : Prop := utfLongRow.holds Try.pinned (OpenSpec.ofChange utfLongSpec)

/-- ITS FALSE NEIGHBOUR: 'it returns false'. Refute it at one input. -/
def utfLongWrong : ChangeSpec := { name := "utfLong", fn := fun _ => fun
  | [d] => { results := [.lit (.bool false)], args := [d] }
  | _ => none }
def UtfLongWrongFalsely : Prop := utfLongRow.holds Try.pinned (OpenSpec.ofChange utfLongWrong)

/-- 'incipitlaw1.UtfJoin': WHATEVER THE INPUT: true; the input reads as it did. -/
def utfJoinSpec : ChangeSpec := { name := "utfJoin", fn := fun _ => fun
  | [d1, d2] => { results := [.lit (.bool true)], args := [d1, d2] }
  | _ => none }
def utfJoinRow : OpenClaim := { program := "ytpgioopnfinjgaa", sum := "64b945b0069bbdf814b8dabf97ee9de7a74e46ee4ab67f8e0236a712d10b2ae5", func := "incipit/incipitlaw1.UtfJoin", spec := "utfJoin", apart := false }
def UtfJoinSaid : Prop := utfJoinRow.holds Try.pinned (OpenSpec.ofChange utfJoinSpec)

/-- ITS FALSE NEIGHBOUR: 'it returns false'. Refute it at one input. -/
def utfJoinWrong : ChangeSpec := { name := "utfJoin", fn := fun _ => fun
  | [d1, d2] => { results := [.lit (.bool false)], args := [d1, d2] }
  | _ => none }
def UtfJoinWrongFalsely : Prop := utfJoinRow.holds Try.pinned (OpenSpec.ofChange utfJoinWrong)

/- THE SECOND FORM. 'bulk': how many values and letters a reading holds, each counted each time it is reached (what is shared counts as often as it is met; a slice's spare places count too). A statement '..UptoSaid' is the law's where the arguments, and the package variables that the reading takes, are together of bulk at most 1048576: NARROWER than '..Said'. Prove '..Said' where nothing that the law and all that it calls make is longer than what came in: it says more and counts as full. Else prove '..UptoSaid'. A law counts once. -/
mutual
def uptoBulk {H : Type} : DataW H → Nat
  | .lit (.string bytes) => bytes.length + 1
  | .lit _ => 1
  | .nil => 1
  | .ptr d => uptoBulk d + 1
  | .slice elems spare => uptoBulkAll elems + uptoBulkAll spare + 1
  | .agg parts => uptoBulkAll parts + 1
  | .iface _ d => uptoBulk d + 1
  | .map entries => uptoBulkEntries entries + 1
  | .held _ => 1
def uptoBulkAll {H : Type} : List (DataW H) → Nat
  | [] => 0
  | d :: r => uptoBulk d + uptoBulkAll r
def uptoBulkEntries {H : Type} : List (Lit × DataW H) → Nat
  | [] => 0
  | x :: r => uptoBulkEntry x + uptoBulkEntries r
def uptoBulkEntry {H : Type} : Lit × DataW H → Nat
  | (.string bytes, d) => bytes.length + uptoBulk d + 1
  | (_, d) => uptoBulk d + 1
 end
def uptoSmall : (H : Type) → List (DataW H) → Bool := fun _ ds => decide (uptoBulkAll ds ≤ 1048576)
def OpenSpec.upto (s : _root_.Go.ChangeSpec) : _root_.Go.OpenSpec := { _root_.Go.OpenSpec.ofChange s with cond := some uptoSmall }

/-- 'incipitlaw3.HangulSplit', WHERE WHAT IT READS IS OF BULK AT MOST 1048576: true; the input reads as it did. -/
def hangulSplitUptoRow : OpenClaim := { program := "ytpgioopnfinjgaa", sum := "64b945b0069bbdf814b8dabf97ee9de7a74e46ee4ab67f8e0236a712d10b2ae5", func := "incipit/incipitlaw3.HangulSplit", spec := "hangulSplit", apart := false, narrowed := true }
def HangulSplitUptoSaid : Prop := hangulSplitUptoRow.holds Try.pinned (OpenSpec.upto hangulSplitSpec)

/-- 'incipitlaw3.HangulLead', WHERE WHAT IT READS IS OF BULK AT MOST 1048576: true; the input reads as it did. -/
def hangulLeadUptoRow : OpenClaim := { program := "ytpgioopnfinjgaa", sum := "64b945b0069bbdf814b8dabf97ee9de7a74e46ee4ab67f8e0236a712d10b2ae5", func := "incipit/incipitlaw3.HangulLead", spec := "hangulLead", apart := false, narrowed := true }
def HangulLeadUptoSaid : Prop := hangulLeadUptoRow.holds Try.pinned (OpenSpec.upto hangulLeadSpec)

/-- 'incipitlaw1.UtfRead', WHERE WHAT IT READS IS OF BULK AT MOST 1048576: true; the input reads as it did. -/
def utfReadUptoRow : OpenClaim := { program := "ytpgioopnfinjgaa", sum := "64b945b0069bbdf814b8dabf97ee9de7a74e46ee4ab67f8e0236a712d10b2ae5", func := "incipit/incipitlaw1.UtfRead", spec := "utfRead", apart := false, narrowed := true }
def UtfReadUptoSaid : Prop := utfReadUptoRow.holds Try.pinned (OpenSpec.upto utfReadSpec)

/-- 'incipitlaw1.UtfWrite', WHERE WHAT IT READS IS OF BULK AT MOST 1048576: true; the input reads as it did. -/
def utfWriteUptoRow : OpenClaim := { program := "ytpgioopnfinjgaa", sum := "64b945b0069bbdf814b8dabf97ee9de7a74e46ee4ab67f8e0236a712d10b2ae5", func := "incipit/incipitlaw1.UtfWrite", spec := "utfWrite", apart := false, narrowed := true }
def UtfWriteUptoSaid : Prop := utfWriteUptoRow.holds Try.pinned (OpenSpec.upto utfWriteSpec)

/-- 'incipitlaw1.UtfFour', WHERE WHAT IT READS IS OF BULK AT MOST 1048576: true; the input reads as it did. -/
def utfFourUptoRow : OpenClaim := { program := "ytpgioopnfinjgaa", sum := "64b945b0069bbdf814b8dabf97ee9de7a74e46ee4ab67f8e0236a712d10b2ae5", func := "incipit/incipitlaw1.UtfFour", spec := "utfFour", apart := false, narrowed := true }
def UtfFourUptoSaid : Prop := utfFourUptoRow.holds Try.pinned (OpenSpec.upto utfFourSpec)

/-- 'incipitlaw1.UtfCut', WHERE WHAT IT READS IS OF BULK AT MOST 1048576: true; the input reads as it did. -/
def utfCutUptoRow : OpenClaim := { program := "ytpgioopnfinjgaa", sum := "64b945b0069bbdf814b8dabf97ee9de7a74e46ee4ab67f8e0236a712d10b2ae5", func := "incipit/incipitlaw1.UtfCut", spec := "utfCut", apart := false, narrowed := true }
def UtfCutUptoSaid : Prop := utfCutUptoRow.holds Try.pinned (OpenSpec.upto utfCutSpec)

/-- 'incipitlaw1.UtfLong', WHERE WHAT IT READS IS OF BULK AT MOST 1048576: true; the input reads as it did. -/
def utfLongUptoRow : OpenClaim := { program := "ytpgioopnfinjgaa", sum := "64b945b0069bbdf814b8dabf97ee9de7a74e46ee4ab67f8e0236a712d10b2ae5", func := "incipit/incipitlaw1.UtfLong", spec := "utfLong", apart := false, narrowed := true }
def UtfLongUptoSaid : Prop := utfLongUptoRow.holds Try.pinned (OpenSpec.upto utfLongSpec)

/-- 'incipitlaw1.UtfJoin', WHERE WHAT IT READS IS OF BULK AT MOST 1048576: true; the input reads as it did. -/
def utfJoinUptoRow : OpenClaim := { program := "ytpgioopnfinjgaa", sum := "64b945b0069bbdf814b8dabf97ee9de7a74e46ee4ab67f8e0236a712d10b2ae5", func := "incipit/incipitlaw1.UtfJoin", spec := "utfJoin", apart := false, narrowed := true }
def UtfJoinUptoSaid : Prop := utfJoinUptoRow.holds Try.pinned (OpenSpec.upto utfJoinSpec)

end Rows
end Go.Proofs.Ytpgioopnfinjgaa
