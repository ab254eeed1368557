/-
  No cell of these rows narrows 'for every input' (looked for: loops, veiled, ifaces, maps, wideKeys, modest, calm, conditions, laid).
  DERIVED. THE GIVEN ROWS OF THIS SEAT. 12 by the template 'for every input the law returns true; each argument reads behind the call as it read before'; 0 by the template 'total and deterministic' (their statements: YtklggdenloenlaaTotals.lean).
  GIVEN WITH THE SEED: the statements are not yours to turn. If you find one false, say at which input.
  Laid BY PROGRAM, IN A SANDBOX (cutbox-rows.mjs): the forced cells as the released guide's own fill.sh prints them over the translation c39ca19223bab640… (all of the seat's roots in one cut). By AI agents, Wed Nov 11 2026. No macro, syntax, notation, axiom, sorry.
-/
import Derived.Test.YtklggdenloenlaaChecked
import GoSem.Claim
import GoSem.ClaimJoined
import GoSem.ClaimMapViews
import Derived.JoinedTies
import Derived.KernelRfl
namespace Go.Proofs.Ytklggdenloenlaa
/- THE CELL 'sum', in the pinned program and in every row, IS THE sha256 OF THE DUMP (.gsa) THAT YtklggdenloenlaaProg.lean LOADS. Nothing in Lean hashes anything: it is a label: what it is worth is what the hold of that sum in a sandbox is worth. -/
noncomputable def Try.pinned : Pinned := { name := "ytklggdenloenlaa", sum := "c39ca19223bab640c36ee2cd020a1b9eed04c9ee807ce9e204fc655a44a99ade", checked := Try.checked }
namespace Rows
def none {H : Type} : Left H := { results := [], args := [] }

/-- 'incipitlaw4.NormChars': WHATEVER THE INPUT: true; the input reads as it did. -/
def normCharsSpec : ChangeSpec := { name := "normChars", fn := fun _ => fun
  | [d] => { results := [.lit (.bool true)], args := [d] }
  | _ => none }
def normCharsRow : OpenClaim := { program := "ytklggdenloenlaa", sum := "c39ca19223bab640c36ee2cd020a1b9eed04c9ee807ce9e204fc655a44a99ade", func := "incipit/incipitlaw4.NormChars", spec := "normChars", unfollowed := true, recurses := true, apart := false }
def NormCharsSaid : Prop := normCharsRow.holds Try.pinned (OpenSpec.ofChange normCharsSpec)

/-- ITS FALSE NEIGHBOUR: 'it returns false'. Refute it at one input. -/
def normCharsWrong : ChangeSpec := { name := "normChars", fn := fun _ => fun
  | [d] => { results := [.lit (.bool false)], args := [d] }
  | _ => none }
def NormCharsWrongFalsely : Prop := normCharsRow.holds Try.pinned (OpenSpec.ofChange normCharsWrong)

/-- 'incipitlaw4.NormText': WHATEVER THE INPUT: true; the input reads as it did. -/
def normTextSpec : ChangeSpec := { name := "normText", fn := fun _ => fun
  | [d1, d2] => { results := [.lit (.bool true)], args := [d1, d2] }
  | _ => none }
def normTextRow : OpenClaim := { program := "ytklggdenloenlaa", sum := "c39ca19223bab640c36ee2cd020a1b9eed04c9ee807ce9e204fc655a44a99ade", func := "incipit/incipitlaw4.NormText", spec := "normText", unfollowed := true, recurses := true, apart := false }
def NormTextSaid : Prop := normTextRow.holds Try.pinned (OpenSpec.ofChange normTextSpec)

/-- ITS FALSE NEIGHBOUR: 'it returns false'. Refute it at one input. -/
def normTextWrong : ChangeSpec := { name := "normText", fn := fun _ => fun
  | [d1, d2] => { results := [.lit (.bool false)], args := [d1, d2] }
  | _ => none }
def NormTextWrongFalsely : Prop := normTextRow.holds Try.pinned (OpenSpec.ofChange normTextWrong)

/-- 'incipitlaw4.NormOrder': WHATEVER THE INPUT: true; the input reads as it did. -/
def normOrderSpec : ChangeSpec := { name := "normOrder", fn := fun _ => fun
  | [d1, d2, d3] => { results := [.lit (.bool true)], args := [d1, d2, d3] }
  | _ => none }
def normOrderRow : OpenClaim := { program := "ytklggdenloenlaa", sum := "c39ca19223bab640c36ee2cd020a1b9eed04c9ee807ce9e204fc655a44a99ade", func := "incipit/incipitlaw4.NormOrder", spec := "normOrder", unfollowed := true, recurses := true, apart := false }
def NormOrderSaid : Prop := normOrderRow.holds Try.pinned (OpenSpec.ofChange normOrderSpec)

/-- ITS FALSE NEIGHBOUR: 'it returns false'. Refute it at one input. -/
def normOrderWrong : ChangeSpec := { name := "normOrder", fn := fun _ => fun
  | [d1, d2, d3] => { results := [.lit (.bool false)], args := [d1, d2, d3] }
  | _ => none }
def NormOrderWrongFalsely : Prop := normOrderRow.holds Try.pinned (OpenSpec.ofChange normOrderWrong)

/-- 'incipitlaw4.NormJoin': WHATEVER THE INPUT: true; the input reads as it did. -/
def normJoinSpec : ChangeSpec := { name := "normJoin", fn := fun _ => fun
  | [d1, d2] => { results := [.lit (.bool true)], args := [d1, d2] }
  | _ => none }
def normJoinRow : OpenClaim := { program := "ytklggdenloenlaa", sum := "c39ca19223bab640c36ee2cd020a1b9eed04c9ee807ce9e204fc655a44a99ade", func := "incipit/incipitlaw4.NormJoin", spec := "normJoin", unfollowed := true, recurses := true, apart := false }
def NormJoinSaid : Prop := normJoinRow.holds Try.pinned (OpenSpec.ofChange normJoinSpec)

/-- ITS FALSE NEIGHBOUR: 'it returns false'. Refute it at one input. -/
def normJoinWrong : ChangeSpec := { name := "normJoin", fn := fun _ => fun
  | [d1, d2] => { results := [.lit (.bool false)], args := [d1, d2] }
  | _ => none }
def NormJoinWrongFalsely : Prop := normJoinRow.holds Try.pinned (OpenSpec.ofChange normJoinWrong)

/-- 'incipitlaw4.NormPlain': WHATEVER THE INPUT: true; the input reads as it did. -/
def normPlainSpec : ChangeSpec := { name := "normPlain", fn := fun _ => fun
  | [d] => { results := [.lit (.bool true)], args := [d] }
  | _ => none }
def normPlainRow : OpenClaim := { program := "ytklggdenloenlaa", sum := "c39ca19223bab640c36ee2cd020a1b9eed04c9ee807ce9e204fc655a44a99ade", func := "incipit/incipitlaw4.NormPlain", spec := "normPlain", unfollowed := true, recurses := true, apart := false }
def NormPlainSaid : Prop := normPlainRow.holds Try.pinned (OpenSpec.ofChange normPlainSpec)

/-- ITS FALSE NEIGHBOUR: 'it returns false'. Refute it at one input. -/
def normPlainWrong : ChangeSpec := { name := "normPlain", fn := fun _ => fun
  | [d] => { results := [.lit (.bool false)], args := [d] }
  | _ => none }
def NormPlainWrongFalsely : Prop := normPlainRow.holds Try.pinned (OpenSpec.ofChange normPlainWrong)

/-- 'incipitlaw4.NormMarks': WHATEVER THE INPUT: true; the input reads as it did. -/
def normMarksSpec : ChangeSpec := { name := "normMarks", fn := fun _ => fun
  | [d1, d2] => { results := [.lit (.bool true)], args := [d1, d2] }
  | _ => none }
def normMarksRow : OpenClaim := { program := "ytklggdenloenlaa", sum := "c39ca19223bab640c36ee2cd020a1b9eed04c9ee807ce9e204fc655a44a99ade", func := "incipit/incipitlaw4.NormMarks", spec := "normMarks", unfollowed := true, recurses := true, apart := false }
def NormMarksSaid : Prop := normMarksRow.holds Try.pinned (OpenSpec.ofChange normMarksSpec)

/-- ITS FALSE NEIGHBOUR: 'it returns false'. Refute it at one input. -/
def normMarksWrong : ChangeSpec := { name := "normMarks", fn := fun _ => fun
  | [d1, d2] => { results := [.lit (.bool false)], args := [d1, d2] }
  | _ => none }
def NormMarksWrongFalsely : Prop := normMarksRow.holds Try.pinned (OpenSpec.ofChange normMarksWrong)

/-- 'incipitlaw4.NormSame': WHATEVER THE INPUT: true; the input reads as it did. -/
def normSameSpec : ChangeSpec := { name := "normSame", fn := fun _ => fun
  | [d1, d2, d3] => { results := [.lit (.bool true)], args := [d1, d2, d3] }
  | _ => none }
def normSameRow : OpenClaim := { program := "ytklggdenloenlaa", sum := "c39ca19223bab640c36ee2cd020a1b9eed04c9ee807ce9e204fc655a44a99ade", func := "incipit/incipitlaw4.NormSame", spec := "normSame", unfollowed := true, recurses := true, apart := false }
def NormSameSaid : Prop := normSameRow.holds Try.pinned (OpenSpec.ofChange normSameSpec)

/-- ITS FALSE NEIGHBOUR: 'it returns false'. Refute it at one input. -/
def normSameWrong : ChangeSpec := { name := "normSame", fn := fun _ => fun
  | [d1, d2, d3] => { results := [.lit (.bool false)], args := [d1, d2, d3] }
  | _ => none }
def NormSameWrongFalsely : Prop := normSameRow.holds Try.pinned (OpenSpec.ofChange normSameWrong)

/-- 'incipitlaw6.KeyMake': WHATEVER THE INPUT: true; the input reads as it did. -/
def keyMakeSpec : ChangeSpec := { name := "keyMake", fn := fun _ => fun
  | [d1, d2] => { results := [.lit (.bool true)], args := [d1, d2] }
  | _ => none }
def keyMakeRow : OpenClaim := { program := "ytklggdenloenlaa", sum := "c39ca19223bab640c36ee2cd020a1b9eed04c9ee807ce9e204fc655a44a99ade", func := "incipit/incipitlaw6.KeyMake", spec := "keyMake", inPlace := ["internal/bytealg.abigen_runtime_cmpstring"], unfollowed := true, recurses := true, apart := false }
def KeyMakeSaid : Prop := keyMakeRow.holds Try.pinned (OpenSpec.ofChange keyMakeSpec)

/-- ITS FALSE NEIGHBOUR: 'it returns false'. Refute it at one input. -/
def keyMakeWrong : ChangeSpec := { name := "keyMake", fn := fun _ => fun
  | [d1, d2] => { results := [.lit (.bool false)], args := [d1, d2] }
  | _ => none }
def KeyMakeWrongFalsely : Prop := keyMakeRow.holds Try.pinned (OpenSpec.ofChange keyMakeWrong)

/-- 'incipitlaw6.KeyOrder': WHATEVER THE INPUT: true; the input reads as it did. -/
def keyOrderSpec : ChangeSpec := { name := "keyOrder", fn := fun _ => fun
  | [d1, d2] => { results := [.lit (.bool true)], args := [d1, d2] }
  | _ => none }
def keyOrderRow : OpenClaim := { program := "ytklggdenloenlaa", sum := "c39ca19223bab640c36ee2cd020a1b9eed04c9ee807ce9e204fc655a44a99ade", func := "incipit/incipitlaw6.KeyOrder", spec := "keyOrder", inPlace := ["internal/bytealg.abigen_runtime_cmpstring"], unfollowed := true, recurses := true, apart := false }
def KeyOrderSaid : Prop := keyOrderRow.holds Try.pinned (OpenSpec.ofChange keyOrderSpec)

/-- ITS FALSE NEIGHBOUR: 'it returns false'. Refute it at one input. -/
def keyOrderWrong : ChangeSpec := { name := "keyOrder", fn := fun _ => fun
  | [d1, d2] => { results := [.lit (.bool false)], args := [d1, d2] }
  | _ => none }
def KeyOrderWrongFalsely : Prop := keyOrderRow.holds Try.pinned (OpenSpec.ofChange keyOrderWrong)

/-- 'incipitlaw6.KeyBetween': WHATEVER THE INPUT: true; the input reads as it did. -/
def keyBetweenSpec : ChangeSpec := { name := "keyBetween", fn := fun _ => fun
  | [d1, d2] => { results := [.lit (.bool true)], args := [d1, d2] }
  | _ => none }
def keyBetweenRow : OpenClaim := { program := "ytklggdenloenlaa", sum := "c39ca19223bab640c36ee2cd020a1b9eed04c9ee807ce9e204fc655a44a99ade", func := "incipit/incipitlaw6.KeyBetween", spec := "keyBetween", inPlace := ["internal/bytealg.abigen_runtime_cmpstring"], unfollowed := true, recurses := true, apart := false }
def KeyBetweenSaid : Prop := keyBetweenRow.holds Try.pinned (OpenSpec.ofChange keyBetweenSpec)

/-- ITS FALSE NEIGHBOUR: 'it returns false'. Refute it at one input. -/
def keyBetweenWrong : ChangeSpec := { name := "keyBetween", fn := fun _ => fun
  | [d1, d2] => { results := [.lit (.bool false)], args := [d1, d2] }
  | _ => none }
def KeyBetweenWrongFalsely : Prop := keyBetweenRow.holds Try.pinned (OpenSpec.ofChange keyBetweenWrong)

/-- 'incipitlaw6.KeyForms': WHATEVER THE INPUT: true; the input reads as it did. -/
def keyFormsSpec : ChangeSpec := { name := "keyForms", fn := fun _ => fun
  | [d] => { results := [.lit (.bool true)], args := [d] }
  | _ => none }
def keyFormsRow : OpenClaim := { program := "ytklggdenloenlaa", sum := "c39ca19223bab640c36ee2cd020a1b9eed04c9ee807ce9e204fc655a44a99ade", func := "incipit/incipitlaw6.KeyForms", spec := "keyForms", inPlace := ["internal/bytealg.abigen_runtime_cmpstring"], unfollowed := true, recurses := true, apart := false }
def KeyFormsSaid : Prop := keyFormsRow.holds Try.pinned (OpenSpec.ofChange keyFormsSpec)

/-- ITS FALSE NEIGHBOUR: 'it returns false'. Refute it at one input. -/
def keyFormsWrong : ChangeSpec := { name := "keyForms", fn := fun _ => fun
  | [d] => { results := [.lit (.bool false)], args := [d] }
  | _ => none }
def KeyFormsWrongFalsely : Prop := keyFormsRow.holds Try.pinned (OpenSpec.ofChange keyFormsWrong)

/-- 'incipitlaw6.KeyChain': WHATEVER THE INPUT: true; the input reads as it did. -/
def keyChainSpec : ChangeSpec := { name := "keyChain", fn := fun _ => fun
  | [d] => { results := [.lit (.bool true)], args := [d] }
  | _ => none }
def keyChainRow : OpenClaim := { program := "ytklggdenloenlaa", sum := "c39ca19223bab640c36ee2cd020a1b9eed04c9ee807ce9e204fc655a44a99ade", func := "incipit/incipitlaw6.KeyChain", spec := "keyChain", inPlace := ["internal/bytealg.abigen_runtime_cmpstring"], unfollowed := true, recurses := true, apart := false }
def KeyChainSaid : Prop := keyChainRow.holds Try.pinned (OpenSpec.ofChange keyChainSpec)

/-- ITS FALSE NEIGHBOUR: 'it returns false'. Refute it at one input. -/
def keyChainWrong : ChangeSpec := { name := "keyChain", fn := fun _ => fun
  | [d] => { results := [.lit (.bool false)], args := [d] }
  | _ => none }
def KeyChainWrongFalsely : Prop := keyChainRow.holds Try.pinned (OpenSpec.ofChange keyChainWrong)

/- THE SECOND FORM. 'bulk': how many values and letters a reading holds, each counted each time it is reached (what is shared counts as often as it is met; a slice's spare places count too). A statement '..UptoSaid' is the law's where the arguments, and the package variables that the reading takes, are together of bulk at most 1048576: NARROWER than '..Said'. Prove '..Said' where nothing that the law and all that it calls make is longer than what came in: it says more and counts as full. Else prove '..UptoSaid'. A law counts once. -/
mutual
def uptoBulk {H : Type} : DataW H → Nat
  | .lit (.string bytes) => bytes.length + 1
  | .lit _ => 1
  | .nil => 1
  | .ptr d => uptoBulk d + 1
  | .slice elems spare => uptoBulkAll elems + uptoBulkAll spare + 1
  | .agg parts => uptoBulkAll parts + 1
  | .iface _ d => uptoBulk d + 1
  | .map entries => uptoBulkEntries entries + 1
  | .held _ => 1
def uptoBulkAll {H : Type} : List (DataW H) → Nat
  | [] => 0
  | d :: r => uptoBulk d + uptoBulkAll r
def uptoBulkEntries {H : Type} : List (Lit × DataW H) → Nat
  | [] => 0
  | x :: r => uptoBulkEntry x + uptoBulkEntries r
def uptoBulkEntry {H : Type} : Lit × DataW H → Nat
  | (.string bytes, d) => bytes.length + uptoBulk d + 1
  | (_, d) => uptoBulk d + 1
 end
def uptoSmall : (H : Type) → List (DataW H) → Bool := fun _ ds => decide (uptoBulkAll ds ≤ 1048576)
def OpenSpec.upto (s : _root_.Go.ChangeSpec) : _root_.Go.OpenSpec := { _root_.Go.OpenSpec.ofChange s with cond := some uptoSmall }

/-- 'incipitlaw4.NormChars', WHERE WHAT IT READS IS OF BULK AT MOST 1048576: true; the input reads as it did. -/
def normCharsUptoRow : OpenClaim := { program := "ytklggdenloenlaa", sum := "c39ca19223bab640c36ee2cd020a1b9eed04c9ee807ce9e204fc655a44a99ade", func := "incipit/incipitlaw4.NormChars", spec := "normChars", unfollowed := true, recurses := true, apart := false, narrowed := true }
def NormCharsUptoSaid : Prop := normCharsUptoRow.holds Try.pinned (OpenSpec.upto normCharsSpec)

/-- 'incipitlaw4.NormText', WHERE WHAT IT READS IS OF BULK AT MOST 1048576: true; the input reads as it did. -/
def normTextUptoRow : OpenClaim := { program := "ytklggdenloenlaa", sum := "c39ca19223bab640c36ee2cd020a1b9eed04c9ee807ce9e204fc655a44a99ade", func := "incipit/incipitlaw4.NormText", spec := "normText", unfollowed := true, recurses := true, apart := false, narrowed := true }
def NormTextUptoSaid : Prop := normTextUptoRow.holds Try.pinned (OpenSpec.upto normTextSpec)

/-- 'incipitlaw4.NormOrder', WHERE WHAT IT READS IS OF BULK AT MOST 1048576: true; the input reads as it did. -/
def normOrderUptoRow : OpenClaim := { program := "ytklggdenloenlaa", sum := "c39ca19223bab640c36ee2cd020a1b9eed04c9ee807ce9e204fc655a44a99ade", func := "incipit/incipitlaw4.NormOrder", spec := "normOrder", unfollowed := true, recurses := true, apart := false, narrowed := true }
def NormOrderUptoSaid : Prop := normOrderUptoRow.holds Try.pinned (OpenSpec.upto normOrderSpec)

/-- 'incipitlaw4.NormJoin', WHERE WHAT IT READS IS OF BULK AT MOST 1048576: true; the input reads as it did. -/
def normJoinUptoRow : OpenClaim := { program := "ytklggdenloenlaa", sum := "c39ca19223bab640c36ee2cd020a1b9eed04c9ee807ce9e204fc655a44a99ade", func := "incipit/incipitlaw4.NormJoin", spec := "normJoin", unfollowed := true, recurses := true, apart := false, narrowed := true }
def NormJoinUptoSaid : Prop := normJoinUptoRow.holds Try.pinned (OpenSpec.upto normJoinSpec)

/-- 'incipitlaw4.NormPlain', WHERE WHAT IT READS IS OF BULK AT MOST 1048576: true; the input reads as it did. -/
def normPlainUptoRow : OpenClaim := { program := "ytklggdenloenlaa", sum := "c39ca19223bab640c36ee2cd020a1b9eed04c9ee807ce9e204fc655a44a99ade", func := "incipit/incipitlaw4.NormPlain", spec := "normPlain", unfollowed := true, recurses := true, apart := false, narrowed := true }
def NormPlainUptoSaid : Prop := normPlainUptoRow.holds Try.pinned (OpenSpec.upto normPlainSpec)

/-- 'incipitlaw4.NormMarks', WHERE WHAT IT READS IS OF BULK AT MOST 1048576: true; the input reads as it did. -/
def normMarksUptoRow : OpenClaim := { program := "ytklggdenloenlaa", sum := "c39ca19223bab640c36ee2cd020a1b9eed04c9ee807ce9e204fc655a44a99ade", func := "incipit/incipitlaw4.NormMarks", spec := "normMarks", unfollowed := true, recurses := true, apart := false, narrowed := true }
def NormMarksUptoSaid : Prop := normMarksUptoRow.holds Try.pinned (OpenSpec.upto normMarksSpec)

/-- 'incipitlaw4.NormSame', WHERE WHAT IT READS IS OF BULK AT MOST 1048576: true; the input reads as it did. -/
def normSameUptoRow : OpenClaim := { program := "ytklggdenloenlaa", sum := "c39ca19223bab640c36ee2cd020a1b9eed04c9ee807ce9e204fc655a44a99ade", func := "incipit/incipitlaw4.NormSame", spec := "normSame", unfollowed := true, recurses := true, apart := false, narrowed := true }
def NormSameUptoSaid : Prop := normSameUptoRow.holds Try.pinned (OpenSpec.upto normSameSpec)

/-- 'incipitlaw6.KeyMake', WHERE WHAT IT READS IS OF BULK AT MOST 1048576: true; the input reads as it did. -/
def keyMakeUptoRow : OpenClaim := { program := "ytklggdenloenlaa", sum := "c39ca19223bab640c36ee2cd020a1b9eed04c9ee807ce9e204fc655a44a99ade", func := "incipit/incipitlaw6.KeyMake", spec := "keyMake", inPlace := ["internal/bytealg.abigen_runtime_cmpstring"], unfollowed := true, recurses := true, apart := false, narrowed := true }
def KeyMakeUptoSaid : Prop := keyMakeUptoRow.holds Try.pinned (OpenSpec.upto keyMakeSpec)

/-- 'incipitlaw6.KeyOrder', WHERE WHAT IT READS IS OF BULK AT MOST 1048576: true; the input reads as it did. -/
def keyOrderUptoRow : OpenClaim := { program := "ytklggdenloenlaa", sum := "c39ca19223bab640c36ee2cd020a1b9eed04c9ee807ce9e204fc655a44a99ade", func := "incipit/incipitlaw6.KeyOrder", spec := "keyOrder", inPlace := ["internal/bytealg.abigen_runtime_cmpstring"], unfollowed := true, recurses := true, apart := false, narrowed := true }
def KeyOrderUptoSaid : Prop := keyOrderUptoRow.holds Try.pinned (OpenSpec.upto keyOrderSpec)

/-- 'incipitlaw6.KeyBetween', WHERE WHAT IT READS IS OF BULK AT MOST 1048576: true; the input reads as it did. -/
def keyBetweenUptoRow : OpenClaim := { program := "ytklggdenloenlaa", sum := "c39ca19223bab640c36ee2cd020a1b9eed04c9ee807ce9e204fc655a44a99ade", func := "incipit/incipitlaw6.KeyBetween", spec := "keyBetween", inPlace := ["internal/bytealg.abigen_runtime_cmpstring"], unfollowed := true, recurses := true, apart := false, narrowed := true }
def KeyBetweenUptoSaid : Prop := keyBetweenUptoRow.holds Try.pinned (OpenSpec.upto keyBetweenSpec)

/-- 'incipitlaw6.KeyForms', WHERE WHAT IT READS IS OF BULK AT MOST 1048576: true; the input reads as it did. -/
def keyFormsUptoRow : OpenClaim := { program := "ytklggdenloenlaa", sum := "c39ca19223bab640c36ee2cd020a1b9eed04c9ee807ce9e204fc655a44a99ade", func := "incipit/incipitlaw6.KeyForms", spec := "keyForms", inPlace := ["internal/bytealg.abigen_runtime_cmpstring"], unfollowed := true, recurses := true, apart := false, narrowed := true }
def KeyFormsUptoSaid : Prop := keyFormsUptoRow.holds Try.pinned (OpenSpec.upto keyFormsSpec)

/-- 'incipitlaw6.KeyChain', WHERE WHAT IT READS IS OF BULK AT MOST 1048576: true; the input reads as it did. -/
def keyChainUptoRow : OpenClaim := { program := "ytklggdenloenlaa", sum := "c39ca19223bab640c36ee2cd020a1b9eed04c9ee807ce9e204fc655a44a99ade", func := "incipit/incipitlaw6.KeyChain", spec := "keyChain", inPlace := ["internal/bytealg.abigen_runtime_cmpstring"], unfollowed := true, recurses := true, apart := false, narrowed := true }
def KeyChainUptoSaid : Prop := keyChainUptoRow.holds Try.pinned (OpenSpec.upto keyChainSpec)

end Rows
end Go.Proofs.Ytklggdenloenlaa
