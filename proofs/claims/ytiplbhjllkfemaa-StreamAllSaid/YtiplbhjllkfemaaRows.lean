/-
  No cell of these rows narrows 'for every input' (looked for: loops, veiled, ifaces, maps, wideKeys, modest, calm, conditions, laid).
  DERIVED. THE GIVEN ROWS OF THIS SEAT. 5 by the template 'for every input the law returns true; each argument reads behind the call as it read before'; 0 by the template 'total and deterministic' (their statements: YtiplbhjllkfemaaTotals.lean).
  GIVEN WITH THE SEED: the statements are not yours to turn. If you find one false, say at which input.
  Laid BY PROGRAM, IN A SANDBOX (cutbox-rows.mjs): the forced cells as the released guide's own fill.sh prints them over the translation f63b84af7261bea1… (all of the seat's roots in one cut). By AI agents, Wed Nov 11 2026. No macro, syntax, notation, axiom, sorry.
-/
import Derived.Test.YtiplbhjllkfemaaChecked
import GoSem.Claim
import GoSem.ClaimJoined
import GoSem.ClaimMapViews
import Derived.JoinedTies
import Derived.KernelRfl
namespace Go.Proofs.Ytiplbhjllkfemaa
/- THE CELL 'sum', in the pinned program and in every row, IS THE sha256 OF THE DUMP (.gsa) THAT YtiplbhjllkfemaaProg.lean LOADS. Nothing in Lean hashes anything: it is a label: what it is worth is what the hold of that sum in a sandbox is worth. -/
noncomputable def Try.pinned : Pinned := { name := "ytiplbhjllkfemaa", sum := "f63b84af7261bea15e93559adc527e36354d9939db7533c195360b357d2fbc3d", checked := Try.checked }
namespace Rows
def none {H : Type} : Left H := { results := [], args := [] }

/-- 'incipitlaw6.KeyChain': WHATEVER THE INPUT: true; the input reads as it did. -/
def keyChainSpec : ChangeSpec := { name := "keyChain", fn := fun _ => fun
  | [d] => { results := [.lit (.bool true)], args := [d] }
  | _ => none }
def keyChainRow : OpenClaim := { program := "ytiplbhjllkfemaa", sum := "f63b84af7261bea15e93559adc527e36354d9939db7533c195360b357d2fbc3d", func := "incipit/incipitlaw6.KeyChain", spec := "keyChain", inPlace := ["internal/bytealg.abigen_runtime_cmpstring"], unfollowed := true, recurses := true, apart := false }
def KeyChainSaid : Prop := keyChainRow.holds Try.pinned (OpenSpec.ofChange keyChainSpec)

/-- ITS FALSE NEIGHBOUR: 'it returns false'. Refute it at one input. -/
def keyChainWrong : ChangeSpec := { name := "keyChain", fn := fun _ => fun
  | [d] => { results := [.lit (.bool false)], args := [d] }
  | _ => none }
def KeyChainWrongFalsely : Prop := keyChainRow.holds Try.pinned (OpenSpec.ofChange keyChainWrong)

/-- 'incipitlaw5.StreamAll': WHATEVER THE INPUT: true; the input reads as it did. -/
def streamAllSpec : ChangeSpec := { name := "streamAll", fn := fun _ => fun
  | [d1, d2] => { results := [.lit (.bool true)], args := [d1, d2] }
  | _ => none }
def streamAllRow : OpenClaim := { program := "ytiplbhjllkfemaa", sum := "f63b84af7261bea15e93559adc527e36354d9939db7533c195360b357d2fbc3d", func := "incipit/incipitlaw5.StreamAll", spec := "streamAll", unfollowed := true, recurses := true, apart := false }
def StreamAllSaid : Prop := streamAllRow.holds Try.pinned (OpenSpec.ofChange streamAllSpec)

/-- ITS FALSE NEIGHBOUR: 'it returns false'. Refute it at one input. -/
def streamAllWrong : ChangeSpec := { name := "streamAll", fn := fun _ => fun
  | [d1, d2] => { results := [.lit (.bool false)], args := [d1, d2] }
  | _ => none }
def StreamAllWrongFalsely : Prop := streamAllRow.holds Try.pinned (OpenSpec.ofChange streamAllWrong)

/-- 'incipitlaw5.StreamBytes': WHATEVER THE INPUT: true; the input reads as it did. -/
def streamBytesSpec : ChangeSpec := { name := "streamBytes", fn := fun _ => fun
  | [d] => { results := [.lit (.bool true)], args := [d] }
  | _ => none }
def streamBytesRow : OpenClaim := { program := "ytiplbhjllkfemaa", sum := "f63b84af7261bea15e93559adc527e36354d9939db7533c195360b357d2fbc3d", func := "incipit/incipitlaw5.StreamBytes", spec := "streamBytes", unfollowed := true, recurses := true, apart := false }
def StreamBytesSaid : Prop := streamBytesRow.holds Try.pinned (OpenSpec.ofChange streamBytesSpec)

/-- ITS FALSE NEIGHBOUR: 'it returns false'. Refute it at one input. -/
def streamBytesWrong : ChangeSpec := { name := "streamBytes", fn := fun _ => fun
  | [d] => { results := [.lit (.bool false)], args := [d] }
  | _ => none }
def StreamBytesWrongFalsely : Prop := streamBytesRow.holds Try.pinned (OpenSpec.ofChange streamBytesWrong)

/-- 'incipitlaw5.StreamBad': WHATEVER THE INPUT: true; the input reads as it did. -/
def streamBadSpec : ChangeSpec := { name := "streamBad", fn := fun _ => fun
  | [d1, d2] => { results := [.lit (.bool true)], args := [d1, d2] }
  | _ => none }
def streamBadRow : OpenClaim := { program := "ytiplbhjllkfemaa", sum := "f63b84af7261bea15e93559adc527e36354d9939db7533c195360b357d2fbc3d", func := "incipit/incipitlaw5.StreamBad", spec := "streamBad", unfollowed := true, recurses := true, apart := false }
def StreamBadSaid : Prop := streamBadRow.holds Try.pinned (OpenSpec.ofChange streamBadSpec)

/-- ITS FALSE NEIGHBOUR: 'it returns false'. Refute it at one input. -/
def streamBadWrong : ChangeSpec := { name := "streamBad", fn := fun _ => fun
  | [d1, d2] => { results := [.lit (.bool false)], args := [d1, d2] }
  | _ => none }
def StreamBadWrongFalsely : Prop := streamBadRow.holds Try.pinned (OpenSpec.ofChange streamBadWrong)

/-- 'incipitlaw12.GroupOrder': WHATEVER THE INPUT: true; the input reads as it did. -/
def groupOrderSpec : ChangeSpec := { name := "groupOrder", fn := fun _ => fun
  | [d1, d2] => { results := [.lit (.bool true)], args := [d1, d2] }
  | _ => none }
def groupOrderRow : OpenClaim := { program := "ytiplbhjllkfemaa", sum := "f63b84af7261bea15e93559adc527e36354d9939db7533c195360b357d2fbc3d", func := "incipit/incipitlaw12.GroupOrder", spec := "groupOrder", unfollowed := true, recurses := true, apart := false }
def GroupOrderSaid : Prop := groupOrderRow.holds Try.pinned (OpenSpec.ofChange groupOrderSpec)

/-- ITS FALSE NEIGHBOUR: 'it returns false'. Refute it at one input. -/
def groupOrderWrong : ChangeSpec := { name := "groupOrder", fn := fun _ => fun
  | [d1, d2] => { results := [.lit (.bool false)], args := [d1, d2] }
  | _ => none }
def GroupOrderWrongFalsely : Prop := groupOrderRow.holds Try.pinned (OpenSpec.ofChange groupOrderWrong)

/- THE SECOND FORM. 'bulk': how many values and letters a reading holds, each counted each time it is reached (what is shared counts as often as it is met; a slice's spare places count too). A statement '..UptoSaid' is the law's where the arguments, and the package variables that the reading takes, are together of bulk at most 1048576: NARROWER than '..Said'. Prove '..Said' where nothing that the law and all that it calls make is longer than what came in: it says more and counts as full. Else prove '..UptoSaid'. A law counts once. -/
mutual
def uptoBulk {H : Type} : DataW H → Nat
  | .lit (.string bytes) => bytes.length + 1
  | .lit _ => 1
  | .nil => 1
  | .ptr d => uptoBulk d + 1
  | .slice elems spare => uptoBulkAll elems + uptoBulkAll spare + 1
  | .agg parts => uptoBulkAll parts + 1
  | .iface _ d => uptoBulk d + 1
  | .map entries => uptoBulkEntries entries + 1
  | .held _ => 1
def uptoBulkAll {H : Type} : List (DataW H) → Nat
  | [] => 0
  | d :: r => uptoBulk d + uptoBulkAll r
def uptoBulkEntries {H : Type} : List (Lit × DataW H) → Nat
  | [] => 0
  | x :: r => uptoBulkEntry x + uptoBulkEntries r
def uptoBulkEntry {H : Type} : Lit × DataW H → Nat
  | (.string bytes, d) => bytes.length + uptoBulk d + 1
  | (_, d) => uptoBulk d + 1
 end
def uptoSmall : (H : Type) → List (DataW H) → Bool := fun _ ds => decide (uptoBulkAll ds ≤ 1048576)
def OpenSpec.upto (s : _root_.Go.ChangeSpec) : _root_.Go.OpenSpec := { _root_.Go.OpenSpec.ofChange s with cond := some uptoSmall }

/-- 'incipitlaw6.KeyChain', WHERE WHAT IT READS IS OF BULK AT MOST 1048576: true; the input reads as it did. -/
def keyChainUptoRow : OpenClaim := { program := "ytiplbhjllkfemaa", sum := "f63b84af7261bea15e93559adc527e36354d9939db7533c195360b357d2fbc3d", func := "incipit/incipitlaw6.KeyChain", spec := "keyChain", inPlace := ["internal/bytealg.abigen_runtime_cmpstring"], unfollowed := true, recurses := true, apart := false, narrowed := true }
def KeyChainUptoSaid : Prop := keyChainUptoRow.holds Try.pinned (OpenSpec.upto keyChainSpec)

/-- 'incipitlaw5.StreamAll', WHERE WHAT IT READS IS OF BULK AT MOST 1048576: true; the input reads as it did. -/
def streamAllUptoRow : OpenClaim := { program := "ytiplbhjllkfemaa", sum := "f63b84af7261bea15e93559adc527e36354d9939db7533c195360b357d2fbc3d", func := "incipit/incipitlaw5.StreamAll", spec := "streamAll", unfollowed := true, recurses := true, apart := false, narrowed := true }
def StreamAllUptoSaid : Prop := streamAllUptoRow.holds Try.pinned (OpenSpec.upto streamAllSpec)

/-- 'incipitlaw5.StreamBytes', WHERE WHAT IT READS IS OF BULK AT MOST 1048576: true; the input reads as it did. -/
def streamBytesUptoRow : OpenClaim := { program := "ytiplbhjllkfemaa", sum := "f63b84af7261bea15e93559adc527e36354d9939db7533c195360b357d2fbc3d", func := "incipit/incipitlaw5.StreamBytes", spec := "streamBytes", unfollowed := true, recurses := true, apart := false, narrowed := true }
def StreamBytesUptoSaid : Prop := streamBytesUptoRow.holds Try.pinned (OpenSpec.upto streamBytesSpec)

/-- 'incipitlaw5.StreamBad', WHERE WHAT IT READS IS OF BULK AT MOST 1048576: true; the input reads as it did. -/
def streamBadUptoRow : OpenClaim := { program := "ytiplbhjllkfemaa", sum := "f63b84af7261bea15e93559adc527e36354d9939db7533c195360b357d2fbc3d", func := "incipit/incipitlaw5.StreamBad", spec := "streamBad", unfollowed := true, recurses := true, apart := false, narrowed := true }
def StreamBadUptoSaid : Prop := streamBadUptoRow.holds Try.pinned (OpenSpec.upto streamBadSpec)

/-- 'incipitlaw12.GroupOrder', WHERE WHAT IT READS IS OF BULK AT MOST 1048576: true; the input reads as it did. -/
def groupOrderUptoRow : OpenClaim := { program := "ytiplbhjllkfemaa", sum := "f63b84af7261bea15e93559adc527e36354d9939db7533c195360b357d2fbc3d", func := "incipit/incipitlaw12.GroupOrder", spec := "groupOrder", unfollowed := true, recurses := true, apart := false, narrowed := true }
def GroupOrderUptoSaid : Prop := groupOrderUptoRow.holds Try.pinned (OpenSpec.upto groupOrderSpec)

end Rows
end Go.Proofs.Ytiplbhjllkfemaa
