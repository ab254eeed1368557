/-
  A law of a number and a slice of numbers: the start, with the slice's first numbers as a row that nothing writes.
-/
import Derived.Test.YtjhijcehcklipaaEvFs
import Derived.Test.YtjhijcehcklipaaEvX
import Derived.Test.YtjhijcehcklipaaEvMeths
namespace Go.Proofs.Ytjhijcehcklipaa.Sw
open Ev
def st (ts : List AV) : AH := { objs := Tr.nil.set deep 0 (.row (setFrom .nil 0 ts) (ts.length + 1) 0 1), next := 1 }
noncomputable def run (n : Int) (ts : List AV) (len : Nat) : Bool := Ev.tellsX (Ev.callX Try.prog Ev.fsO 100000 100 4 [.n .i64 n, .l (some ⟨0, ts.length, 0⟩) len (inf + 1)] (st ts))
def st0 : AH := { objs := Tr.nil.set deep 0 (.row .nil 1 1 1), next := 1 }
noncomputable def run0 (n : Int) : Bool := Ev.tellsX (Ev.callX Try.prog Ev.fsO 100000 100 4 [.n .i64 n, .l (some ⟨0, 0, 0⟩) 0 (inf + 1)] st0)
noncomputable def runN (n : Int) : Bool := Ev.tellsX (Ev.callX Try.prog Ev.fsO 100000 100 4 [.n .i64 n, .l none 0 0] ⟨.nil, 0⟩)
end Go.Proofs.Ytjhijcehcklipaa.Sw
