-- written by mp.py, a program of this session's over the kit's printer
import Derived.Test.YtpgioopnfinjgaaProg
import Derived.Below
import Derived.Deep.Draws
import Derived.Deep.AppendLies
import Derived.Maps.AppendAt
import Derived.OwnWalk
import Derived.Laws.BytesArg
import Derived.Laws.MakeOwn
import Derived.Laws.OwnMore
import Derived.Deep.OwnRows
import Derived.Tactics
import Derived.Lib.ConvBytes
import Derived.Laws.Slices
import Derived.WalkKit
import Derived.KernelRfl
import Derived.RowKit3
import Derived.Deep.LoopGhost
import Derived.Deep.QuietTactic
import Derived.BigQuiet
import Derived.WideLaws
import Derived.Deep.DeepCutAuto
import Derived.Deep.CutBlock
import Derived.Deep.RegionHeld3
import Derived.Laws.Rows
import Derived.Lib.AppendStr
import Derived.ArgAppend
import Derived.Laws.IdiomCopy
import Derived.OrdersHeld
import Derived.Laws.BitsLemmas
import Derived.RowKit
import Derived.Test.YtpgioopnfinjgaaWWords
import Derived.Test.YtpgioopnfinjgaaWLast
import Derived.Test.YtpgioopnfinjgaaWTab
import Derived.Test.YtpgioopnfinjgaaWFour
import Derived.Test.YtpgioopnfinjgaaWQPut
import Derived.Test.YtpgioopnfinjgaaWApart
import Derived.Test.YtpgioopnfinjgaaWArr
import Derived.Test.YtpgioopnfinjgaaWZeros
import Derived.Test.YtpgioopnfinjgaaWFoot
import Derived.Test.YtpgioopnfinjgaaWKept
import Derived.Test.YtpgioopnfinjgaaWShare
import Derived.Test.YtpgioopnfinjgaaWN
import Derived.Test.YtpgioopnfinjgaaWFootNe
import Derived.Test.YtpgioopnfinjgaaWAt
import Derived.Test.YtpgioopnfinjgaaWEqStruct
import Derived.Test.YtpgioopnfinjgaaWRepsOne
import Derived.Test.YtpgioopnfinjgaaWInv
import Derived.Test.YtpgioopnfinjgaaWInvWords
import Derived.Test.YtpgioopnfinjgaaWGuard
import Derived.Test.YtpgioopnfinjgaaWNEv
import Derived.Test.YtpgioopnfinjgaaWMore
namespace Go.Proofs.Ytpgioopnfinjgaa.MHangulLead
open Go.RowKit Go.Proofs.YtpgioopnfinjgaaW.PrintWords Go.Proofs.YtpgioopnfinjgaaW.PrintLast Go.Proofs.YtpgioopnfinjgaaW.PrintMore
attribute [local go_sem] max2_int min2_int max_two min_two max_three min_three max_four min_four   -- for this text's walks alone
set_option linter.unusedVariables false
set_option linter.unusedSimpArgs false



def errW : Option Int → Value
  | none => .nilIface
  | some c => .iface 0 (.int .i64 c)
theorem errW_none : errW none = .nilIface := rfl
theorem errW_some (c : Int) : errW (some c) = .iface 0 (.int .i64 c) := rfl

theorem info3 : (Try.prog.info? 3).map (fun i => (i.zero, i.size, i.bytes)) = some (some (.int .i64 0), 1, 8) := by kernel_rfl
-- the values' own types

end Go.Proofs.Ytpgioopnfinjgaa.MHangulLead
