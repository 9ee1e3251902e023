-- Written by xprint.py (a program of this work) over the kit's printer. Not trusted: Lean checks it.
import Derived.Test.YtfedlanbmibhkaaProg
import Derived.Below
import Derived.Deep.Draws
import Derived.Deep.AppendLies
import Derived.Maps.AppendAt
import Derived.OwnWalk
import Derived.Laws.BytesArg
import Derived.Laws.MakeOwn
import Derived.Laws.OwnMore
import Derived.Deep.OwnRows
import Derived.Tactics
import Derived.Lib.ConvBytes
import Derived.Laws.Slices
import Derived.WalkKit
import Derived.KernelRfl
import Derived.RowKit3
import Derived.Deep.LoopGhost
import Derived.Deep.QuietTactic
import Derived.BigQuiet
import Derived.WideLaws
import Derived.Deep.DeepCutAuto
import Derived.Deep.CutBlock
import Derived.Deep.RegionHeld3
import Derived.Laws.Rows
import Derived.Lib.AppendStr
import Derived.ArgAppend
import Derived.Laws.IdiomCopy
import Derived.OrdersHeld
import Derived.Laws.BitsLemmas
import Derived.RowKit
import Derived.Test.YtfedlanbmibhkaaWWords
import Derived.Test.YtfedlanbmibhkaaWLast
import Derived.Test.YtfedlanbmibhkaaWTab
import Derived.Test.YtfedlanbmibhkaaWFour
import Derived.Test.YtfedlanbmibhkaaWQPut
import Derived.Test.YtfedlanbmibhkaaWApart
import Derived.Test.YtfedlanbmibhkaaWArr
import Derived.Test.YtfedlanbmibhkaaWZeros
import Derived.Test.YtfedlanbmibhkaaWFoot
import Derived.Test.YtfedlanbmibhkaaWKept
import Derived.Test.YtfedlanbmibhkaaWShare
import Derived.Test.YtfedlanbmibhkaaWN
import Derived.Test.YtfedlanbmibhkaaWFootNe
import Derived.Test.YtfedlanbmibhkaaWAt
import Derived.Test.YtfedlanbmibhkaaWEqStruct
import Derived.Test.YtfedlanbmibhkaaWRepsOne
import Derived.Test.YtfedlanbmibhkaaWInv
import Derived.Test.YtfedlanbmibhkaaWInvWords
import Derived.Test.YtfedlanbmibhkaaWGuard
import Derived.Test.YtfedlanbmibhkaaWNEv
import Derived.Test.YtfedlanbmibhkaaWMore
namespace Go.Proofs.Ytfedlanbmibhkaa.P
attribute [-simp] List.length_drop List.length_take ByteArray.size_append
open Go.RowKit Go.Proofs.YtfedlanbmibhkaaW.PrintWords Go.Proofs.YtfedlanbmibhkaaW.PrintLast Go.Proofs.YtfedlanbmibhkaaW.PrintMore
attribute [local go_sem] max2_int min2_int max_two min_two max_three min_three max_four min_four   -- for this text's walks alone
set_option linter.unusedVariables false
set_option linter.unusedSimpArgs false



def errW : Option Int → Value
  | none => .nilIface
  | some c => .iface 0 (.int .i64 c)
theorem errW_none : errW none = .nilIface := rfl
theorem errW_some (c : Int) : errW (some c) = .iface 0 (.int .i64 c) := rfl

theorem info3 : (Try.prog.info? 3).map (fun i => (i.zero, i.size, i.bytes)) = some (some (.int .i64 0), 1, 8) := by kernel_rfl
theorem info5 : (Try.prog.info? 5).map (fun i => (i.zero, i.size, i.bytes)) = some (some (.int .u8 0), 1, 1) := by kernel_rfl
-- the values' own types

end Go.Proofs.Ytfedlanbmibhkaa.P
