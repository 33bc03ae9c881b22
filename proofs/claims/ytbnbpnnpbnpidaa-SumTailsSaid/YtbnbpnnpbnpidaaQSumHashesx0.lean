-- Written by a program of this session (wip/tools/print2): a turned copy of the kit's print.
import Derived.Test.YtbnbpnnpbnpidaaProg
import Derived.Below
import Derived.Deep.Draws
import Derived.Deep.AppendLies
import Derived.Maps.AppendAt
import Derived.OwnWalk
import Derived.Laws.BytesArg
import Derived.Laws.MakeOwn
import Derived.Laws.OwnMore
import Derived.Deep.OwnRows
import Derived.Tactics
import Derived.Lib.ConvBytes
import Derived.Laws.Slices
import Derived.WalkKit
import Derived.KernelRfl
import Derived.RowKit3
import Derived.Deep.LoopGhost
import Derived.Deep.QuietTactic
import Derived.BigQuiet
import Derived.WideLaws
import Derived.Deep.DeepCutAuto
import Derived.Deep.CutBlock
import Derived.Deep.RegionHeld3
import Derived.Laws.Rows
import Derived.Lib.AppendStr
import Derived.ArgAppend
import Derived.Laws.IdiomCopy
import Derived.OrdersHeld
import Derived.Laws.BitsLemmas
import Derived.RowKit
import Derived.Test.YtbnbpnnpbnpidaaXtra
import Derived.Test.YtbnbpnnpbnpidaaWWords
import Derived.Test.YtbnbpnnpbnpidaaWLast
import Derived.Test.YtbnbpnnpbnpidaaWTab
import Derived.Test.YtbnbpnnpbnpidaaWFour
import Derived.Test.YtbnbpnnpbnpidaaWQPut
import Derived.Test.YtbnbpnnpbnpidaaWApart
import Derived.Test.YtbnbpnnpbnpidaaWArr
import Derived.Test.YtbnbpnnpbnpidaaWZeros
import Derived.Test.YtbnbpnnpbnpidaaWFoot
import Derived.Test.YtbnbpnnpbnpidaaWKept
import Derived.Test.YtbnbpnnpbnpidaaWShare
import Derived.Test.YtbnbpnnpbnpidaaWN
import Derived.Test.YtbnbpnnpbnpidaaWFootNe
import Derived.Test.YtbnbpnnpbnpidaaWAt
import Derived.Test.YtbnbpnnpbnpidaaWEqStruct
import Derived.Test.YtbnbpnnpbnpidaaWRepsOne
import Derived.Test.YtbnbpnnpbnpidaaWInv
import Derived.Test.YtbnbpnnpbnpidaaWInvWords
import Derived.Test.YtbnbpnnpbnpidaaWGuard
import Derived.Test.YtbnbpnnpbnpidaaWNEv
import Derived.Test.YtbnbpnnpbnpidaaWMore
namespace Go.Proofs.Ytbnbpnnpbnpidaa.QSumHashes
open Go.RowKit Go.Proofs.YtbnbpnnpbnpidaaW.PrintWords Go.Proofs.YtbnbpnnpbnpidaaW.PrintLast Go.Proofs.YtbnbpnnpbnpidaaW.PrintMore
attribute [local go_sem] max2_int min2_int max_two min_two max_three min_three max_four min_four   -- for this text's walks alone
set_option linter.unusedVariables false
set_option linter.unusedSimpArgs false



def errW : Option Int → Value
  | none => .nilIface
  | some c => .iface 0 (.int .i64 c)
theorem errW_none : errW none = .nilIface := rfl
theorem errW_some (c : Int) : errW (some c) = .iface 0 (.int .i64 c) := rfl

-- the values' own types

end Go.Proofs.Ytbnbpnnpbnpidaa.QSumHashes
