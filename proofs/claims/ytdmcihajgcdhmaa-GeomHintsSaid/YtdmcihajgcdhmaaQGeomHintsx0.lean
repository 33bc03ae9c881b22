-- Written by a program of this session (wip/tools/print2): a turned copy of the kit's print.
import Derived.Test.YtdmcihajgcdhmaaProg
import Derived.Below
import Derived.Deep.Draws
import Derived.Deep.AppendLies
import Derived.Maps.AppendAt
import Derived.OwnWalk
import Derived.Laws.BytesArg
import Derived.Laws.MakeOwn
import Derived.Laws.OwnMore
import Derived.Deep.OwnRows
import Derived.Tactics
import Derived.Lib.ConvBytes
import Derived.Laws.Slices
import Derived.WalkKit
import Derived.KernelRfl
import Derived.RowKit3
import Derived.Deep.LoopGhost
import Derived.Deep.QuietTactic
import Derived.BigQuiet
import Derived.WideLaws
import Derived.Deep.DeepCutAuto
import Derived.Deep.CutBlock
import Derived.Deep.RegionHeld3
import Derived.Laws.Rows
import Derived.Lib.AppendStr
import Derived.ArgAppend
import Derived.Laws.IdiomCopy
import Derived.OrdersHeld
import Derived.Laws.BitsLemmas
import Derived.RowKit
import Derived.Lib.BitFns
import Derived.Lib.Tables
import Derived.Lib.ItoaNum
import Derived.Test.YtdmcihajgcdhmaaWWords
import Derived.Test.YtdmcihajgcdhmaaWLast
import Derived.Test.YtdmcihajgcdhmaaWTab
import Derived.Test.YtdmcihajgcdhmaaWFour
import Derived.Test.YtdmcihajgcdhmaaWQPut
import Derived.Test.YtdmcihajgcdhmaaWApart
import Derived.Test.YtdmcihajgcdhmaaWArr
import Derived.Test.YtdmcihajgcdhmaaWZeros
import Derived.Test.YtdmcihajgcdhmaaWFoot
import Derived.Test.YtdmcihajgcdhmaaWKept
import Derived.Test.YtdmcihajgcdhmaaWShare
import Derived.Test.YtdmcihajgcdhmaaWN
import Derived.Test.YtdmcihajgcdhmaaWFootNe
import Derived.Test.YtdmcihajgcdhmaaWAt
import Derived.Test.YtdmcihajgcdhmaaWEqStruct
import Derived.Test.YtdmcihajgcdhmaaWRepsOne
import Derived.Test.YtdmcihajgcdhmaaWInv
import Derived.Test.YtdmcihajgcdhmaaWInvWords
import Derived.Test.YtdmcihajgcdhmaaWGuard
import Derived.Test.YtdmcihajgcdhmaaWNEv
import Derived.Test.YtdmcihajgcdhmaaWMore
namespace Go.Proofs.Ytdmcihajgcdhmaa.QGeomHints
open Go.RowKit Go.Proofs.YtdmcihajgcdhmaaW.PrintWords Go.Proofs.YtdmcihajgcdhmaaW.PrintLast Go.Proofs.YtdmcihajgcdhmaaW.PrintMore
attribute [local go_sem] max2_int min2_int max_two min_two max_three min_three max_four min_four   -- for this text's walks alone
set_option linter.unusedVariables false
set_option linter.unusedSimpArgs false



def errW : Option Int → Value
  | none => .nilIface
  | some c => .iface 0 (.int .i64 c)
theorem errW_none : errW none = .nilIface := rfl
theorem errW_some (c : Int) : errW (some c) = .iface 0 (.int .i64 c) := rfl

-- the values' own types

end Go.Proofs.Ytdmcihajgcdhmaa.QGeomHints
