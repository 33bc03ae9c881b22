-- Written by a program of this session (wip/tools/print2): a turned copy of the kit's print.
import Derived.Test.YtochhjimahcamaaRRecordBackx0
import Derived.Test.YtochhjimahcamaaRRecordBackx1
import Derived.Test.YtochhjimahcamaaRRecordBackx2
namespace Go.Proofs.Ytochhjimahcamaa.RRecordBack
open Go.Proofs.Ytochhjimahcamaa.QRecordEncodes
open Go.RowKit Go.Proofs.YtochhjimahcamaaW.PrintWords Go.Proofs.YtochhjimahcamaaW.PrintLast Go.Proofs.YtochhjimahcamaaW.PrintMore
attribute [local go_sem] max2_int min2_int max_two min_two max_three min_three max_four min_four   -- for this text's walks alone
set_option linter.unusedVariables false
set_option linter.unusedSimpArgs false

end Go.Proofs.Ytochhjimahcamaa.RRecordBack
