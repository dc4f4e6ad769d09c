-- Written for this claim by a program of the session (wip/mk.py) over the kit's print.
import Derived.Test.YtkolojgkpmbbbaaMFnExactSaidAtx0
import Derived.Test.YtkolojgkpmbbbaaMFnExactSaidAtx1
import Derived.Test.YtkolojgkpmbbbaaMFnExactSaidAtx2
import Derived.Test.YtkolojgkpmbbbaaMFnExactSaidAtx3
namespace Go.Proofs.Ytkolojgkpmbbbaa.MFnExactSaidAt
open Go.RowKit Go.Proofs.YtkolojgkpmbbbaaW.PrintWords Go.Proofs.YtkolojgkpmbbbaaW.PrintLast Go.Proofs.YtkolojgkpmbbbaaW.PrintMore
attribute [local go_sem] max2_int min2_int max_two min_two max_three min_three max_four min_four   -- for this text's walks alone
set_option linter.unusedVariables false
set_option linter.unusedSimpArgs false

end Go.Proofs.Ytkolojgkpmbbbaa.MFnExactSaidAt
