-- Written for this claim by a program of the session (wip/mk.py) over the kit's print.
import Derived.Test.YtdhjeddbpjgkfaaMFnExactReqOkx0
import Derived.Test.YtdhjeddbpjgkfaaMFnExactReqOkx1
import Derived.Test.YtdhjeddbpjgkfaaMFnExactReqOkx2
import Derived.Test.YtdhjeddbpjgkfaaMFnExactReqOkx3
import Derived.Test.YtdhjeddbpjgkfaaMFnExactReqOkx4
namespace Go.Proofs.Ytdhjeddbpjgkfaa.MFnExactReqOk
open Go.RowKit Go.Proofs.YtdhjeddbpjgkfaaW.PrintWords Go.Proofs.YtdhjeddbpjgkfaaW.PrintLast Go.Proofs.YtdhjeddbpjgkfaaW.PrintMore
attribute [local go_sem] max2_int min2_int max_two min_two max_three min_three max_four min_four   -- for this text's walks alone
set_option linter.unusedVariables false
set_option linter.unusedSimpArgs false

end Go.Proofs.Ytdhjeddbpjgkfaa.MFnExactReqOk
