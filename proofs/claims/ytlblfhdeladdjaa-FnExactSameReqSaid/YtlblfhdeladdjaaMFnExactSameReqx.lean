-- Written for this claim by a program of the session (wip/mk.py) over the kit's print.
import Derived.Test.YtlblfhdeladdjaaMFnExactSameReqx0
import Derived.Test.YtlblfhdeladdjaaMFnExactSameReqx1
import Derived.Test.YtlblfhdeladdjaaMFnExactSameReqx2
import Derived.Test.YtlblfhdeladdjaaMFnExactSameReqx3
namespace Go.Proofs.Ytlblfhdeladdjaa.MFnExactSameReq
open Go.RowKit Go.Proofs.YtlblfhdeladdjaaW.PrintWords Go.Proofs.YtlblfhdeladdjaaW.PrintLast Go.Proofs.YtlblfhdeladdjaaW.PrintMore
attribute [local go_sem] max2_int min2_int max_two min_two max_three min_three max_four min_four   -- for this text's walks alone
set_option linter.unusedVariables false
set_option linter.unusedSimpArgs false

end Go.Proofs.Ytlblfhdeladdjaa.MFnExactSameReq
