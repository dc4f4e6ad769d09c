-- Written for this claim by a program of the session (wip/mk.py) over the kit's print.
import Derived.Test.YteibpjckmiifpaaDoorMFnExactReqTextx0
import Derived.Test.YteibpjckmiifpaaDoorMFnExactReqTextx1
import Derived.Test.YteibpjckmiifpaaDoorMFnExactReqTextx2
import Derived.Test.YteibpjckmiifpaaDoorMFnExactReqTextx3
import Derived.Test.YteibpjckmiifpaaDoorMFnExactReqTextx4
import Derived.Test.YteibpjckmiifpaaDoorMFnExactReqTextx5
import Derived.Test.YteibpjckmiifpaaDoorMFnExactReqTextx6
import Derived.Test.YteibpjckmiifpaaDoorMFnExactReqTextx7
import Derived.Test.YteibpjckmiifpaaDoorMFnExactReqTextx8
namespace Go.Proofs.YteibpjckmiifpaaDoor.MFnExactReqText
open Go.RowKit Go.Proofs.YteibpjckmiifpaaDoorW.PrintWords Go.Proofs.YteibpjckmiifpaaDoorW.PrintLast Go.Proofs.YteibpjckmiifpaaDoorW.PrintMore
attribute [local go_sem] max2_int min2_int max_two min_two max_three min_three max_four min_four   -- for this text's walks alone
set_option linter.unusedVariables false
set_option linter.unusedSimpArgs false

end Go.Proofs.YteibpjckmiifpaaDoor.MFnExactReqText
