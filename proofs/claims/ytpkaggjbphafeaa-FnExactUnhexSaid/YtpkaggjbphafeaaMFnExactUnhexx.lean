-- Written for this claim by a program of the session (wip/mk.py) over the kit's print.
import Derived.Test.YtpkaggjbphafeaaMFnExactUnhexx0
import Derived.Test.YtpkaggjbphafeaaMFnExactUnhexx1
namespace Go.Proofs.Ytpkaggjbphafeaa.MFnExactUnhex
open Go.RowKit Go.Proofs.YtpkaggjbphafeaaW.PrintWords Go.Proofs.YtpkaggjbphafeaaW.PrintLast Go.Proofs.YtpkaggjbphafeaaW.PrintMore
attribute [local go_sem] max2_int min2_int max_two min_two max_three min_three max_four min_four   -- for this text's walks alone
set_option linter.unusedVariables false
set_option linter.unusedSimpArgs false

end Go.Proofs.Ytpkaggjbphafeaa.MFnExactUnhex
