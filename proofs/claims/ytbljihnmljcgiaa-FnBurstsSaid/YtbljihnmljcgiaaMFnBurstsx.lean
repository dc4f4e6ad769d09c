-- Written for this claim by a program of the session (wip/mk.py) over the kit's print.
import Derived.Test.YtbljihnmljcgiaaMFnBurstsx0
import Derived.Test.YtbljihnmljcgiaaMFnBurstsx1
import Derived.Test.YtbljihnmljcgiaaMFnBurstsx2
import Derived.Test.YtbljihnmljcgiaaMFnBurstsx3
import Derived.Test.YtbljihnmljcgiaaMFnBurstsx4
namespace Go.Proofs.Ytbljihnmljcgiaa.MFnBursts
open Go.RowKit Go.Proofs.YtbljihnmljcgiaaW.PrintWords Go.Proofs.YtbljihnmljcgiaaW.PrintLast Go.Proofs.YtbljihnmljcgiaaW.PrintMore
attribute [local go_sem] max2_int min2_int max_two min_two max_three min_three max_four min_four   -- for this text's walks alone
set_option linter.unusedVariables false
set_option linter.unusedSimpArgs false

end Go.Proofs.Ytbljihnmljcgiaa.MFnBursts
