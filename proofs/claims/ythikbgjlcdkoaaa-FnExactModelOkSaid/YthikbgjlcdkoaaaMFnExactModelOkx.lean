-- Written for this claim by a program of the session (wip/mk.py) over the kit's print.
import Derived.Test.YthikbgjlcdkoaaaMFnExactModelOkx0
import Derived.Test.YthikbgjlcdkoaaaMFnExactModelOkx1
import Derived.Test.YthikbgjlcdkoaaaMFnExactModelOkx2
import Derived.Test.YthikbgjlcdkoaaaMFnExactModelOkx3
namespace Go.Proofs.Ythikbgjlcdkoaaa.MFnExactModelOk
open Go.RowKit Go.Proofs.YthikbgjlcdkoaaaW.PrintWords Go.Proofs.YthikbgjlcdkoaaaW.PrintLast Go.Proofs.YthikbgjlcdkoaaaW.PrintMore
attribute [local go_sem] max2_int min2_int max_two min_two max_three min_three max_four min_four   -- for this text's walks alone
set_option linter.unusedVariables false
set_option linter.unusedSimpArgs false

end Go.Proofs.Ythikbgjlcdkoaaa.MFnExactModelOk
