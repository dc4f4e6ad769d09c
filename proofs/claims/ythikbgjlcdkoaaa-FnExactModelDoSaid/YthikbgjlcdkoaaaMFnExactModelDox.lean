-- Written for this claim by a program of the session (wip/mk.py) over the kit's print.
import Derived.Test.YthikbgjlcdkoaaaMFnExactModelDox0
import Derived.Test.YthikbgjlcdkoaaaMFnExactModelDox1
import Derived.Test.YthikbgjlcdkoaaaMFnExactModelDox2
import Derived.Test.YthikbgjlcdkoaaaMFnExactModelDox3
import Derived.Test.YthikbgjlcdkoaaaMFnExactModelDox4
import Derived.Test.YthikbgjlcdkoaaaMFnExactModelDox5
import Derived.Test.YthikbgjlcdkoaaaMFnExactModelDox6
import Derived.Test.YthikbgjlcdkoaaaMFnExactModelDox7
import Derived.Test.YthikbgjlcdkoaaaMFnExactModelDox8
import Derived.Test.YthikbgjlcdkoaaaMFnExactModelDox9
import Derived.Test.YthikbgjlcdkoaaaMFnExactModelDox10
import Derived.Test.YthikbgjlcdkoaaaMFnExactModelDox11
namespace Go.Proofs.Ythikbgjlcdkoaaa.MFnExactModelDo
open Go.RowKit Go.Proofs.YthikbgjlcdkoaaaW.PrintWords Go.Proofs.YthikbgjlcdkoaaaW.PrintLast Go.Proofs.YthikbgjlcdkoaaaW.PrintMore
attribute [local go_sem] max2_int min2_int max_two min_two max_three min_three max_four min_four   -- for this text's walks alone
set_option linter.unusedVariables false
set_option linter.unusedSimpArgs false

end Go.Proofs.Ythikbgjlcdkoaaa.MFnExactModelDo
