-- Written for this claim by a program of the session (wip/mk.py) over the kit's print.
import Derived.Test.YthikbgjlcdkoaaaMFnModelsx0
import Derived.Test.YthikbgjlcdkoaaaMFnModelsx1
import Derived.Test.YthikbgjlcdkoaaaMFnModelsx2
import Derived.Test.YthikbgjlcdkoaaaMFnModelsx3
import Derived.Test.YthikbgjlcdkoaaaMFnModelsx4
import Derived.Test.YthikbgjlcdkoaaaMFnModelsx5
import Derived.Test.YthikbgjlcdkoaaaMFnModelsx6
import Derived.Test.YthikbgjlcdkoaaaMFnModelsx7
import Derived.Test.YthikbgjlcdkoaaaMFnModelsx8
import Derived.Test.YthikbgjlcdkoaaaMFnModelsx9
import Derived.Test.YthikbgjlcdkoaaaMFnModelsx10
import Derived.Test.YthikbgjlcdkoaaaMFnModelsx11
import Derived.Test.YthikbgjlcdkoaaaMFnModelsx12
import Derived.Test.YthikbgjlcdkoaaaMFnModelsx13
namespace Go.Proofs.Ythikbgjlcdkoaaa.MFnModels
open Go.RowKit Go.Proofs.YthikbgjlcdkoaaaW.PrintWords Go.Proofs.YthikbgjlcdkoaaaW.PrintLast Go.Proofs.YthikbgjlcdkoaaaW.PrintMore
attribute [local go_sem] max2_int min2_int max_two min_two max_three min_three max_four min_four   -- for this text's walks alone
set_option linter.unusedVariables false
set_option linter.unusedSimpArgs false

end Go.Proofs.Ythikbgjlcdkoaaa.MFnModels
