-- Written for this claim by a program of the session (wip/mk.py) over the kit's print.
import Derived.Test.YthikbgjlcdkoaaaMFnDevicesx0
import Derived.Test.YthikbgjlcdkoaaaMFnDevicesx1
import Derived.Test.YthikbgjlcdkoaaaMFnDevicesx2
import Derived.Test.YthikbgjlcdkoaaaMFnDevicesx3
import Derived.Test.YthikbgjlcdkoaaaMFnDevicesx4
import Derived.Test.YthikbgjlcdkoaaaMFnDevicesx5
import Derived.Test.YthikbgjlcdkoaaaMFnDevicesx6
import Derived.Test.YthikbgjlcdkoaaaMFnDevicesx7
import Derived.Test.YthikbgjlcdkoaaaMFnDevicesx8
namespace Go.Proofs.Ythikbgjlcdkoaaa.MFnDevices
open Go.RowKit Go.Proofs.YthikbgjlcdkoaaaW.PrintWords Go.Proofs.YthikbgjlcdkoaaaW.PrintLast Go.Proofs.YthikbgjlcdkoaaaW.PrintMore
attribute [local go_sem] max2_int min2_int max_two min_two max_three min_three max_four min_four   -- for this text's walks alone
set_option linter.unusedVariables false
set_option linter.unusedSimpArgs false

end Go.Proofs.Ythikbgjlcdkoaaa.MFnDevices
