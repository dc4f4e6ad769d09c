-- Written for this claim by a program of the session (wip/mk.py) over the kit's print.
import Derived.Test.YtopcmbodjkanaaaMFnNumsx0
import Derived.Test.YtopcmbodjkanaaaMFnNumsx1
import Derived.Test.YtopcmbodjkanaaaMFnNumsx2
import Derived.Test.YtopcmbodjkanaaaMFnNumsx3
import Derived.Test.YtopcmbodjkanaaaMFnNumsx4
namespace Go.Proofs.Ytopcmbodjkanaaa.MFnNums
open Go.RowKit Go.Proofs.YtopcmbodjkanaaaW.PrintWords Go.Proofs.YtopcmbodjkanaaaW.PrintLast Go.Proofs.YtopcmbodjkanaaaW.PrintMore
attribute [local go_sem] max2_int min2_int max_two min_two max_three min_three max_four min_four   -- for this text's walks alone
set_option linter.unusedVariables false
set_option linter.unusedSimpArgs false

end Go.Proofs.Ytopcmbodjkanaaa.MFnNums
