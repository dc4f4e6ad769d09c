-- Written for this claim by a program of the session (wip/mk.py) over the kit's print.
import Derived.Test.YtkolojgkpmbbbaaMFnExactPostsAtx0
import Derived.Test.YtkolojgkpmbbbaaMFnExactPostsAtx1
import Derived.Test.YtkolojgkpmbbbaaMFnExactPostsAtx2
import Derived.Test.YtkolojgkpmbbbaaMFnExactPostsAtx3
import Derived.Test.YtkolojgkpmbbbaaMFnExactPostsAtx4
import Derived.Test.YtkolojgkpmbbbaaMFnExactPostsAtx5
namespace Go.Proofs.Ytkolojgkpmbbbaa.MFnExactPostsAt
open Go.RowKit Go.Proofs.YtkolojgkpmbbbaaW.PrintWords Go.Proofs.YtkolojgkpmbbbaaW.PrintLast Go.Proofs.YtkolojgkpmbbbaaW.PrintMore
attribute [local go_sem] max2_int min2_int max_two min_two max_three min_three max_four min_four   -- for this text's walks alone
set_option linter.unusedVariables false
set_option linter.unusedSimpArgs false

end Go.Proofs.Ytkolojgkpmbbbaa.MFnExactPostsAt
