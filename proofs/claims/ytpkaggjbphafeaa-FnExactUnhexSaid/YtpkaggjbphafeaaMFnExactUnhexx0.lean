-- Written for this claim by a program of the session (wip/mk.py) over the kit's print.
import Derived.Test.YtpkaggjbphafeaaProg
import Derived.Below
import Derived.Deep.Draws
import Derived.Deep.AppendLies
import Derived.Maps.AppendAt
import Derived.OwnWalk
import Derived.Laws.BytesArg
import Derived.Laws.MakeOwn
import Derived.Laws.OwnMore
import Derived.Deep.OwnRows
import Derived.Tactics
import Derived.Lib.ConvBytes
import Derived.Laws.Slices
import Derived.WalkKit
import Derived.KernelRfl
import Derived.RowKit3
import Derived.Deep.LoopGhost
import Derived.Deep.QuietTactic
import Derived.BigQuiet
import Derived.WideLaws
import Derived.Deep.DeepCutAuto
import Derived.Deep.CutBlock
import Derived.Deep.RegionHeld3
import Derived.Laws.Rows
import Derived.Lib.AppendStr
import Derived.ArgAppend
import Derived.Laws.IdiomCopy
import Derived.OrdersHeld
import Derived.Laws.BitsLemmas
import Derived.RowKit
import Derived.WalkSpells
import Derived.Shelf.Small.Strs
import Derived.Test.YtpkaggjbphafeaaWWords
import Derived.Test.YtpkaggjbphafeaaWLast
import Derived.Test.YtpkaggjbphafeaaWTab
import Derived.Test.YtpkaggjbphafeaaWFour
import Derived.Test.YtpkaggjbphafeaaWQPut
import Derived.Test.YtpkaggjbphafeaaWApart
import Derived.Test.YtpkaggjbphafeaaWArr
import Derived.Test.YtpkaggjbphafeaaWZeros
import Derived.Test.YtpkaggjbphafeaaWFoot
import Derived.Test.YtpkaggjbphafeaaWKept
import Derived.Test.YtpkaggjbphafeaaWShare
import Derived.Test.YtpkaggjbphafeaaWN
import Derived.Test.YtpkaggjbphafeaaWFootNe
import Derived.Test.YtpkaggjbphafeaaWAt
import Derived.Test.YtpkaggjbphafeaaWEqStruct
import Derived.Test.YtpkaggjbphafeaaWRepsOne
import Derived.Test.YtpkaggjbphafeaaWInv
import Derived.Test.YtpkaggjbphafeaaWInvWords
import Derived.Test.YtpkaggjbphafeaaWGuard
import Derived.Test.YtpkaggjbphafeaaWNEv
import Derived.Test.YtpkaggjbphafeaaWMore
namespace Go.Proofs.Ytpkaggjbphafeaa.MFnExactUnhex
open Go.RowKit Go.Proofs.YtpkaggjbphafeaaW.PrintWords Go.Proofs.YtpkaggjbphafeaaW.PrintLast Go.Proofs.YtpkaggjbphafeaaW.PrintMore
attribute [local go_sem] max2_int min2_int max_two min_two max_three min_three max_four min_four   -- for this text's walks alone
set_option linter.unusedVariables false
set_option linter.unusedSimpArgs false



def errW : Option Int → Value
  | none => .nilIface
  | some c => .iface 0 (.int .i64 c)
theorem errW_none : errW none = .nilIface := rfl
theorem errW_some (c : Int) : errW (some c) = .iface 0 (.int .i64 c) := rfl

theorem info5 : (Try.prog.info? 5).map (fun i => (i.zero, i.size, i.bytes)) = some (some (.int .u8 0), 1, 1) := by kernel_rfl
-- the values' own types

end Go.Proofs.Ytpkaggjbphafeaa.MFnExactUnhex
