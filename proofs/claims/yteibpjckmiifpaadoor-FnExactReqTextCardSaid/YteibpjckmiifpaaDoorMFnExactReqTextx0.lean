-- Written for this claim by a program of the session (wip/mk.py) over the kit's print.
import Derived.Test.YteibpjckmiifpaaDoorProg
import Derived.Below
import Derived.Deep.Draws
import Derived.Deep.AppendLies
import Derived.Maps.AppendAt
import Derived.OwnWalk
import Derived.Laws.BytesArg
import Derived.Laws.MakeOwn
import Derived.Laws.OwnMore
import Derived.Deep.OwnRows
import Derived.Tactics
import Derived.Lib.ConvBytes
import Derived.Laws.Slices
import Derived.WalkKit
import Derived.KernelRfl
import Derived.RowKit3
import Derived.Deep.LoopGhost
import Derived.Deep.QuietTactic
import Derived.BigQuiet
import Derived.WideLaws
import Derived.Deep.DeepCutAuto
import Derived.Deep.CutBlock
import Derived.Deep.RegionHeld3
import Derived.Laws.Rows
import Derived.Lib.AppendStr
import Derived.ArgAppend
import Derived.Laws.IdiomCopy
import Derived.OrdersHeld
import Derived.Laws.BitsLemmas
import Derived.RowKit
import Derived.WalkSpells
import Derived.Test.YteibpjckmiifpaaDoorDecShelf
import Derived.Test.YteibpjckmiifpaaDoorJoinShelf
import Derived.Lib.SmallJoins
import Derived.Lib.AppendIntMem
import Derived.Test.YteibpjckmiifpaaDoorWWords
import Derived.Test.YteibpjckmiifpaaDoorWLast
import Derived.Test.YteibpjckmiifpaaDoorWTab
import Derived.Test.YteibpjckmiifpaaDoorWFour
import Derived.Test.YteibpjckmiifpaaDoorWQPut
import Derived.Test.YteibpjckmiifpaaDoorWApart
import Derived.Test.YteibpjckmiifpaaDoorWArr
import Derived.Test.YteibpjckmiifpaaDoorWZeros
import Derived.Test.YteibpjckmiifpaaDoorWFoot
import Derived.Test.YteibpjckmiifpaaDoorWKept
import Derived.Test.YteibpjckmiifpaaDoorWShare
import Derived.Test.YteibpjckmiifpaaDoorWN
import Derived.Test.YteibpjckmiifpaaDoorWFootNe
import Derived.Test.YteibpjckmiifpaaDoorWAt
import Derived.Test.YteibpjckmiifpaaDoorWEqStruct
import Derived.Test.YteibpjckmiifpaaDoorWRepsOne
import Derived.Test.YteibpjckmiifpaaDoorWInv
import Derived.Test.YteibpjckmiifpaaDoorWInvWords
import Derived.Test.YteibpjckmiifpaaDoorWGuard
import Derived.Test.YteibpjckmiifpaaDoorWNEv
import Derived.Test.YteibpjckmiifpaaDoorWMore
namespace Go.Proofs.YteibpjckmiifpaaDoor.MFnExactReqText
open Go.RowKit Go.Proofs.YteibpjckmiifpaaDoorW.PrintWords Go.Proofs.YteibpjckmiifpaaDoorW.PrintLast Go.Proofs.YteibpjckmiifpaaDoorW.PrintMore
attribute [local go_sem] max2_int min2_int max_two min_two max_three min_three max_four min_four   -- for this text's walks alone
set_option linter.unusedVariables false
set_option linter.unusedSimpArgs false



def errW : Option Int → Value
  | none => .nilIface
  | some c => .iface 0 (.int .i64 c)
theorem errW_none : errW none = .nilIface := rfl
theorem errW_some (c : Int) : errW (some c) = .iface 0 (.int .i64 c) := rfl

theorem info3 : (Tryd.prog.info? 3).map (fun i => (i.zero, i.size, i.bytes)) = some (some (.int .i64 0), 1, 8) := by kernel_rfl
theorem info5 : (Tryd.prog.info? 5).map (fun i => (i.zero, i.size, i.bytes)) = some (some (.int .u8 0), 1, 1) := by kernel_rfl
theorem info9 : (Tryd.prog.info? 9).map (fun i => (i.zero, i.size, i.bytes)) = some (some (.string ⟨#[]⟩), 1, 16) := by kernel_rfl
-- the values' own types

end Go.Proofs.YteibpjckmiifpaaDoor.MFnExactReqText
