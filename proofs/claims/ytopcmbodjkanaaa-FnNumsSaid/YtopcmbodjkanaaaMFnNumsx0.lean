-- Written for this claim by a program of the session (wip/mk.py) over the kit's print.
import Derived.Test.YtopcmbodjkanaaaProg
import Derived.Below
import Derived.Deep.Draws
import Derived.Deep.AppendLies
import Derived.Maps.AppendAt
import Derived.OwnWalk
import Derived.Laws.BytesArg
import Derived.Laws.MakeOwn
import Derived.Laws.OwnMore
import Derived.Deep.OwnRows
import Derived.Tactics
import Derived.Lib.ConvBytes
import Derived.Laws.Slices
import Derived.WalkKit
import Derived.KernelRfl
import Derived.RowKit3
import Derived.Deep.LoopGhost
import Derived.Deep.QuietTactic
import Derived.BigQuiet
import Derived.WideLaws
import Derived.Deep.DeepCutAuto
import Derived.Deep.CutBlock
import Derived.Deep.RegionHeld3
import Derived.Laws.Rows
import Derived.Lib.AppendStr
import Derived.ArgAppend
import Derived.Laws.IdiomCopy
import Derived.OrdersHeld
import Derived.Laws.BitsLemmas
import Derived.RowKit
import Derived.WalkSpells
import Derived.Test.YtopcmbodjkanaaaWWords
import Derived.Test.YtopcmbodjkanaaaWLast
import Derived.Test.YtopcmbodjkanaaaWTab
import Derived.Test.YtopcmbodjkanaaaWFour
import Derived.Test.YtopcmbodjkanaaaWQPut
import Derived.Test.YtopcmbodjkanaaaWApart
import Derived.Test.YtopcmbodjkanaaaWArr
import Derived.Test.YtopcmbodjkanaaaWZeros
import Derived.Test.YtopcmbodjkanaaaWFoot
import Derived.Test.YtopcmbodjkanaaaWKept
import Derived.Test.YtopcmbodjkanaaaWShare
import Derived.Test.YtopcmbodjkanaaaWN
import Derived.Test.YtopcmbodjkanaaaWFootNe
import Derived.Test.YtopcmbodjkanaaaWAt
import Derived.Test.YtopcmbodjkanaaaWEqStruct
import Derived.Test.YtopcmbodjkanaaaWRepsOne
import Derived.Test.YtopcmbodjkanaaaWInv
import Derived.Test.YtopcmbodjkanaaaWInvWords
import Derived.Test.YtopcmbodjkanaaaWGuard
import Derived.Test.YtopcmbodjkanaaaWNEv
import Derived.Test.YtopcmbodjkanaaaWMore
namespace Go.Proofs.Ytopcmbodjkanaaa.MFnNums
open Go.RowKit Go.Proofs.YtopcmbodjkanaaaW.PrintWords Go.Proofs.YtopcmbodjkanaaaW.PrintLast Go.Proofs.YtopcmbodjkanaaaW.PrintMore
attribute [local go_sem] max2_int min2_int max_two min_two max_three min_three max_four min_four   -- for this text's walks alone
set_option linter.unusedVariables false
set_option linter.unusedSimpArgs false



def errW : Option Int → Value
  | none => .nilIface
  | some c => .iface 0 (.int .i64 c)
theorem errW_none : errW none = .nilIface := rfl
theorem errW_some (c : Int) : errW (some c) = .iface 0 (.int .i64 c) := rfl

theorem info3 : (Try.prog.info? 3).map (fun i => (i.zero, i.size, i.bytes)) = some (some (.int .i64 0), 1, 8) := by kernel_rfl
-- the values' own types

end Go.Proofs.Ytopcmbodjkanaaa.MFnNums
