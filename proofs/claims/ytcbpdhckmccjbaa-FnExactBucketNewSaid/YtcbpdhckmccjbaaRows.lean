/-
  No cell of these rows narrows 'for every input' (looked for: loops, veiled, ifaces, maps, wideKeys, modest, calm, conditions, laid).
  DERIVED. THE GIVEN ROWS OF THIS SEAT. 12 by the template 'for every input the law returns true; each argument reads behind the call as it read before'; 0 by the template 'total and deterministic' (their statements: YtcbpdhckmccjbaaTotals.lean).
  GIVEN WITH THE SEED: the statements are not yours to turn. If you find one false, say at which input.
  Laid BY PROGRAM, IN A SANDBOX (cutbox-rows.mjs): the forced cells as the released guide's own fill.sh prints them over the translation 0b097fecafc15840… (all of the seat's roots in one cut). By AI agents, Wed Nov 11 2026. No macro, syntax, notation, axiom, sorry.
-/
import Derived.Test.YtcbpdhckmccjbaaChecked
import GoSem.Claim
import GoSem.ClaimJoined
import GoSem.ClaimMapViews
import Derived.JoinedTies
import Derived.KernelRfl
namespace Go.Proofs.Ytcbpdhckmccjbaa
/- THE CELL 'sum', in the pinned program and in every row, IS THE sha256 OF THE DUMP (.gsa) THAT YtcbpdhckmccjbaaProg.lean LOADS. Nothing in Lean hashes anything: it is a label: what it is worth is what the hold of that sum in a sandbox is worth. -/
noncomputable def Try.pinned : Pinned := { name := "ytcbpdhckmccjbaa", sum := "0b097fecafc158401d10e6dafac253282cac958382bb9c22952cff40e227aac5", checked := Try.checked }
namespace Rows
def none {H : Type} : Left H := { results := [], args := [] }

/-- 'laws.FnExactConstants': WHATEVER THE INPUT: true; the input reads as it did. -/
def fnExactConstantsSpec : ChangeSpec := { name := "fnExactConstants", fn := fun _ => fun
  | [] => { results := [.lit (.bool true)], args := [] }
  | _ => none }
def fnExactConstantsRow : OpenClaim := { program := "ytcbpdhckmccjbaa", sum := "0b097fecafc158401d10e6dafac253282cac958382bb9c22952cff40e227aac5", func := "loop.example/g01623/laws.FnExactConstants", spec := "fnExactConstants", apart := false }
def FnExactConstantsSaid : Prop := fnExactConstantsRow.holds Try.pinned (OpenSpec.ofChange fnExactConstantsSpec)

/-- ITS FALSE NEIGHBOUR: 'it returns false'. Refute it at one input. -/
def fnExactConstantsWrong : ChangeSpec := { name := "fnExactConstants", fn := fun _ => fun
  | [] => { results := [.lit (.bool false)], args := [] }
  | _ => none }
def FnExactConstantsWrongFalsely : Prop := fnExactConstantsRow.holds Try.pinned (OpenSpec.ofChange fnExactConstantsWrong)

/-- 'laws.FnExactBeatsOf': WHATEVER THE INPUT: true; the input reads as it did. -/
def fnExactBeatsOfSpec : ChangeSpec := { name := "fnExactBeatsOf", fn := fun _ => fun
  | [d] => { results := [.lit (.bool true)], args := [d] }
  | _ => none }
def fnExactBeatsOfRow : OpenClaim := { program := "ytcbpdhckmccjbaa", sum := "0b097fecafc158401d10e6dafac253282cac958382bb9c22952cff40e227aac5", func := "loop.example/g01623/laws.FnExactBeatsOf", spec := "fnExactBeatsOf", apart := false }
def FnExactBeatsOfSaid : Prop := fnExactBeatsOfRow.holds Try.pinned (OpenSpec.ofChange fnExactBeatsOfSpec)

/-- ITS FALSE NEIGHBOUR: 'it returns false'. Refute it at one input. -/
def fnExactBeatsOfWrong : ChangeSpec := { name := "fnExactBeatsOf", fn := fun _ => fun
  | [d] => { results := [.lit (.bool false)], args := [d] }
  | _ => none }
def FnExactBeatsOfWrongFalsely : Prop := fnExactBeatsOfRow.holds Try.pinned (OpenSpec.ofChange fnExactBeatsOfWrong)

/-- 'laws.FnExactBytesOf': WHATEVER THE INPUT: true; the input reads as it did. -/
def fnExactBytesOfSpec : ChangeSpec := { name := "fnExactBytesOf", fn := fun _ => fun
  | [d] => { results := [.lit (.bool true)], args := [d] }
  | _ => none }
def fnExactBytesOfRow : OpenClaim := { program := "ytcbpdhckmccjbaa", sum := "0b097fecafc158401d10e6dafac253282cac958382bb9c22952cff40e227aac5", func := "loop.example/g01623/laws.FnExactBytesOf", spec := "fnExactBytesOf", apart := false }
def FnExactBytesOfSaid : Prop := fnExactBytesOfRow.holds Try.pinned (OpenSpec.ofChange fnExactBytesOfSpec)

/-- ITS FALSE NEIGHBOUR: 'it returns false'. Refute it at one input. -/
def fnExactBytesOfWrong : ChangeSpec := { name := "fnExactBytesOf", fn := fun _ => fun
  | [d] => { results := [.lit (.bool false)], args := [d] }
  | _ => none }
def FnExactBytesOfWrongFalsely : Prop := fnExactBytesOfRow.holds Try.pinned (OpenSpec.ofChange fnExactBytesOfWrong)

/-- 'laws.FnExactRespWord': WHATEVER THE INPUT: true; the input reads as it did. -/
def fnExactRespWordSpec : ChangeSpec := { name := "fnExactRespWord", fn := fun _ => fun
  | [d] => { results := [.lit (.bool true)], args := [d] }
  | _ => none }
def fnExactRespWordRow : OpenClaim := { program := "ytcbpdhckmccjbaa", sum := "0b097fecafc158401d10e6dafac253282cac958382bb9c22952cff40e227aac5", func := "loop.example/g01623/laws.FnExactRespWord", spec := "fnExactRespWord", apart := false }
def FnExactRespWordSaid : Prop := fnExactRespWordRow.holds Try.pinned (OpenSpec.ofChange fnExactRespWordSpec)

/-- ITS FALSE NEIGHBOUR: 'it returns false'. Refute it at one input. -/
def fnExactRespWordWrong : ChangeSpec := { name := "fnExactRespWord", fn := fun _ => fun
  | [d] => { results := [.lit (.bool false)], args := [d] }
  | _ => none }
def FnExactRespWordWrongFalsely : Prop := fnExactRespWordRow.holds Try.pinned (OpenSpec.ofChange fnExactRespWordWrong)

/-- 'laws.FnExactKindWord': WHATEVER THE INPUT: true; the input reads as it did. -/
def fnExactKindWordSpec : ChangeSpec := { name := "fnExactKindWord", fn := fun _ => fun
  | [d] => { results := [.lit (.bool true)], args := [d] }
  | _ => none }
def fnExactKindWordRow : OpenClaim := { program := "ytcbpdhckmccjbaa", sum := "0b097fecafc158401d10e6dafac253282cac958382bb9c22952cff40e227aac5", func := "loop.example/g01623/laws.FnExactKindWord", spec := "fnExactKindWord", apart := false }
def FnExactKindWordSaid : Prop := fnExactKindWordRow.holds Try.pinned (OpenSpec.ofChange fnExactKindWordSpec)

/-- ITS FALSE NEIGHBOUR: 'it returns false'. Refute it at one input. -/
def fnExactKindWordWrong : ChangeSpec := { name := "fnExactKindWord", fn := fun _ => fun
  | [d] => { results := [.lit (.bool false)], args := [d] }
  | _ => none }
def FnExactKindWordWrongFalsely : Prop := fnExactKindWordRow.holds Try.pinned (OpenSpec.ofChange fnExactKindWordWrong)

/-- 'laws.FnExactAligned': WHATEVER THE INPUT: true; the input reads as it did. -/
def fnExactAlignedSpec : ChangeSpec := { name := "fnExactAligned", fn := fun _ => fun
  | [d1, d2] => { results := [.lit (.bool true)], args := [d1, d2] }
  | _ => none }
def fnExactAlignedRow : OpenClaim := { program := "ytcbpdhckmccjbaa", sum := "0b097fecafc158401d10e6dafac253282cac958382bb9c22952cff40e227aac5", func := "loop.example/g01623/laws.FnExactAligned", spec := "fnExactAligned", apart := false }
def FnExactAlignedSaid : Prop := fnExactAlignedRow.holds Try.pinned (OpenSpec.ofChange fnExactAlignedSpec)

/-- ITS FALSE NEIGHBOUR: 'it returns false'. Refute it at one input. -/
def fnExactAlignedWrong : ChangeSpec := { name := "fnExactAligned", fn := fun _ => fun
  | [d1, d2] => { results := [.lit (.bool false)], args := [d1, d2] }
  | _ => none }
def FnExactAlignedWrongFalsely : Prop := fnExactAlignedRow.holds Try.pinned (OpenSpec.ofChange fnExactAlignedWrong)

/-- 'laws.FnExactSlaveOf': WHATEVER THE INPUT: true; the input reads as it did. -/
def fnExactSlaveOfSpec : ChangeSpec := { name := "fnExactSlaveOf", fn := fun _ => fun
  | [d] => { results := [.lit (.bool true)], args := [d] }
  | _ => none }
def fnExactSlaveOfRow : OpenClaim := { program := "ytcbpdhckmccjbaa", sum := "0b097fecafc158401d10e6dafac253282cac958382bb9c22952cff40e227aac5", func := "loop.example/g01623/laws.FnExactSlaveOf", spec := "fnExactSlaveOf", apart := false }
def FnExactSlaveOfSaid : Prop := fnExactSlaveOfRow.holds Try.pinned (OpenSpec.ofChange fnExactSlaveOfSpec)

/-- ITS FALSE NEIGHBOUR: 'it returns false'. Refute it at one input. -/
def fnExactSlaveOfWrong : ChangeSpec := { name := "fnExactSlaveOf", fn := fun _ => fun
  | [d] => { results := [.lit (.bool false)], args := [d] }
  | _ => none }
def FnExactSlaveOfWrongFalsely : Prop := fnExactSlaveOfRow.holds Try.pinned (OpenSpec.ofChange fnExactSlaveOfWrong)

/-- 'laws.FnExactTokensMost': WHATEVER THE INPUT: true; the input reads as it did. -/
def fnExactTokensMostSpec : ChangeSpec := { name := "fnExactTokensMost", fn := fun _ => fun
  | [d1, d2] => { results := [.lit (.bool true)], args := [d1, d2] }
  | _ => none }
def fnExactTokensMostRow : OpenClaim := { program := "ytcbpdhckmccjbaa", sum := "0b097fecafc158401d10e6dafac253282cac958382bb9c22952cff40e227aac5", func := "loop.example/g01623/laws.FnExactTokensMost", spec := "fnExactTokensMost", apart := false }
def FnExactTokensMostSaid : Prop := fnExactTokensMostRow.holds Try.pinned (OpenSpec.ofChange fnExactTokensMostSpec)

/-- ITS FALSE NEIGHBOUR: 'it returns false'. Refute it at one input. -/
def fnExactTokensMostWrong : ChangeSpec := { name := "fnExactTokensMost", fn := fun _ => fun
  | [d1, d2] => { results := [.lit (.bool false)], args := [d1, d2] }
  | _ => none }
def FnExactTokensMostWrongFalsely : Prop := fnExactTokensMostRow.holds Try.pinned (OpenSpec.ofChange fnExactTokensMostWrong)

/-- 'laws.FnExactLimitOf': WHATEVER THE INPUT: true; the input reads as it did. -/
def fnExactLimitOfSpec : ChangeSpec := { name := "fnExactLimitOf", fn := fun _ => fun
  | [d] => { results := [.lit (.bool true)], args := [d] }
  | _ => none }
def fnExactLimitOfRow : OpenClaim := { program := "ytcbpdhckmccjbaa", sum := "0b097fecafc158401d10e6dafac253282cac958382bb9c22952cff40e227aac5", func := "loop.example/g01623/laws.FnExactLimitOf", spec := "fnExactLimitOf", apart := false }
def FnExactLimitOfSaid : Prop := fnExactLimitOfRow.holds Try.pinned (OpenSpec.ofChange fnExactLimitOfSpec)

/-- ITS FALSE NEIGHBOUR: 'it returns false'. Refute it at one input. -/
def fnExactLimitOfWrong : ChangeSpec := { name := "fnExactLimitOf", fn := fun _ => fun
  | [d] => { results := [.lit (.bool false)], args := [d] }
  | _ => none }
def FnExactLimitOfWrongFalsely : Prop := fnExactLimitOfRow.holds Try.pinned (OpenSpec.ofChange fnExactLimitOfWrong)

/-- 'laws.FnExactBucketOk': WHATEVER THE INPUT: true; the input reads as it did. -/
def fnExactBucketOkSpec : ChangeSpec := { name := "fnExactBucketOk", fn := fun _ => fun
  | [d1, d2] => { results := [.lit (.bool true)], args := [d1, d2] }
  | _ => none }
def fnExactBucketOkRow : OpenClaim := { program := "ytcbpdhckmccjbaa", sum := "0b097fecafc158401d10e6dafac253282cac958382bb9c22952cff40e227aac5", func := "loop.example/g01623/laws.FnExactBucketOk", spec := "fnExactBucketOk", apart := false }
def FnExactBucketOkSaid : Prop := fnExactBucketOkRow.holds Try.pinned (OpenSpec.ofChange fnExactBucketOkSpec)

/-- ITS FALSE NEIGHBOUR: 'it returns false'. Refute it at one input. -/
def fnExactBucketOkWrong : ChangeSpec := { name := "fnExactBucketOk", fn := fun _ => fun
  | [d1, d2] => { results := [.lit (.bool false)], args := [d1, d2] }
  | _ => none }
def FnExactBucketOkWrongFalsely : Prop := fnExactBucketOkRow.holds Try.pinned (OpenSpec.ofChange fnExactBucketOkWrong)

/-- 'laws.FnExactBucketNew': WHATEVER THE INPUT: true; the input reads as it did. -/
def fnExactBucketNewSpec : ChangeSpec := { name := "fnExactBucketNew", fn := fun _ => fun
  | [d] => { results := [.lit (.bool true)], args := [d] }
  | _ => none }
def fnExactBucketNewRow : OpenClaim := { program := "ytcbpdhckmccjbaa", sum := "0b097fecafc158401d10e6dafac253282cac958382bb9c22952cff40e227aac5", func := "loop.example/g01623/laws.FnExactBucketNew", spec := "fnExactBucketNew", apart := false }
def FnExactBucketNewSaid : Prop := fnExactBucketNewRow.holds Try.pinned (OpenSpec.ofChange fnExactBucketNewSpec)

/-- ITS FALSE NEIGHBOUR: 'it returns false'. Refute it at one input. -/
def fnExactBucketNewWrong : ChangeSpec := { name := "fnExactBucketNew", fn := fun _ => fun
  | [d] => { results := [.lit (.bool false)], args := [d] }
  | _ => none }
def FnExactBucketNewWrongFalsely : Prop := fnExactBucketNewRow.holds Try.pinned (OpenSpec.ofChange fnExactBucketNewWrong)

/-- 'laws.FnExactNextAddr': WHATEVER THE INPUT: true; the input reads as it did. -/
def fnExactNextAddrSpec : ChangeSpec := { name := "fnExactNextAddr", fn := fun _ => fun
  | [d1, d2, d3] => { results := [.lit (.bool true)], args := [d1, d2, d3] }
  | _ => none }
def fnExactNextAddrRow : OpenClaim := { program := "ytcbpdhckmccjbaa", sum := "0b097fecafc158401d10e6dafac253282cac958382bb9c22952cff40e227aac5", func := "loop.example/g01623/laws.FnExactNextAddr", spec := "fnExactNextAddr", apart := false }
def FnExactNextAddrSaid : Prop := fnExactNextAddrRow.holds Try.pinned (OpenSpec.ofChange fnExactNextAddrSpec)

/-- ITS FALSE NEIGHBOUR: 'it returns false'. Refute it at one input. -/
def fnExactNextAddrWrong : ChangeSpec := { name := "fnExactNextAddr", fn := fun _ => fun
  | [d1, d2, d3] => { results := [.lit (.bool false)], args := [d1, d2, d3] }
  | _ => none }
def FnExactNextAddrWrongFalsely : Prop := fnExactNextAddrRow.holds Try.pinned (OpenSpec.ofChange fnExactNextAddrWrong)

/- THE SECOND FORM. 'bulk': how many values and letters a reading holds, each counted each time it is reached (what is shared counts as often as it is met; a slice's spare places count too). A statement '..UptoSaid' is the law's where the arguments, and the package variables that the reading takes, are together of bulk at most 1048576: NARROWER than '..Said'. Prove '..Said' where nothing that the law and all that it calls make is longer than what came in: it says more and counts as full. Else prove '..UptoSaid'. A law counts once. -/
mutual
def uptoBulk {H : Type} : DataW H → Nat
  | .lit (.string bytes) => bytes.length + 1
  | .lit _ => 1
  | .nil => 1
  | .ptr d => uptoBulk d + 1
  | .slice elems spare => uptoBulkAll elems + uptoBulkAll spare + 1
  | .agg parts => uptoBulkAll parts + 1
  | .iface _ d => uptoBulk d + 1
  | .map entries => uptoBulkEntries entries + 1
  | .held _ => 1
def uptoBulkAll {H : Type} : List (DataW H) → Nat
  | [] => 0
  | d :: r => uptoBulk d + uptoBulkAll r
def uptoBulkEntries {H : Type} : List (Lit × DataW H) → Nat
  | [] => 0
  | x :: r => uptoBulkEntry x + uptoBulkEntries r
def uptoBulkEntry {H : Type} : Lit × DataW H → Nat
  | (.string bytes, d) => bytes.length + uptoBulk d + 1
  | (_, d) => uptoBulk d + 1
 end
def uptoSmall : (H : Type) → List (DataW H) → Bool := fun _ ds => decide (uptoBulkAll ds ≤ 1048576)
def OpenSpec.upto (s : _root_.Go.ChangeSpec) : _root_.Go.OpenSpec := { _root_.Go.OpenSpec.ofChange s with cond := some uptoSmall }

/-- 'laws.FnExactConstants', WHERE WHAT IT READS IS OF BULK AT MOST 1048576: true; the input reads as it did. -/
def fnExactConstantsUptoRow : OpenClaim := { program := "ytcbpdhckmccjbaa", sum := "0b097fecafc158401d10e6dafac253282cac958382bb9c22952cff40e227aac5", func := "loop.example/g01623/laws.FnExactConstants", spec := "fnExactConstants", apart := false, narrowed := true }
def FnExactConstantsUptoSaid : Prop := fnExactConstantsUptoRow.holds Try.pinned (OpenSpec.upto fnExactConstantsSpec)

/-- 'laws.FnExactBeatsOf', WHERE WHAT IT READS IS OF BULK AT MOST 1048576: true; the input reads as it did. -/
def fnExactBeatsOfUptoRow : OpenClaim := { program := "ytcbpdhckmccjbaa", sum := "0b097fecafc158401d10e6dafac253282cac958382bb9c22952cff40e227aac5", func := "loop.example/g01623/laws.FnExactBeatsOf", spec := "fnExactBeatsOf", apart := false, narrowed := true }
def FnExactBeatsOfUptoSaid : Prop := fnExactBeatsOfUptoRow.holds Try.pinned (OpenSpec.upto fnExactBeatsOfSpec)

/-- 'laws.FnExactBytesOf', WHERE WHAT IT READS IS OF BULK AT MOST 1048576: true; the input reads as it did. -/
def fnExactBytesOfUptoRow : OpenClaim := { program := "ytcbpdhckmccjbaa", sum := "0b097fecafc158401d10e6dafac253282cac958382bb9c22952cff40e227aac5", func := "loop.example/g01623/laws.FnExactBytesOf", spec := "fnExactBytesOf", apart := false, narrowed := true }
def FnExactBytesOfUptoSaid : Prop := fnExactBytesOfUptoRow.holds Try.pinned (OpenSpec.upto fnExactBytesOfSpec)

/-- 'laws.FnExactRespWord', WHERE WHAT IT READS IS OF BULK AT MOST 1048576: true; the input reads as it did. -/
def fnExactRespWordUptoRow : OpenClaim := { program := "ytcbpdhckmccjbaa", sum := "0b097fecafc158401d10e6dafac253282cac958382bb9c22952cff40e227aac5", func := "loop.example/g01623/laws.FnExactRespWord", spec := "fnExactRespWord", apart := false, narrowed := true }
def FnExactRespWordUptoSaid : Prop := fnExactRespWordUptoRow.holds Try.pinned (OpenSpec.upto fnExactRespWordSpec)

/-- 'laws.FnExactKindWord', WHERE WHAT IT READS IS OF BULK AT MOST 1048576: true; the input reads as it did. -/
def fnExactKindWordUptoRow : OpenClaim := { program := "ytcbpdhckmccjbaa", sum := "0b097fecafc158401d10e6dafac253282cac958382bb9c22952cff40e227aac5", func := "loop.example/g01623/laws.FnExactKindWord", spec := "fnExactKindWord", apart := false, narrowed := true }
def FnExactKindWordUptoSaid : Prop := fnExactKindWordUptoRow.holds Try.pinned (OpenSpec.upto fnExactKindWordSpec)

/-- 'laws.FnExactAligned', WHERE WHAT IT READS IS OF BULK AT MOST 1048576: true; the input reads as it did. -/
def fnExactAlignedUptoRow : OpenClaim := { program := "ytcbpdhckmccjbaa", sum := "0b097fecafc158401d10e6dafac253282cac958382bb9c22952cff40e227aac5", func := "loop.example/g01623/laws.FnExactAligned", spec := "fnExactAligned", apart := false, narrowed := true }
def FnExactAlignedUptoSaid : Prop := fnExactAlignedUptoRow.holds Try.pinned (OpenSpec.upto fnExactAlignedSpec)

/-- 'laws.FnExactSlaveOf', WHERE WHAT IT READS IS OF BULK AT MOST 1048576: true; the input reads as it did. -/
def fnExactSlaveOfUptoRow : OpenClaim := { program := "ytcbpdhckmccjbaa", sum := "0b097fecafc158401d10e6dafac253282cac958382bb9c22952cff40e227aac5", func := "loop.example/g01623/laws.FnExactSlaveOf", spec := "fnExactSlaveOf", apart := false, narrowed := true }
def FnExactSlaveOfUptoSaid : Prop := fnExactSlaveOfUptoRow.holds Try.pinned (OpenSpec.upto fnExactSlaveOfSpec)

/-- 'laws.FnExactTokensMost', WHERE WHAT IT READS IS OF BULK AT MOST 1048576: true; the input reads as it did. -/
def fnExactTokensMostUptoRow : OpenClaim := { program := "ytcbpdhckmccjbaa", sum := "0b097fecafc158401d10e6dafac253282cac958382bb9c22952cff40e227aac5", func := "loop.example/g01623/laws.FnExactTokensMost", spec := "fnExactTokensMost", apart := false, narrowed := true }
def FnExactTokensMostUptoSaid : Prop := fnExactTokensMostUptoRow.holds Try.pinned (OpenSpec.upto fnExactTokensMostSpec)

/-- 'laws.FnExactLimitOf', WHERE WHAT IT READS IS OF BULK AT MOST 1048576: true; the input reads as it did. -/
def fnExactLimitOfUptoRow : OpenClaim := { program := "ytcbpdhckmccjbaa", sum := "0b097fecafc158401d10e6dafac253282cac958382bb9c22952cff40e227aac5", func := "loop.example/g01623/laws.FnExactLimitOf", spec := "fnExactLimitOf", apart := false, narrowed := true }
def FnExactLimitOfUptoSaid : Prop := fnExactLimitOfUptoRow.holds Try.pinned (OpenSpec.upto fnExactLimitOfSpec)

/-- 'laws.FnExactBucketOk', WHERE WHAT IT READS IS OF BULK AT MOST 1048576: true; the input reads as it did. -/
def fnExactBucketOkUptoRow : OpenClaim := { program := "ytcbpdhckmccjbaa", sum := "0b097fecafc158401d10e6dafac253282cac958382bb9c22952cff40e227aac5", func := "loop.example/g01623/laws.FnExactBucketOk", spec := "fnExactBucketOk", apart := false, narrowed := true }
def FnExactBucketOkUptoSaid : Prop := fnExactBucketOkUptoRow.holds Try.pinned (OpenSpec.upto fnExactBucketOkSpec)

/-- 'laws.FnExactBucketNew', WHERE WHAT IT READS IS OF BULK AT MOST 1048576: true; the input reads as it did. -/
def fnExactBucketNewUptoRow : OpenClaim := { program := "ytcbpdhckmccjbaa", sum := "0b097fecafc158401d10e6dafac253282cac958382bb9c22952cff40e227aac5", func := "loop.example/g01623/laws.FnExactBucketNew", spec := "fnExactBucketNew", apart := false, narrowed := true }
def FnExactBucketNewUptoSaid : Prop := fnExactBucketNewUptoRow.holds Try.pinned (OpenSpec.upto fnExactBucketNewSpec)

/-- 'laws.FnExactNextAddr', WHERE WHAT IT READS IS OF BULK AT MOST 1048576: true; the input reads as it did. -/
def fnExactNextAddrUptoRow : OpenClaim := { program := "ytcbpdhckmccjbaa", sum := "0b097fecafc158401d10e6dafac253282cac958382bb9c22952cff40e227aac5", func := "loop.example/g01623/laws.FnExactNextAddr", spec := "fnExactNextAddr", apart := false, narrowed := true }
def FnExactNextAddrUptoSaid : Prop := fnExactNextAddrUptoRow.holds Try.pinned (OpenSpec.upto fnExactNextAddrSpec)

end Rows
end Go.Proofs.Ytcbpdhckmccjbaa
