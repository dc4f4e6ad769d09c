/-
  No cell of these rows narrows 'for every input' (looked for: loops, veiled, ifaces, maps, wideKeys, modest, calm, conditions, laid).
  DERIVED. THE GIVEN ROWS OF THIS SEAT. 9 by the template 'for every input the law returns true; each argument reads behind the call as it read before'; 0 by the template 'total and deterministic' (their statements: YtbljihnmljcgiaaTotals.lean).
  GIVEN WITH THE SEED: the statements are not yours to turn. If you find one false, say at which input.
  Laid BY PROGRAM, IN A SANDBOX (cutbox-rows.mjs): the forced cells as the released guide's own fill.sh prints them over the translation 651c0fd81e48390b… (all of the seat's roots in one cut). By AI agents, Wed Nov 11 2026. No macro, syntax, notation, axiom, sorry.
-/
import Derived.Test.YtbljihnmljcgiaaChecked
import GoSem.Claim
import GoSem.ClaimJoined
import GoSem.ClaimMapViews
import Derived.JoinedTies
import Derived.KernelRfl
namespace Go.Proofs.Ytbljihnmljcgiaa
/- THE CELL 'sum', in the pinned program and in every row, IS THE sha256 OF THE DUMP (.gsa) THAT YtbljihnmljcgiaaProg.lean LOADS. Nothing in Lean hashes anything: it is a label: what it is worth is what the hold of that sum in a sandbox is worth. -/
noncomputable def Try.pinned : Pinned := { name := "ytbljihnmljcgiaa", sum := "651c0fd81e48390b68c2acca63de35d104a2658f2937222719e009012292e1c0", checked := Try.checked }
namespace Rows
def none {H : Type} : Left H := { results := [], args := [] }

/-- 'laws.FnExactMerge': WHATEVER THE INPUT: true; the input reads as it did. -/
def fnExactMergeSpec : ChangeSpec := { name := "fnExactMerge", fn := fun _ => fun
  | [d1, d2, d3, d4] => { results := [.lit (.bool true)], args := [d1, d2, d3, d4] }
  | _ => none }
def fnExactMergeRow : OpenClaim := { program := "ytbljihnmljcgiaa", sum := "651c0fd81e48390b68c2acca63de35d104a2658f2937222719e009012292e1c0", func := "loop.example/g01623/laws.FnExactMerge", spec := "fnExactMerge", apart := false }
def FnExactMergeSaid : Prop := fnExactMergeRow.holds Try.pinned (OpenSpec.ofChange fnExactMergeSpec)

/-- ITS FALSE NEIGHBOUR: 'it returns false'. Refute it at one input. -/
def fnExactMergeWrong : ChangeSpec := { name := "fnExactMerge", fn := fun _ => fun
  | [d1, d2, d3, d4] => { results := [.lit (.bool false)], args := [d1, d2, d3, d4] }
  | _ => none }
def FnExactMergeWrongFalsely : Prop := fnExactMergeRow.holds Try.pinned (OpenSpec.ofChange fnExactMergeWrong)

/-- 'laws.FnExactStrobes': WHATEVER THE INPUT: true; the input reads as it did. -/
def fnExactStrobesSpec : ChangeSpec := { name := "fnExactStrobes", fn := fun _ => fun
  | [d1, d2] => { results := [.lit (.bool true)], args := [d1, d2] }
  | _ => none }
def fnExactStrobesRow : OpenClaim := { program := "ytbljihnmljcgiaa", sum := "651c0fd81e48390b68c2acca63de35d104a2658f2937222719e009012292e1c0", func := "loop.example/g01623/laws.FnExactStrobes", spec := "fnExactStrobes", apart := false }
def FnExactStrobesSaid : Prop := fnExactStrobesRow.holds Try.pinned (OpenSpec.ofChange fnExactStrobesSpec)

/-- ITS FALSE NEIGHBOUR: 'it returns false'. Refute it at one input. -/
def fnExactStrobesWrong : ChangeSpec := { name := "fnExactStrobes", fn := fun _ => fun
  | [d1, d2] => { results := [.lit (.bool false)], args := [d1, d2] }
  | _ => none }
def FnExactStrobesWrongFalsely : Prop := fnExactStrobesRow.holds Try.pinned (OpenSpec.ofChange fnExactStrobesWrong)

/-- 'laws.FnExactBurstAddrs': WHATEVER THE INPUT: true; the input reads as it did. -/
def fnExactBurstAddrsSpec : ChangeSpec := { name := "fnExactBurstAddrs", fn := fun _ => fun
  | [d1, d2, d3] => { results := [.lit (.bool true)], args := [d1, d2, d3] }
  | _ => none }
def fnExactBurstAddrsRow : OpenClaim := { program := "ytbljihnmljcgiaa", sum := "651c0fd81e48390b68c2acca63de35d104a2658f2937222719e009012292e1c0", func := "loop.example/g01623/laws.FnExactBurstAddrs", spec := "fnExactBurstAddrs", apart := false }
def FnExactBurstAddrsSaid : Prop := fnExactBurstAddrsRow.holds Try.pinned (OpenSpec.ofChange fnExactBurstAddrsSpec)

/-- ITS FALSE NEIGHBOUR: 'it returns false'. Refute it at one input. -/
def fnExactBurstAddrsWrong : ChangeSpec := { name := "fnExactBurstAddrs", fn := fun _ => fun
  | [d1, d2, d3] => { results := [.lit (.bool false)], args := [d1, d2, d3] }
  | _ => none }
def FnExactBurstAddrsWrongFalsely : Prop := fnExactBurstAddrsRow.holds Try.pinned (OpenSpec.ofChange fnExactBurstAddrsWrong)

/-- 'laws.FnExactBurstOk': WHATEVER THE INPUT: true; the input reads as it did. -/
def fnExactBurstOkSpec : ChangeSpec := { name := "fnExactBurstOk", fn := fun _ => fun
  | [d1, d2, d3] => { results := [.lit (.bool true)], args := [d1, d2, d3] }
  | _ => none }
def fnExactBurstOkRow : OpenClaim := { program := "ytbljihnmljcgiaa", sum := "651c0fd81e48390b68c2acca63de35d104a2658f2937222719e009012292e1c0", func := "loop.example/g01623/laws.FnExactBurstOk", spec := "fnExactBurstOk", apart := false }
def FnExactBurstOkSaid : Prop := fnExactBurstOkRow.holds Try.pinned (OpenSpec.ofChange fnExactBurstOkSpec)

/-- ITS FALSE NEIGHBOUR: 'it returns false'. Refute it at one input. -/
def fnExactBurstOkWrong : ChangeSpec := { name := "fnExactBurstOk", fn := fun _ => fun
  | [d1, d2, d3] => { results := [.lit (.bool false)], args := [d1, d2, d3] }
  | _ => none }
def FnExactBurstOkWrongFalsely : Prop := fnExactBurstOkRow.holds Try.pinned (OpenSpec.ofChange fnExactBurstOkWrong)

/-- 'laws.FnExactGetNum': WHATEVER THE INPUT: true; the input reads as it did. -/
def fnExactGetNumSpec : ChangeSpec := { name := "fnExactGetNum", fn := fun _ => fun
  | [d1, d2, d3] => { results := [.lit (.bool true)], args := [d1, d2, d3] }
  | _ => none }
def fnExactGetNumRow : OpenClaim := { program := "ytbljihnmljcgiaa", sum := "651c0fd81e48390b68c2acca63de35d104a2658f2937222719e009012292e1c0", func := "loop.example/g01623/laws.FnExactGetNum", spec := "fnExactGetNum", unfollowed := true, recurses := true, apart := false }
def FnExactGetNumSaid : Prop := fnExactGetNumRow.holds Try.pinned (OpenSpec.ofChange fnExactGetNumSpec)

/-- ITS FALSE NEIGHBOUR: 'it returns false'. Refute it at one input. -/
def fnExactGetNumWrong : ChangeSpec := { name := "fnExactGetNum", fn := fun _ => fun
  | [d1, d2, d3] => { results := [.lit (.bool false)], args := [d1, d2, d3] }
  | _ => none }
def FnExactGetNumWrongFalsely : Prop := fnExactGetNumRow.holds Try.pinned (OpenSpec.ofChange fnExactGetNumWrong)

/-- 'laws.FnExactPutNum': WHATEVER THE INPUT: true; the input reads as it did. -/
def fnExactPutNumSpec : ChangeSpec := { name := "fnExactPutNum", fn := fun _ => fun
  | [d1, d2, d3, d4] => { results := [.lit (.bool true)], args := [d1, d2, d3, d4] }
  | _ => none }
def fnExactPutNumRow : OpenClaim := { program := "ytbljihnmljcgiaa", sum := "651c0fd81e48390b68c2acca63de35d104a2658f2937222719e009012292e1c0", func := "loop.example/g01623/laws.FnExactPutNum", spec := "fnExactPutNum", unfollowed := true, recurses := true, apart := false }
def FnExactPutNumSaid : Prop := fnExactPutNumRow.holds Try.pinned (OpenSpec.ofChange fnExactPutNumSpec)

/-- ITS FALSE NEIGHBOUR: 'it returns false'. Refute it at one input. -/
def fnExactPutNumWrong : ChangeSpec := { name := "fnExactPutNum", fn := fun _ => fun
  | [d1, d2, d3, d4] => { results := [.lit (.bool false)], args := [d1, d2, d3, d4] }
  | _ => none }
def FnExactPutNumWrongFalsely : Prop := fnExactPutNumRow.holds Try.pinned (OpenSpec.ofChange fnExactPutNumWrong)

/-- 'laws.FnMerged': WHATEVER THE INPUT: true; the input reads as it did. -/
def fnMergedSpec : ChangeSpec := { name := "fnMerged", fn := fun _ => fun
  | [d] => { results := [.lit (.bool true)], args := [d] }
  | _ => none }
def fnMergedRow : OpenClaim := { program := "ytbljihnmljcgiaa", sum := "651c0fd81e48390b68c2acca63de35d104a2658f2937222719e009012292e1c0", func := "loop.example/g01623/laws.FnMerged", spec := "fnMerged", apart := false }
def FnMergedSaid : Prop := fnMergedRow.holds Try.pinned (OpenSpec.ofChange fnMergedSpec)

/-- ITS FALSE NEIGHBOUR: 'it returns false'. Refute it at one input. -/
def fnMergedWrong : ChangeSpec := { name := "fnMerged", fn := fun _ => fun
  | [d] => { results := [.lit (.bool false)], args := [d] }
  | _ => none }
def FnMergedWrongFalsely : Prop := fnMergedRow.holds Try.pinned (OpenSpec.ofChange fnMergedWrong)

/-- 'laws.FnBursts': WHATEVER THE INPUT: true; the input reads as it did. -/
def fnBurstsSpec : ChangeSpec := { name := "fnBursts", fn := fun _ => fun
  | [d] => { results := [.lit (.bool true)], args := [d] }
  | _ => none }
def fnBurstsRow : OpenClaim := { program := "ytbljihnmljcgiaa", sum := "651c0fd81e48390b68c2acca63de35d104a2658f2937222719e009012292e1c0", func := "loop.example/g01623/laws.FnBursts", spec := "fnBursts", apart := false }
def FnBurstsSaid : Prop := fnBurstsRow.holds Try.pinned (OpenSpec.ofChange fnBurstsSpec)

/-- ITS FALSE NEIGHBOUR: 'it returns false'. Refute it at one input. -/
def fnBurstsWrong : ChangeSpec := { name := "fnBursts", fn := fun _ => fun
  | [d] => { results := [.lit (.bool false)], args := [d] }
  | _ => none }
def FnBurstsWrongFalsely : Prop := fnBurstsRow.holds Try.pinned (OpenSpec.ofChange fnBurstsWrong)

/-- 'laws.FnNums': WHATEVER THE INPUT: true; the input reads as it did. -/
def fnNumsSpec : ChangeSpec := { name := "fnNums", fn := fun _ => fun
  | [d] => { results := [.lit (.bool true)], args := [d] }
  | _ => none }
def fnNumsRow : OpenClaim := { program := "ytbljihnmljcgiaa", sum := "651c0fd81e48390b68c2acca63de35d104a2658f2937222719e009012292e1c0", func := "loop.example/g01623/laws.FnNums", spec := "fnNums", unfollowed := true, recurses := true, apart := false }
def FnNumsSaid : Prop := fnNumsRow.holds Try.pinned (OpenSpec.ofChange fnNumsSpec)

/-- ITS FALSE NEIGHBOUR: 'it returns false'. Refute it at one input. -/
def fnNumsWrong : ChangeSpec := { name := "fnNums", fn := fun _ => fun
  | [d] => { results := [.lit (.bool false)], args := [d] }
  | _ => none }
def FnNumsWrongFalsely : Prop := fnNumsRow.holds Try.pinned (OpenSpec.ofChange fnNumsWrong)

/- THE SECOND FORM. 'bulk': how many values and letters a reading holds, each counted each time it is reached (what is shared counts as often as it is met; a slice's spare places count too). A statement '..UptoSaid' is the law's where the arguments, and the package variables that the reading takes, are together of bulk at most 1048576: NARROWER than '..Said'. Prove '..Said' where nothing that the law and all that it calls make is longer than what came in: it says more and counts as full. Else prove '..UptoSaid'. A law counts once. -/
mutual
def uptoBulk {H : Type} : DataW H → Nat
  | .lit (.string bytes) => bytes.length + 1
  | .lit _ => 1
  | .nil => 1
  | .ptr d => uptoBulk d + 1
  | .slice elems spare => uptoBulkAll elems + uptoBulkAll spare + 1
  | .agg parts => uptoBulkAll parts + 1
  | .iface _ d => uptoBulk d + 1
  | .map entries => uptoBulkEntries entries + 1
  | .held _ => 1
def uptoBulkAll {H : Type} : List (DataW H) → Nat
  | [] => 0
  | d :: r => uptoBulk d + uptoBulkAll r
def uptoBulkEntries {H : Type} : List (Lit × DataW H) → Nat
  | [] => 0
  | x :: r => uptoBulkEntry x + uptoBulkEntries r
def uptoBulkEntry {H : Type} : Lit × DataW H → Nat
  | (.string bytes, d) => bytes.length + uptoBulk d + 1
  | (_, d) => uptoBulk d + 1
 end
def uptoSmall : (H : Type) → List (DataW H) → Bool := fun _ ds => decide (uptoBulkAll ds ≤ 1048576)
def OpenSpec.upto (s : _root_.Go.ChangeSpec) : _root_.Go.OpenSpec := { _root_.Go.OpenSpec.ofChange s with cond := some uptoSmall }

/-- 'laws.FnExactMerge', WHERE WHAT IT READS IS OF BULK AT MOST 1048576: true; the input reads as it did. -/
def fnExactMergeUptoRow : OpenClaim := { program := "ytbljihnmljcgiaa", sum := "651c0fd81e48390b68c2acca63de35d104a2658f2937222719e009012292e1c0", func := "loop.example/g01623/laws.FnExactMerge", spec := "fnExactMerge", apart := false, narrowed := true }
def FnExactMergeUptoSaid : Prop := fnExactMergeUptoRow.holds Try.pinned (OpenSpec.upto fnExactMergeSpec)

/-- 'laws.FnExactStrobes', WHERE WHAT IT READS IS OF BULK AT MOST 1048576: true; the input reads as it did. -/
def fnExactStrobesUptoRow : OpenClaim := { program := "ytbljihnmljcgiaa", sum := "651c0fd81e48390b68c2acca63de35d104a2658f2937222719e009012292e1c0", func := "loop.example/g01623/laws.FnExactStrobes", spec := "fnExactStrobes", apart := false, narrowed := true }
def FnExactStrobesUptoSaid : Prop := fnExactStrobesUptoRow.holds Try.pinned (OpenSpec.upto fnExactStrobesSpec)

/-- 'laws.FnExactBurstAddrs', WHERE WHAT IT READS IS OF BULK AT MOST 1048576: true; the input reads as it did. -/
def fnExactBurstAddrsUptoRow : OpenClaim := { program := "ytbljihnmljcgiaa", sum := "651c0fd81e48390b68c2acca63de35d104a2658f2937222719e009012292e1c0", func := "loop.example/g01623/laws.FnExactBurstAddrs", spec := "fnExactBurstAddrs", apart := false, narrowed := true }
def FnExactBurstAddrsUptoSaid : Prop := fnExactBurstAddrsUptoRow.holds Try.pinned (OpenSpec.upto fnExactBurstAddrsSpec)

/-- 'laws.FnExactBurstOk', WHERE WHAT IT READS IS OF BULK AT MOST 1048576: true; the input reads as it did. -/
def fnExactBurstOkUptoRow : OpenClaim := { program := "ytbljihnmljcgiaa", sum := "651c0fd81e48390b68c2acca63de35d104a2658f2937222719e009012292e1c0", func := "loop.example/g01623/laws.FnExactBurstOk", spec := "fnExactBurstOk", apart := false, narrowed := true }
def FnExactBurstOkUptoSaid : Prop := fnExactBurstOkUptoRow.holds Try.pinned (OpenSpec.upto fnExactBurstOkSpec)

/-- 'laws.FnExactGetNum', WHERE WHAT IT READS IS OF BULK AT MOST 1048576: true; the input reads as it did. -/
def fnExactGetNumUptoRow : OpenClaim := { program := "ytbljihnmljcgiaa", sum := "651c0fd81e48390b68c2acca63de35d104a2658f2937222719e009012292e1c0", func := "loop.example/g01623/laws.FnExactGetNum", spec := "fnExactGetNum", unfollowed := true, recurses := true, apart := false, narrowed := true }
def FnExactGetNumUptoSaid : Prop := fnExactGetNumUptoRow.holds Try.pinned (OpenSpec.upto fnExactGetNumSpec)

/-- 'laws.FnExactPutNum', WHERE WHAT IT READS IS OF BULK AT MOST 1048576: true; the input reads as it did. -/
def fnExactPutNumUptoRow : OpenClaim := { program := "ytbljihnmljcgiaa", sum := "651c0fd81e48390b68c2acca63de35d104a2658f2937222719e009012292e1c0", func := "loop.example/g01623/laws.FnExactPutNum", spec := "fnExactPutNum", unfollowed := true, recurses := true, apart := false, narrowed := true }
def FnExactPutNumUptoSaid : Prop := fnExactPutNumUptoRow.holds Try.pinned (OpenSpec.upto fnExactPutNumSpec)

/-- 'laws.FnMerged', WHERE WHAT IT READS IS OF BULK AT MOST 1048576: true; the input reads as it did. -/
def fnMergedUptoRow : OpenClaim := { program := "ytbljihnmljcgiaa", sum := "651c0fd81e48390b68c2acca63de35d104a2658f2937222719e009012292e1c0", func := "loop.example/g01623/laws.FnMerged", spec := "fnMerged", apart := false, narrowed := true }
def FnMergedUptoSaid : Prop := fnMergedUptoRow.holds Try.pinned (OpenSpec.upto fnMergedSpec)

/-- 'laws.FnBursts', WHERE WHAT IT READS IS OF BULK AT MOST 1048576: true; the input reads as it did. -/
def fnBurstsUptoRow : OpenClaim := { program := "ytbljihnmljcgiaa", sum := "651c0fd81e48390b68c2acca63de35d104a2658f2937222719e009012292e1c0", func := "loop.example/g01623/laws.FnBursts", spec := "fnBursts", apart := false, narrowed := true }
def FnBurstsUptoSaid : Prop := fnBurstsUptoRow.holds Try.pinned (OpenSpec.upto fnBurstsSpec)

/-- 'laws.FnNums', WHERE WHAT IT READS IS OF BULK AT MOST 1048576: true; the input reads as it did. -/
def fnNumsUptoRow : OpenClaim := { program := "ytbljihnmljcgiaa", sum := "651c0fd81e48390b68c2acca63de35d104a2658f2937222719e009012292e1c0", func := "loop.example/g01623/laws.FnNums", spec := "fnNums", unfollowed := true, recurses := true, apart := false, narrowed := true }
def FnNumsUptoSaid : Prop := fnNumsUptoRow.holds Try.pinned (OpenSpec.upto fnNumsSpec)

end Rows
end Go.Proofs.Ytbljihnmljcgiaa
