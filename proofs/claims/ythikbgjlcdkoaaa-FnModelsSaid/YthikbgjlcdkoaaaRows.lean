/-
  No cell of these rows narrows 'for every input' (looked for: loops, veiled, ifaces, maps, wideKeys, modest, calm, conditions, laid).
  DERIVED. THE GIVEN ROWS OF THIS SEAT. 10 by the template 'for every input the law returns true; each argument reads behind the call as it read before'; 0 by the template 'total and deterministic' (their statements: YthikbgjlcdkoaaaTotals.lean).
  GIVEN WITH THE SEED: the statements are not yours to turn. If you find one false, say at which input.
  Laid BY PROGRAM, IN A SANDBOX (cutbox-rows.mjs): the forced cells as the released guide's own fill.sh prints them over the translation 4d45d3092ba1ce3b… (all of the seat's roots in one cut). By AI agents, Wed Nov 11 2026. No macro, syntax, notation, axiom, sorry.
-/
import Derived.Test.YthikbgjlcdkoaaaChecked
import GoSem.Claim
import GoSem.ClaimJoined
import GoSem.ClaimMapViews
import Derived.JoinedTies
import Derived.KernelRfl
namespace Go.Proofs.Ythikbgjlcdkoaaa
/- THE CELL 'sum', in the pinned program and in every row, IS THE sha256 OF THE DUMP (.gsa) THAT YthikbgjlcdkoaaaProg.lean LOADS. Nothing in Lean hashes anything: it is a label: what it is worth is what the hold of that sum in a sandbox is worth. -/
noncomputable def Try.pinned : Pinned := { name := "ythikbgjlcdkoaaa", sum := "4d45d3092ba1ce3b23bf49a376b3cad0e670acf70a633f6270333c7a499879dc", checked := Try.checked }
namespace Rows
def none {H : Type} : Left H := { results := [], args := [] }

/-- 'laws.FnModels': WHATEVER THE INPUT: true; the input reads as it did. -/
def fnModelsSpec : ChangeSpec := { name := "fnModels", fn := fun _ => fun
  | [d] => { results := [.lit (.bool true)], args := [d] }
  | _ => none }
def fnModelsRow : OpenClaim := { program := "ythikbgjlcdkoaaa", sum := "4d45d3092ba1ce3b23bf49a376b3cad0e670acf70a633f6270333c7a499879dc", func := "loop.example/g01623/laws.FnModels", spec := "fnModels", unfollowed := true, recurses := true, apart := false }
def FnModelsSaid : Prop := fnModelsRow.holds Try.pinned (OpenSpec.ofChange fnModelsSpec)

/-- ITS FALSE NEIGHBOUR: 'it returns false'. Refute it at one input. -/
def fnModelsWrong : ChangeSpec := { name := "fnModels", fn := fun _ => fun
  | [d] => { results := [.lit (.bool false)], args := [d] }
  | _ => none }
def FnModelsWrongFalsely : Prop := fnModelsRow.holds Try.pinned (OpenSpec.ofChange fnModelsWrong)

/-- 'laws.FnExactModelDo': WHATEVER THE INPUT: true; the input reads as it did. -/
def fnExactModelDoSpec : ChangeSpec := { name := "fnExactModelDo", fn := fun _ => fun
  | [d1, d2, d3, d4, d5] => { results := [.lit (.bool true)], args := [d1, d2, d3, d4, d5] }
  | _ => none }
def fnExactModelDoRow : OpenClaim := { program := "ythikbgjlcdkoaaa", sum := "4d45d3092ba1ce3b23bf49a376b3cad0e670acf70a633f6270333c7a499879dc", func := "loop.example/g01623/laws.FnExactModelDo", spec := "fnExactModelDo", unfollowed := true, recurses := true, apart := false }
def FnExactModelDoSaid : Prop := fnExactModelDoRow.holds Try.pinned (OpenSpec.ofChange fnExactModelDoSpec)

/-- ITS FALSE NEIGHBOUR: 'it returns false'. Refute it at one input. -/
def fnExactModelDoWrong : ChangeSpec := { name := "fnExactModelDo", fn := fun _ => fun
  | [d1, d2, d3, d4, d5] => { results := [.lit (.bool false)], args := [d1, d2, d3, d4, d5] }
  | _ => none }
def FnExactModelDoWrongFalsely : Prop := fnExactModelDoRow.holds Try.pinned (OpenSpec.ofChange fnExactModelDoWrong)

/-- 'laws.FnExactDevNew': WHATEVER THE INPUT: true; the input reads as it did. -/
def fnExactDevNewSpec : ChangeSpec := { name := "fnExactDevNew", fn := fun _ => fun
  | [] => { results := [.lit (.bool true)], args := [] }
  | _ => none }
def fnExactDevNewRow : OpenClaim := { program := "ythikbgjlcdkoaaa", sum := "4d45d3092ba1ce3b23bf49a376b3cad0e670acf70a633f6270333c7a499879dc", func := "loop.example/g01623/laws.FnExactDevNew", spec := "fnExactDevNew", apart := false }
def FnExactDevNewSaid : Prop := fnExactDevNewRow.holds Try.pinned (OpenSpec.ofChange fnExactDevNewSpec)

/-- ITS FALSE NEIGHBOUR: 'it returns false'. Refute it at one input. -/
def fnExactDevNewWrong : ChangeSpec := { name := "fnExactDevNew", fn := fun _ => fun
  | [] => { results := [.lit (.bool false)], args := [] }
  | _ => none }
def FnExactDevNewWrongFalsely : Prop := fnExactDevNewRow.holds Try.pinned (OpenSpec.ofChange fnExactDevNewWrong)

/-- 'laws.FnExactSameDev': WHATEVER THE INPUT: true; the input reads as it did. -/
def fnExactSameDevSpec : ChangeSpec := { name := "fnExactSameDev", fn := fun _ => fun
  | [d1, d2] => { results := [.lit (.bool true)], args := [d1, d2] }
  | _ => none }
def fnExactSameDevRow : OpenClaim := { program := "ythikbgjlcdkoaaa", sum := "4d45d3092ba1ce3b23bf49a376b3cad0e670acf70a633f6270333c7a499879dc", func := "loop.example/g01623/laws.FnExactSameDev", spec := "fnExactSameDev", apart := false }
def FnExactSameDevSaid : Prop := fnExactSameDevRow.holds Try.pinned (OpenSpec.ofChange fnExactSameDevSpec)

/-- ITS FALSE NEIGHBOUR: 'it returns false'. Refute it at one input. -/
def fnExactSameDevWrong : ChangeSpec := { name := "fnExactSameDev", fn := fun _ => fun
  | [d1, d2] => { results := [.lit (.bool false)], args := [d1, d2] }
  | _ => none }
def FnExactSameDevWrongFalsely : Prop := fnExactSameDevRow.holds Try.pinned (OpenSpec.ofChange fnExactSameDevWrong)

/-- 'laws.FnExactModelNew': WHATEVER THE INPUT: true; the input reads as it did. -/
def fnExactModelNewSpec : ChangeSpec := { name := "fnExactModelNew", fn := fun _ => fun
  | [] => { results := [.lit (.bool true)], args := [] }
  | _ => none }
def fnExactModelNewRow : OpenClaim := { program := "ythikbgjlcdkoaaa", sum := "4d45d3092ba1ce3b23bf49a376b3cad0e670acf70a633f6270333c7a499879dc", func := "loop.example/g01623/laws.FnExactModelNew", spec := "fnExactModelNew", apart := false }
def FnExactModelNewSaid : Prop := fnExactModelNewRow.holds Try.pinned (OpenSpec.ofChange fnExactModelNewSpec)

/-- ITS FALSE NEIGHBOUR: 'it returns false'. Refute it at one input. -/
def fnExactModelNewWrong : ChangeSpec := { name := "fnExactModelNew", fn := fun _ => fun
  | [] => { results := [.lit (.bool false)], args := [] }
  | _ => none }
def FnExactModelNewWrongFalsely : Prop := fnExactModelNewRow.holds Try.pinned (OpenSpec.ofChange fnExactModelNewWrong)

/-- 'laws.FnExactDevOk': WHATEVER THE INPUT: true; the input reads as it did. -/
def fnExactDevOkSpec : ChangeSpec := { name := "fnExactDevOk", fn := fun _ => fun
  | [d] => { results := [.lit (.bool true)], args := [d] }
  | _ => none }
def fnExactDevOkRow : OpenClaim := { program := "ythikbgjlcdkoaaa", sum := "4d45d3092ba1ce3b23bf49a376b3cad0e670acf70a633f6270333c7a499879dc", func := "loop.example/g01623/laws.FnExactDevOk", spec := "fnExactDevOk", unfollowed := true, recurses := true, apart := false }
def FnExactDevOkSaid : Prop := fnExactDevOkRow.holds Try.pinned (OpenSpec.ofChange fnExactDevOkSpec)

/-- ITS FALSE NEIGHBOUR: 'it returns false'. Refute it at one input. -/
def fnExactDevOkWrong : ChangeSpec := { name := "fnExactDevOk", fn := fun _ => fun
  | [d] => { results := [.lit (.bool false)], args := [d] }
  | _ => none }
def FnExactDevOkWrongFalsely : Prop := fnExactDevOkRow.holds Try.pinned (OpenSpec.ofChange fnExactDevOkWrong)

/-- 'laws.FnExactSameModel': WHATEVER THE INPUT: true; the input reads as it did. -/
def fnExactSameModelSpec : ChangeSpec := { name := "fnExactSameModel", fn := fun _ => fun
  | [d1, d2] => { results := [.lit (.bool true)], args := [d1, d2] }
  | _ => none }
def fnExactSameModelRow : OpenClaim := { program := "ythikbgjlcdkoaaa", sum := "4d45d3092ba1ce3b23bf49a376b3cad0e670acf70a633f6270333c7a499879dc", func := "loop.example/g01623/laws.FnExactSameModel", spec := "fnExactSameModel", apart := false }
def FnExactSameModelSaid : Prop := fnExactSameModelRow.holds Try.pinned (OpenSpec.ofChange fnExactSameModelSpec)

/-- ITS FALSE NEIGHBOUR: 'it returns false'. Refute it at one input. -/
def fnExactSameModelWrong : ChangeSpec := { name := "fnExactSameModel", fn := fun _ => fun
  | [d1, d2] => { results := [.lit (.bool false)], args := [d1, d2] }
  | _ => none }
def FnExactSameModelWrongFalsely : Prop := fnExactSameModelRow.holds Try.pinned (OpenSpec.ofChange fnExactSameModelWrong)

/-- 'laws.FnExactModelOk': WHATEVER THE INPUT: true; the input reads as it did. -/
def fnExactModelOkSpec : ChangeSpec := { name := "fnExactModelOk", fn := fun _ => fun
  | [d] => { results := [.lit (.bool true)], args := [d] }
  | _ => none }
def fnExactModelOkRow : OpenClaim := { program := "ythikbgjlcdkoaaa", sum := "4d45d3092ba1ce3b23bf49a376b3cad0e670acf70a633f6270333c7a499879dc", func := "loop.example/g01623/laws.FnExactModelOk", spec := "fnExactModelOk", unfollowed := true, recurses := true, apart := false }
def FnExactModelOkSaid : Prop := fnExactModelOkRow.holds Try.pinned (OpenSpec.ofChange fnExactModelOkSpec)

/-- ITS FALSE NEIGHBOUR: 'it returns false'. Refute it at one input. -/
def fnExactModelOkWrong : ChangeSpec := { name := "fnExactModelOk", fn := fun _ => fun
  | [d] => { results := [.lit (.bool false)], args := [d] }
  | _ => none }
def FnExactModelOkWrongFalsely : Prop := fnExactModelOkRow.holds Try.pinned (OpenSpec.ofChange fnExactModelOkWrong)

/-- 'laws.FnDevices': WHATEVER THE INPUT: true; the input reads as it did. -/
def fnDevicesSpec : ChangeSpec := { name := "fnDevices", fn := fun _ => fun
  | [d] => { results := [.lit (.bool true)], args := [d] }
  | _ => none }
def fnDevicesRow : OpenClaim := { program := "ythikbgjlcdkoaaa", sum := "4d45d3092ba1ce3b23bf49a376b3cad0e670acf70a633f6270333c7a499879dc", func := "loop.example/g01623/laws.FnDevices", spec := "fnDevices", unfollowed := true, recurses := true, apart := false }
def FnDevicesSaid : Prop := fnDevicesRow.holds Try.pinned (OpenSpec.ofChange fnDevicesSpec)

/-- ITS FALSE NEIGHBOUR: 'it returns false'. Refute it at one input. -/
def fnDevicesWrong : ChangeSpec := { name := "fnDevices", fn := fun _ => fun
  | [d] => { results := [.lit (.bool false)], args := [d] }
  | _ => none }
def FnDevicesWrongFalsely : Prop := fnDevicesRow.holds Try.pinned (OpenSpec.ofChange fnDevicesWrong)

/-- 'laws.FnExactDevDo': WHATEVER THE INPUT: true; the input reads as it did. -/
def fnExactDevDoSpec : ChangeSpec := { name := "fnExactDevDo", fn := fun _ => fun
  | [d1, d2, d3, d4] => { results := [.lit (.bool true)], args := [d1, d2, d3, d4] }
  | _ => none }
def fnExactDevDoRow : OpenClaim := { program := "ythikbgjlcdkoaaa", sum := "4d45d3092ba1ce3b23bf49a376b3cad0e670acf70a633f6270333c7a499879dc", func := "loop.example/g01623/laws.FnExactDevDo", spec := "fnExactDevDo", unfollowed := true, recurses := true, apart := false }
def FnExactDevDoSaid : Prop := fnExactDevDoRow.holds Try.pinned (OpenSpec.ofChange fnExactDevDoSpec)

/-- ITS FALSE NEIGHBOUR: 'it returns false'. Refute it at one input. -/
def fnExactDevDoWrong : ChangeSpec := { name := "fnExactDevDo", fn := fun _ => fun
  | [d1, d2, d3, d4] => { results := [.lit (.bool false)], args := [d1, d2, d3, d4] }
  | _ => none }
def FnExactDevDoWrongFalsely : Prop := fnExactDevDoRow.holds Try.pinned (OpenSpec.ofChange fnExactDevDoWrong)

/- THE SECOND FORM. 'bulk': how many values and letters a reading holds, each counted each time it is reached (what is shared counts as often as it is met; a slice's spare places count too). A statement '..UptoSaid' is the law's where the arguments, and the package variables that the reading takes, are together of bulk at most 1048576: NARROWER than '..Said'. Prove '..Said' where nothing that the law and all that it calls make is longer than what came in: it says more and counts as full. Else prove '..UptoSaid'. A law counts once. -/
mutual
def uptoBulk {H : Type} : DataW H → Nat
  | .lit (.string bytes) => bytes.length + 1
  | .lit _ => 1
  | .nil => 1
  | .ptr d => uptoBulk d + 1
  | .slice elems spare => uptoBulkAll elems + uptoBulkAll spare + 1
  | .agg parts => uptoBulkAll parts + 1
  | .iface _ d => uptoBulk d + 1
  | .map entries => uptoBulkEntries entries + 1
  | .held _ => 1
def uptoBulkAll {H : Type} : List (DataW H) → Nat
  | [] => 0
  | d :: r => uptoBulk d + uptoBulkAll r
def uptoBulkEntries {H : Type} : List (Lit × DataW H) → Nat
  | [] => 0
  | x :: r => uptoBulkEntry x + uptoBulkEntries r
def uptoBulkEntry {H : Type} : Lit × DataW H → Nat
  | (.string bytes, d) => bytes.length + uptoBulk d + 1
  | (_, d) => uptoBulk d + 1
 end
def uptoSmall : (H : Type) → List (DataW H) → Bool := fun _ ds => decide (uptoBulkAll ds ≤ 1048576)
def OpenSpec.upto (s : _root_.Go.ChangeSpec) : _root_.Go.OpenSpec := { _root_.Go.OpenSpec.ofChange s with cond := some uptoSmall }

/-- 'laws.FnModels', WHERE WHAT IT READS IS OF BULK AT MOST 1048576: true; the input reads as it did. -/
def fnModelsUptoRow : OpenClaim := { program := "ythikbgjlcdkoaaa", sum := "4d45d3092ba1ce3b23bf49a376b3cad0e670acf70a633f6270333c7a499879dc", func := "loop.example/g01623/laws.FnModels", spec := "fnModels", unfollowed := true, recurses := true, apart := false, narrowed := true }
def FnModelsUptoSaid : Prop := fnModelsUptoRow.holds Try.pinned (OpenSpec.upto fnModelsSpec)

/-- 'laws.FnExactModelDo', WHERE WHAT IT READS IS OF BULK AT MOST 1048576: true; the input reads as it did. -/
def fnExactModelDoUptoRow : OpenClaim := { program := "ythikbgjlcdkoaaa", sum := "4d45d3092ba1ce3b23bf49a376b3cad0e670acf70a633f6270333c7a499879dc", func := "loop.example/g01623/laws.FnExactModelDo", spec := "fnExactModelDo", unfollowed := true, recurses := true, apart := false, narrowed := true }
def FnExactModelDoUptoSaid : Prop := fnExactModelDoUptoRow.holds Try.pinned (OpenSpec.upto fnExactModelDoSpec)

/-- 'laws.FnExactDevNew', WHERE WHAT IT READS IS OF BULK AT MOST 1048576: true; the input reads as it did. -/
def fnExactDevNewUptoRow : OpenClaim := { program := "ythikbgjlcdkoaaa", sum := "4d45d3092ba1ce3b23bf49a376b3cad0e670acf70a633f6270333c7a499879dc", func := "loop.example/g01623/laws.FnExactDevNew", spec := "fnExactDevNew", apart := false, narrowed := true }
def FnExactDevNewUptoSaid : Prop := fnExactDevNewUptoRow.holds Try.pinned (OpenSpec.upto fnExactDevNewSpec)

/-- 'laws.FnExactSameDev', WHERE WHAT IT READS IS OF BULK AT MOST 1048576: true; the input reads as it did. -/
def fnExactSameDevUptoRow : OpenClaim := { program := "ythikbgjlcdkoaaa", sum := "4d45d3092ba1ce3b23bf49a376b3cad0e670acf70a633f6270333c7a499879dc", func := "loop.example/g01623/laws.FnExactSameDev", spec := "fnExactSameDev", apart := false, narrowed := true }
def FnExactSameDevUptoSaid : Prop := fnExactSameDevUptoRow.holds Try.pinned (OpenSpec.upto fnExactSameDevSpec)

/-- 'laws.FnExactModelNew', WHERE WHAT IT READS IS OF BULK AT MOST 1048576: true; the input reads as it did. -/
def fnExactModelNewUptoRow : OpenClaim := { program := "ythikbgjlcdkoaaa", sum := "4d45d3092ba1ce3b23bf49a376b3cad0e670acf70a633f6270333c7a499879dc", func := "loop.example/g01623/laws.FnExactModelNew", spec := "fnExactModelNew", apart := false, narrowed := true }
def FnExactModelNewUptoSaid : Prop := fnExactModelNewUptoRow.holds Try.pinned (OpenSpec.upto fnExactModelNewSpec)

/-- 'laws.FnExactDevOk', WHERE WHAT IT READS IS OF BULK AT MOST 1048576: true; the input reads as it did. -/
def fnExactDevOkUptoRow : OpenClaim := { program := "ythikbgjlcdkoaaa", sum := "4d45d3092ba1ce3b23bf49a376b3cad0e670acf70a633f6270333c7a499879dc", func := "loop.example/g01623/laws.FnExactDevOk", spec := "fnExactDevOk", unfollowed := true, recurses := true, apart := false, narrowed := true }
def FnExactDevOkUptoSaid : Prop := fnExactDevOkUptoRow.holds Try.pinned (OpenSpec.upto fnExactDevOkSpec)

/-- 'laws.FnExactSameModel', WHERE WHAT IT READS IS OF BULK AT MOST 1048576: true; the input reads as it did. -/
def fnExactSameModelUptoRow : OpenClaim := { program := "ythikbgjlcdkoaaa", sum := "4d45d3092ba1ce3b23bf49a376b3cad0e670acf70a633f6270333c7a499879dc", func := "loop.example/g01623/laws.FnExactSameModel", spec := "fnExactSameModel", apart := false, narrowed := true }
def FnExactSameModelUptoSaid : Prop := fnExactSameModelUptoRow.holds Try.pinned (OpenSpec.upto fnExactSameModelSpec)

/-- 'laws.FnExactModelOk', WHERE WHAT IT READS IS OF BULK AT MOST 1048576: true; the input reads as it did. -/
def fnExactModelOkUptoRow : OpenClaim := { program := "ythikbgjlcdkoaaa", sum := "4d45d3092ba1ce3b23bf49a376b3cad0e670acf70a633f6270333c7a499879dc", func := "loop.example/g01623/laws.FnExactModelOk", spec := "fnExactModelOk", unfollowed := true, recurses := true, apart := false, narrowed := true }
def FnExactModelOkUptoSaid : Prop := fnExactModelOkUptoRow.holds Try.pinned (OpenSpec.upto fnExactModelOkSpec)

/-- 'laws.FnDevices', WHERE WHAT IT READS IS OF BULK AT MOST 1048576: true; the input reads as it did. -/
def fnDevicesUptoRow : OpenClaim := { program := "ythikbgjlcdkoaaa", sum := "4d45d3092ba1ce3b23bf49a376b3cad0e670acf70a633f6270333c7a499879dc", func := "loop.example/g01623/laws.FnDevices", spec := "fnDevices", unfollowed := true, recurses := true, apart := false, narrowed := true }
def FnDevicesUptoSaid : Prop := fnDevicesUptoRow.holds Try.pinned (OpenSpec.upto fnDevicesSpec)

/-- 'laws.FnExactDevDo', WHERE WHAT IT READS IS OF BULK AT MOST 1048576: true; the input reads as it did. -/
def fnExactDevDoUptoRow : OpenClaim := { program := "ythikbgjlcdkoaaa", sum := "4d45d3092ba1ce3b23bf49a376b3cad0e670acf70a633f6270333c7a499879dc", func := "loop.example/g01623/laws.FnExactDevDo", spec := "fnExactDevDo", unfollowed := true, recurses := true, apart := false, narrowed := true }
def FnExactDevDoUptoSaid : Prop := fnExactDevDoUptoRow.holds Try.pinned (OpenSpec.upto fnExactDevDoSpec)

end Rows
end Go.Proofs.Ythikbgjlcdkoaaa
