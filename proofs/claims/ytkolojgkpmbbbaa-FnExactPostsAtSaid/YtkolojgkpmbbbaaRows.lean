/-
  No cell of these rows narrows 'for every input' (looked for: loops, veiled, ifaces, maps, wideKeys, modest, calm, conditions, laid).
  DERIVED. THE GIVEN ROWS OF THIS SEAT. 3 by the template 'for every input the law returns true; each argument reads behind the call as it read before'; 0 by the template 'total and deterministic' (their statements: YtkolojgkpmbbbaaTotals.lean).
  GIVEN WITH THE SEED: the statements are not yours to turn. If you find one false, say at which input.
  Laid BY PROGRAM, IN A SANDBOX (cutbox-rows.mjs): the forced cells as the released guide's own fill.sh prints them over the translation ac0159e5491acac3… (all of the seat's roots in one cut). By AI agents, Wed Nov 11 2026. No macro, syntax, notation, axiom, sorry.
-/
import Derived.Test.YtkolojgkpmbbbaaChecked
import GoSem.Claim
import GoSem.ClaimJoined
import GoSem.ClaimMapViews
import Derived.JoinedTies
import Derived.KernelRfl
namespace Go.Proofs.Ytkolojgkpmbbbaa
/- THE CELL 'sum', in the pinned program and in every row, IS THE sha256 OF THE DUMP (.gsa) THAT YtkolojgkpmbbbaaProg.lean LOADS. Nothing in Lean hashes anything: it is a label: what it is worth is what the hold of that sum in a sandbox is worth. -/
noncomputable def Try.pinned : Pinned := { name := "ytkolojgkpmbbbaa", sum := "ac0159e5491acac3d733b4e9946437cece0ab92cc82db4d7c91af3413cd38ab8", checked := Try.checked }
namespace Rows
def none {H : Type} : Left H := { results := [], args := [] }

/-- 'laws.FnExactSaidAt': WHATEVER THE INPUT: true; the input reads as it did. -/
def fnExactSaidAtSpec : ChangeSpec := { name := "fnExactSaidAt", fn := fun _ => fun
  | [d1, d2] => { results := [.lit (.bool true)], args := [d1, d2] }
  | _ => none }
def fnExactSaidAtRow : OpenClaim := { program := "ytkolojgkpmbbbaa", sum := "ac0159e5491acac3d733b4e9946437cece0ab92cc82db4d7c91af3413cd38ab8", func := "loop.example/g01623/laws.FnExactSaidAt", spec := "fnExactSaidAt", apart := false }
def FnExactSaidAtSaid : Prop := fnExactSaidAtRow.holds Try.pinned (OpenSpec.ofChange fnExactSaidAtSpec)

/-- ITS FALSE NEIGHBOUR: 'it returns false'. Refute it at one input. -/
def fnExactSaidAtWrong : ChangeSpec := { name := "fnExactSaidAt", fn := fun _ => fun
  | [d1, d2] => { results := [.lit (.bool false)], args := [d1, d2] }
  | _ => none }
def FnExactSaidAtWrongFalsely : Prop := fnExactSaidAtRow.holds Try.pinned (OpenSpec.ofChange fnExactSaidAtWrong)

/-- 'laws.FnExactWaitAt': WHATEVER THE INPUT: true; the input reads as it did. -/
def fnExactWaitAtSpec : ChangeSpec := { name := "fnExactWaitAt", fn := fun _ => fun
  | [d1, d2, d3] => { results := [.lit (.bool true)], args := [d1, d2, d3] }
  | _ => none }
def fnExactWaitAtRow : OpenClaim := { program := "ytkolojgkpmbbbaa", sum := "ac0159e5491acac3d733b4e9946437cece0ab92cc82db4d7c91af3413cd38ab8", func := "loop.example/g01623/laws.FnExactWaitAt", spec := "fnExactWaitAt", apart := false }
def FnExactWaitAtSaid : Prop := fnExactWaitAtRow.holds Try.pinned (OpenSpec.ofChange fnExactWaitAtSpec)

/-- ITS FALSE NEIGHBOUR: 'it returns false'. Refute it at one input. -/
def fnExactWaitAtWrong : ChangeSpec := { name := "fnExactWaitAt", fn := fun _ => fun
  | [d1, d2, d3] => { results := [.lit (.bool false)], args := [d1, d2, d3] }
  | _ => none }
def FnExactWaitAtWrongFalsely : Prop := fnExactWaitAtRow.holds Try.pinned (OpenSpec.ofChange fnExactWaitAtWrong)

/-- 'laws.FnExactPostsAt': WHATEVER THE INPUT: true; the input reads as it did. -/
def fnExactPostsAtSpec : ChangeSpec := { name := "fnExactPostsAt", fn := fun _ => fun
  | [d1, d2] => { results := [.lit (.bool true)], args := [d1, d2] }
  | _ => none }
def fnExactPostsAtRow : OpenClaim := { program := "ytkolojgkpmbbbaa", sum := "ac0159e5491acac3d733b4e9946437cece0ab92cc82db4d7c91af3413cd38ab8", func := "loop.example/g01623/laws.FnExactPostsAt", spec := "fnExactPostsAt", apart := false }
def FnExactPostsAtSaid : Prop := fnExactPostsAtRow.holds Try.pinned (OpenSpec.ofChange fnExactPostsAtSpec)

/-- ITS FALSE NEIGHBOUR: 'it returns false'. Refute it at one input. -/
def fnExactPostsAtWrong : ChangeSpec := { name := "fnExactPostsAt", fn := fun _ => fun
  | [d1, d2] => { results := [.lit (.bool false)], args := [d1, d2] }
  | _ => none }
def FnExactPostsAtWrongFalsely : Prop := fnExactPostsAtRow.holds Try.pinned (OpenSpec.ofChange fnExactPostsAtWrong)

/- THE SECOND FORM. 'bulk': how many values and letters a reading holds, each counted each time it is reached (what is shared counts as often as it is met; a slice's spare places count too). A statement '..UptoSaid' is the law's where the arguments, and the package variables that the reading takes, are together of bulk at most 1048576: NARROWER than '..Said'. Prove '..Said' where nothing that the law and all that it calls make is longer than what came in: it says more and counts as full. Else prove '..UptoSaid'. A law counts once. -/
mutual
def uptoBulk {H : Type} : DataW H → Nat
  | .lit (.string bytes) => bytes.length + 1
  | .lit _ => 1
  | .nil => 1
  | .ptr d => uptoBulk d + 1
  | .slice elems spare => uptoBulkAll elems + uptoBulkAll spare + 1
  | .agg parts => uptoBulkAll parts + 1
  | .iface _ d => uptoBulk d + 1
  | .map entries => uptoBulkEntries entries + 1
  | .held _ => 1
def uptoBulkAll {H : Type} : List (DataW H) → Nat
  | [] => 0
  | d :: r => uptoBulk d + uptoBulkAll r
def uptoBulkEntries {H : Type} : List (Lit × DataW H) → Nat
  | [] => 0
  | x :: r => uptoBulkEntry x + uptoBulkEntries r
def uptoBulkEntry {H : Type} : Lit × DataW H → Nat
  | (.string bytes, d) => bytes.length + uptoBulk d + 1
  | (_, d) => uptoBulk d + 1
 end
def uptoSmall : (H : Type) → List (DataW H) → Bool := fun _ ds => decide (uptoBulkAll ds ≤ 1048576)
def OpenSpec.upto (s : _root_.Go.ChangeSpec) : _root_.Go.OpenSpec := { _root_.Go.OpenSpec.ofChange s with cond := some uptoSmall }

/-- 'laws.FnExactSaidAt', WHERE WHAT IT READS IS OF BULK AT MOST 1048576: true; the input reads as it did. -/
def fnExactSaidAtUptoRow : OpenClaim := { program := "ytkolojgkpmbbbaa", sum := "ac0159e5491acac3d733b4e9946437cece0ab92cc82db4d7c91af3413cd38ab8", func := "loop.example/g01623/laws.FnExactSaidAt", spec := "fnExactSaidAt", apart := false, narrowed := true }
def FnExactSaidAtUptoSaid : Prop := fnExactSaidAtUptoRow.holds Try.pinned (OpenSpec.upto fnExactSaidAtSpec)

/-- 'laws.FnExactWaitAt', WHERE WHAT IT READS IS OF BULK AT MOST 1048576: true; the input reads as it did. -/
def fnExactWaitAtUptoRow : OpenClaim := { program := "ytkolojgkpmbbbaa", sum := "ac0159e5491acac3d733b4e9946437cece0ab92cc82db4d7c91af3413cd38ab8", func := "loop.example/g01623/laws.FnExactWaitAt", spec := "fnExactWaitAt", apart := false, narrowed := true }
def FnExactWaitAtUptoSaid : Prop := fnExactWaitAtUptoRow.holds Try.pinned (OpenSpec.upto fnExactWaitAtSpec)

/-- 'laws.FnExactPostsAt', WHERE WHAT IT READS IS OF BULK AT MOST 1048576: true; the input reads as it did. -/
def fnExactPostsAtUptoRow : OpenClaim := { program := "ytkolojgkpmbbbaa", sum := "ac0159e5491acac3d733b4e9946437cece0ab92cc82db4d7c91af3413cd38ab8", func := "loop.example/g01623/laws.FnExactPostsAt", spec := "fnExactPostsAt", apart := false, narrowed := true }
def FnExactPostsAtUptoSaid : Prop := fnExactPostsAtUptoRow.holds Try.pinned (OpenSpec.upto fnExactPostsAtSpec)

end Rows
end Go.Proofs.Ytkolojgkpmbbbaa
