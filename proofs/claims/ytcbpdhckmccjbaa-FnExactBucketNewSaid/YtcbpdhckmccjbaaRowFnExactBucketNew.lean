/- The program's BucketNew answers as the reference's, for every configuration of a master. This text: the row, over the contract of the Go function and the pure statement. Under no further condition. -/
import Derived.Test.YtcbpdhckmccjbaaRows
import Derived.Test.YtcbpdhckmccjbaaPFnExactBucketNewx
import Derived.Test.YtcbpdhckmccjbaaPureFnExactBucketNew
import Derived.WalkKit
import Derived.ProofKit
import Derived.OpenShut
import Derived.ShutString
import Derived.ChangeOld
import Derived.Below
import Derived.SizedLaws
import Derived.Deep.Slices
import Derived.ChangeArms
namespace Go.Proofs.Ytcbpdhckmccjbaa.fnExactBucketNew
open Go.ChangeShapes Go.WideShapes Go.ChangeAt Go.RowKit Go.Proofs.YtcbpdhckmccjbaaW.PrintWords Go.Proofs.Ytcbpdhckmccjbaa.PFnExactBucketNew
open Go.ChangeMaps (open_string shut_string)
set_option linter.unusedVariables false
set_option linter.unusedSimpArgs false
theorem own : ownKnob Try.prog.godebug = none := by kernel_rfl
theorem laidOut : laidOutB Try.prog = true := by kernel_rfl
theorem cz3 : Try.prog.cellsOf 3 = 1 := by kernel_rfl
theorem cz4 : Try.prog.cellsOf 4 = 1 := by kernel_rfl
theorem cz28 : Try.prog.cellsOf 28 = 4 := by kernel_rfl
theorem array_4 {α : Type} {cs : Array α} (h : cs.size = 4) : ∃ c0 c1 c2 c3, cs = #[c0, c1, c2, c3] := by
  obtain ⟨l⟩ := cs
  match l, h with
  | [c0, c1, c2, c3], _ => exact ⟨c0, c1, c2, c3, rfl⟩
theorem cells_MConf {H : Type} {enc : TypeId × Value → H} {W : World} {base : Nat} {spare : Nat → Bool} {held : Bool} {fuel : Nat} {c0 c1 c2 c3 : Value} {x : DataW H × List MemPlace} (h : DataW.trod enc Try.prog W base spare held fuel 28 [c0, c1, c2, c3] = some x) :
    ∃ (a0 : Int) (a1 : Bool) (a2 : Int) (a3 : Int), c0 = .int .i64 a0 ∧ (Lit.int .i64 a0).wf = true ∧ c1 = .bool a1 ∧ c2 = .int .i64 a2 ∧ (Lit.int .i64 a2).wf = true ∧ c3 = .int .i64 a3 ∧ (Lit.int .i64 a3).wf = true := by
  obtain ⟨xs, n, _, _, _, hlen, hg⟩ := DataW.trod_struct Try.underlying28 h
  have g0 : DataW.trod enc Try.prog W base spare held n 3 [c0] = xs[0]? := by simpa [cz3] using hg 0 _ rfl
  rw [List.getElem?_eq_getElem (show 0 < xs.length by rw [hlen]; decide)] at g0
  obtain ⟨a0, e0, _, w0⟩ := DataW.trod_int Try.underlying3 g0
  obtain rfl : c0 = .int .i64 a0 := by simpa using e0
  have g1 : DataW.trod enc Try.prog W base spare held n 4 [c1] = xs[1]? := by simpa [cz4] using hg 1 _ rfl
  rw [List.getElem?_eq_getElem (show 1 < xs.length by rw [hlen]; decide)] at g1
  obtain ⟨a1, e1, _⟩ := DataW.trod_bool Try.underlying4 g1
  obtain rfl : c1 = .bool a1 := by simpa using e1
  have g2 : DataW.trod enc Try.prog W base spare held n 3 [c2] = xs[2]? := by simpa [cz3] using hg 2 _ rfl
  rw [List.getElem?_eq_getElem (show 2 < xs.length by rw [hlen]; decide)] at g2
  obtain ⟨a2, e2, _, w2⟩ := DataW.trod_int Try.underlying3 g2
  obtain rfl : c2 = .int .i64 a2 := by simpa using e2
  have g3 : DataW.trod enc Try.prog W base spare held n 3 [c3] = xs[3]? := by simpa [cz3] using hg 3 _ rfl
  rw [List.getElem?_eq_getElem (show 3 < xs.length by rw [hlen]; decide)] at g3
  obtain ⟨a3, e3, _, w3⟩ := DataW.trod_int Try.underlying3 g3
  obtain rfl : c3 = .int .i64 a3 := by simpa using e3
  exact ⟨a0, a1, a2, a3, rfl, w0, rfl, rfl, w2, rfl, w3⟩
set_option maxRecDepth 100000 in
theorem lifted (os : Os) (started : os.Started) (H : Type) (enc : TypeId × Value → H) :
    ReturnsInHanded {} Try.checked os 13 .any (Rows.fnExactBucketNewSpec.pre6 enc Try.prog Try.f13 Rows.fnExactBucketNewRow.domain false) (Rows.fnExactBucketNewSpec.post enc Try.prog Try.f13 false true false false) := by
  refine returnsInHanded_of_change_sized (C := Try.checked) own started (by kernel_rfl) Try.func13
    (ChangeSpec.witness6 (enc := enc) (C := Try.checked) false ⟨#[], #[.agg #[.int .i64 0, .bool false, .int .i64 0, .int .i64 0]], []⟩ 8 (by kernel_rfl) (by kernel_rfl) (by kernel_rfl) (by kernel_rfl)) ?_
  intro W base args ds gs before hval0 hW hcnd hsz0 _
  have hval : ∀ (j : Nat) t v, Try.f13.params[j]? = some t → args[j]? = some v → Value.okWide Try.prog W .any base t v := hval0
  have hW' := hW
  obtain ⟨p, q, hA0, hV, rfl, hfz, hnd⟩ := hW
  have hA : DataW.TrodAll enc Try.prog W 0 (fun _ => true) true Try.f13.params.toList args.toList ds p := hA0
  rw [Try.params13] at hA hval
  obtain ⟨v0, vs0, d0, ds0, p0, q0, hargs, rfl, rfl, h0, r0⟩ := trodAll_cons hA
  obtain ⟨rfl, rfl, rfl⟩ := trodAll_nil r0
  obtain rfl : args = #[v0] := by cases args; simp_all
  obtain ⟨rfl, rfl⟩ := trodVars_none hV
  have K0 := h0
  have lt0 : ∀ x ∈ p0, x.block < W.heap.size := by obtain ⟨m, hm⟩ := K0; exact DataW.trod_lt m _ _ _ hm
  obtain ⟨cs0, rfl, hs0⟩ := okWide_struct Try.underlying28 (hval 0 28 v0 rfl rfl)
  obtain ⟨c0, c1, c2, c3, rfl⟩ := array_4 (hs0.trans cz28)
  obtain ⟨fuel0, hf0⟩ := h0
  obtain ⟨a0_0, a0_1, a0_2, a0_3, rfl, w0_0, rfl, rfl, w0_2, rfl, w0_3⟩ := cells_MConf (by simpa [Value.cells] using hf0)
  have P := Pure.FnExactBucketNew a0_0 a0_1 a0_2 a0_3 w0_0 w0_2 w0_3
  clear hA0 hval0 hsz0
  have hk := P
  refine (PFnExactBucketNew.laws_FnExactBucketNew.calls a0_0 a0_1 a0_2 a0_3 true W hk).mono fun e W' ⟨he, bel⟩ => ?_
  subst he
  exact ⟨_, rfl, _, _, _, [], _, [], hW', trodAll_mk1 (shut_bool Try.underlying4 _), (trodAll_cons_mk (Below.trod laidOut (by kernel_rfl) (of_decide_eq_true (by kernel_rfl)) K0 bel lt0) trodAll_mk0), rfl, bel.frame _, fun h => by cases h⟩
theorem over : Rows.fnExactBucketNewRow.holds Try.pinned (OpenSpec.ofChange Rows.fnExactBucketNewSpec) :=
  OpenClaim.holds_of_wide 13 Try.f13 rfl rfl rfl rfl rfl rfl rfl ⟨rfl, rfl, rfl, rfl, rfl⟩ rfl rfl rfl rfl rfl (by kernel_rfl) Try.func13 (by kernel_rfl)
    (of_decide_eq_true (by kernel_rfl)) (by unfold Func.isWrapper; first | (rw [if_pos (by decide +kernel)]; kernel_rfl) | (rw [if_neg (by decide +kernel)]; exact ⟨rfl, rfl⟩))
    (fun os started H enc _ => lifted os started H enc)
theorem proved : Rows.FnExactBucketNewSaid := over
end Go.Proofs.Ytcbpdhckmccjbaa.fnExactBucketNew
namespace Go.Proofs.Ytcbpdhckmccjbaa
/-- The row, under a short name, for the claim. -/
theorem fnExactBucketNew_holds : Rows.FnExactBucketNewSaid := fnExactBucketNew.proved
end Go.Proofs.Ytcbpdhckmccjbaa
