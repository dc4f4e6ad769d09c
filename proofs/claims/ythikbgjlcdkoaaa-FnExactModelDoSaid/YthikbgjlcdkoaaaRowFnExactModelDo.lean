/- The program's ModelDo answers as the reference's and leaves its argument alone, for every model, direction, place, size and number. This text: the row, over the contract of the Go function and the pure statement. Under no further condition. -/
import Derived.Test.YthikbgjlcdkoaaaRows
import Derived.Test.YthikbgjlcdkoaaaMFnExactModelDox
import Derived.Test.YthikbgjlcdkoaaaPureFnExactModelDo
import Derived.WalkKit
import Derived.ProofKit
import Derived.OpenShut
import Derived.ShutString
import Derived.ChangeOld
import Derived.Below
import Derived.SizedLaws
import Derived.Deep.Slices
import Derived.ChangeArms
namespace Go.Proofs.Ythikbgjlcdkoaaa.fnExactModelDo
open Go.ChangeShapes Go.WideShapes Go.ChangeAt Go.RowKit Go.Proofs.YthikbgjlcdkoaaaW.PrintWords Go.Proofs.Ythikbgjlcdkoaaa.MFnExactModelDo
open Go.ChangeMaps (open_string shut_string)
set_option linter.unusedVariables false
set_option linter.unusedSimpArgs false
theorem own : ownKnob Try.prog.godebug = none := by kernel_rfl
theorem laidOut : laidOutB Try.prog = true := by kernel_rfl
theorem cz3 : Try.prog.cellsOf 3 = 1 := by kernel_rfl
theorem cz4 : Try.prog.cellsOf 4 = 1 := by kernel_rfl
theorem cz24 : Try.prog.cellsOf 24 = 1 := by kernel_rfl
theorem cz36 : Try.prog.cellsOf 36 = 3 := by kernel_rfl
theorem cz38 : Try.prog.cellsOf 38 = 4 := by kernel_rfl
theorem array_4 {α : Type} {cs : Array α} (h : cs.size = 4) : ∃ c0 c1 c2 c3, cs = #[c0, c1, c2, c3] := by
  obtain ⟨l⟩ := cs
  match l, h with
  | [c0, c1, c2, c3], _ => exact ⟨c0, c1, c2, c3, rfl⟩
theorem cells_ints {H : Type} {enc : TypeId × Value → H} {W : World} {base : Nat} {spare : Nat → Bool} {held : Bool} {fuel : Nat} {c0 : Value} {x : DataW H × List MemPlace} (h : DataW.trod enc Try.prog W base spare held fuel 24 [c0] = some x) :
    ∃ (A0 : Option Addr) (k0 : Nat) (l0 : List Int), c0 = .slice A0 l0.length k0 ∧ l0.length ≤ k0 ∧ Kd.C (Kd.int .i64) W A0 l0.length l0 ∧ (∀ z ∈ l0, (Lit.int .i64 z).wf = true) := by
  rcases open_ints Try.underlying24 Try.underlying3 (by kernel_rfl) h with ⟨hcs, _⟩ | ⟨a, len, cap, zs, hcs, _, hl, hm, hz, _, hcell, hwz⟩
  · obtain rfl : c0 = .slice none 0 0 := by simpa using hcs
    exact ⟨none, 0, [], rfl, Nat.le_refl _, ⟨rfl, Nat.zero_le _, fun h => by simp at h⟩, fun z hz => by simp at hz⟩
  · obtain rfl : c0 = .slice (some a) len cap := by simpa using hcs
    have hlz : len ≤ zs.length := by rw [hz]; split <;> omega
    have hlen : (zs.take len).length = len := by rw [List.length_take]; omega
    refine ⟨some a, cap, zs.take len, by rw [hlen], by rw [hlen]; exact hl, ?_, fun z hz => hwz z (List.mem_of_mem_take hz)⟩
    rw [hlen]
    refine Kd.C_of_reads (d := 0) ⟨hlen, by unfold maxLen at hm; omega, fun _ => ⟨a, rfl, fun j hj => ?_⟩⟩
    rw [hcell j (by omega)]
    simp [List.getD_eq_getElem?_getD, List.getElem?_take, hj]
theorem cells_Dev {H : Type} {enc : TypeId × Value → H} {W : World} {base : Nat} {spare : Nat → Bool} {held : Bool} {fuel : Nat} {c0 c1 c2 : Value} {x : DataW H × List MemPlace} (h : DataW.trod enc Try.prog W base spare held fuel 36 [c0, c1, c2] = some x) :
    ∃ (A0 : Option Addr) (k0 : Nat) (l0 : List Int) (a1 : Int) (A2 : Option Addr) (k2 : Nat) (l2 : List Int), c0 = .slice A0 l0.length k0 ∧ l0.length ≤ k0 ∧ Kd.C (Kd.int .i64) W A0 l0.length l0 ∧ (∀ z ∈ l0, (Lit.int .i64 z).wf = true) ∧ c1 = .int .i64 a1 ∧ (Lit.int .i64 a1).wf = true ∧ c2 = .slice A2 l2.length k2 ∧ l2.length ≤ k2 ∧ Kd.C (Kd.int .i64) W A2 l2.length l2 ∧ (∀ z ∈ l2, (Lit.int .i64 z).wf = true) := by
  obtain ⟨xs, n, _, _, _, hlen, hg⟩ := DataW.trod_struct Try.underlying36 h
  have g0 : DataW.trod enc Try.prog W base spare held n 24 [c0] = xs[0]? := by simpa [cz24] using hg 0 _ rfl
  rw [List.getElem?_eq_getElem (show 0 < xs.length by rw [hlen]; decide)] at g0
  obtain ⟨A0, k0, l0, rfl, h0, G0, z0⟩ := cells_ints g0
  have g1 : DataW.trod enc Try.prog W base spare held n 3 [c1] = xs[1]? := by simpa [cz3] using hg 1 _ rfl
  rw [List.getElem?_eq_getElem (show 1 < xs.length by rw [hlen]; decide)] at g1
  obtain ⟨a1, e1, _, w1⟩ := DataW.trod_int Try.underlying3 g1
  obtain rfl : c1 = .int .i64 a1 := by simpa using e1
  have g2 : DataW.trod enc Try.prog W base spare held n 24 [c2] = xs[2]? := by simpa [cz24] using hg 2 _ rfl
  rw [List.getElem?_eq_getElem (show 2 < xs.length by rw [hlen]; decide)] at g2
  obtain ⟨A2, k2, l2, rfl, h2, G2, z2⟩ := cells_ints g2
  exact ⟨A0, k0, l0, a1, A2, k2, l2, rfl, h0, G0, z0, rfl, w1, rfl, h2, G2, z2⟩
theorem cells_Model {H : Type} {enc : TypeId × Value → H} {W : World} {base : Nat} {spare : Nat → Bool} {held : Bool} {fuel : Nat} {c0 c1 c2 c3 : Value} {x : DataW H × List MemPlace} (h : DataW.trod enc Try.prog W base spare held fuel 38 [c0, c1, c2, c3] = some x) :
    ∃ (A0 : Option Addr) (k0 : Nat) (l0 : List Int) (A1 : Option Addr) (k1 : Nat) (l1 : List Int) (a2 : Int) (A3 : Option Addr) (k3 : Nat) (l3 : List Int), c0 = .slice A0 l0.length k0 ∧ l0.length ≤ k0 ∧ Kd.C (Kd.int .i64) W A0 l0.length l0 ∧ (∀ z ∈ l0, (Lit.int .i64 z).wf = true) ∧ c1 = .slice A1 l1.length k1 ∧ l1.length ≤ k1 ∧ Kd.C (Kd.int .i64) W A1 l1.length l1 ∧ (∀ z ∈ l1, (Lit.int .i64 z).wf = true) ∧ c2 = .int .i64 a2 ∧ (Lit.int .i64 a2).wf = true ∧ c3 = .slice A3 l3.length k3 ∧ l3.length ≤ k3 ∧ Kd.C (Kd.int .i64) W A3 l3.length l3 ∧ (∀ z ∈ l3, (Lit.int .i64 z).wf = true) := by
  obtain ⟨xs, n, _, _, _, hlen, hg⟩ := DataW.trod_struct Try.underlying38 h
  have g0 : DataW.trod enc Try.prog W base spare held n 24 [c0] = xs[0]? := by simpa [cz24] using hg 0 _ rfl
  rw [List.getElem?_eq_getElem (show 0 < xs.length by rw [hlen]; decide)] at g0
  obtain ⟨A0, k0, l0, rfl, h0, G0, z0⟩ := cells_ints g0
  have g1 : DataW.trod enc Try.prog W base spare held n 36 [c1, c2, c3] = xs[1]? := by simpa [cz36] using hg 1 _ rfl
  rw [List.getElem?_eq_getElem (show 1 < xs.length by rw [hlen]; decide)] at g1
  obtain ⟨A1, k1, l1, a2, A3, k3, l3, rfl, h1, G1, z1, rfl, w2, rfl, h3, G3, z3⟩ := cells_Dev g1
  exact ⟨A0, k0, l0, A1, k1, l1, a2, A3, k3, l3, rfl, h0, G0, z0, rfl, h1, G1, z1, rfl, w2, rfl, h3, G3, z3⟩
set_option maxRecDepth 100000 in
theorem lifted (os : Os) (started : os.Started) (H : Type) (enc : TypeId × Value → H) :
    ReturnsInHanded {} Try.checked os 4 .any (Rows.fnExactModelDoSpec.pre6 enc Try.prog Try.f4 Rows.fnExactModelDoRow.domain false) (Rows.fnExactModelDoSpec.post enc Try.prog Try.f4 false true false false) := by
  refine returnsInHanded_of_change_sized (C := Try.checked) own started (by kernel_rfl) Try.func4
    (ChangeSpec.witness6 (enc := enc) (C := Try.checked) false ⟨#[], #[.agg #[.slice none 0 0, .slice none 0 0, .int .i64 0, .slice none 0 0], .bool false, .int .i64 0, .int .i64 0, .int .i64 0], []⟩ 8 (by kernel_rfl) (by kernel_rfl) (by kernel_rfl) (by kernel_rfl)) ?_
  intro W base args ds gs before hval0 hW hcnd hsz0 _
  have hval : ∀ (j : Nat) t v, Try.f4.params[j]? = some t → args[j]? = some v → Value.okWide Try.prog W .any base t v := hval0
  have hW' := hW
  obtain ⟨p, q, hA0, hV, rfl, hfz, hnd⟩ := hW
  have hA : DataW.TrodAll enc Try.prog W 0 (fun _ => true) true Try.f4.params.toList args.toList ds p := hA0
  rw [Try.params4] at hA hval
  obtain ⟨v0, vs0, d0, ds0, p0, q0, hargs, rfl, rfl, h0, r0⟩ := trodAll_cons hA
  obtain ⟨v1, vs1, d1, ds1, p1, q1, rfl, rfl, rfl, h1, r1⟩ := trodAll_cons r0
  obtain ⟨v2, vs2, d2, ds2, p2, q2, rfl, rfl, rfl, h2, r2⟩ := trodAll_cons r1
  obtain ⟨v3, vs3, d3, ds3, p3, q3, rfl, rfl, rfl, h3, r3⟩ := trodAll_cons r2
  obtain ⟨v4, vs4, d4, ds4, p4, q4, rfl, rfl, rfl, h4, r4⟩ := trodAll_cons r3
  obtain ⟨rfl, rfl, rfl⟩ := trodAll_nil r4
  obtain rfl : args = #[v0, v1, v2, v3, v4] := by cases args; simp_all
  obtain ⟨rfl, rfl⟩ := trodVars_none hV
  have K0 := h0
  have lt0 : ∀ x ∈ p0, x.block < W.heap.size := by obtain ⟨m, hm⟩ := K0; exact DataW.trod_lt m _ _ _ hm
  obtain ⟨cs0, rfl, hs0⟩ := okWide_struct Try.underlying38 (hval 0 38 v0 rfl rfl)
  obtain ⟨c0, c1, c2, c3, rfl⟩ := array_4 (hs0.trans cz38)
  obtain ⟨fuel0, hf0⟩ := h0
  obtain ⟨A0_0, k0_0, l0_0, A0_1, k0_1, l0_1, a0_2, A0_3, k0_3, l0_3, rfl, h0_0, G0_0, z0_0, rfl, h0_1, G0_1, z0_1, rfl, w0_2, rfl, h0_3, G0_3, z0_3⟩ := cells_Model (by simpa [Value.cells] using hf0)
  obtain ⟨a1, rfl, rfl, rfl⟩ := open_bool Try.underlying4 (hval 1 4 v1 rfl rfl) h1
  obtain ⟨a2, rfl, rfl, rfl, w2⟩ := open_int Try.underlying3 (hval 2 3 v2 rfl rfl) h2
  obtain ⟨a3, rfl, rfl, rfl, w3⟩ := open_int Try.underlying3 (hval 3 3 v3 rfl rfl) h3
  obtain ⟨a4, rfl, rfl, rfl, w4⟩ := open_int Try.underlying3 (hval 4 3 v4 rfl rfl) h4
  have P := Pure.FnExactModelDo l0_0 l0_1 a0_2 l0_3 a1 a2 a3 a4 G0_0.2.1 G0_1.2.1 w0_2 G0_3.2.1 w2 w3 w4
  clear hA0 hval0 hsz0
  obtain ⟨k, hk⟩ := P
  refine (MFnExactModelDo.laws_FnExactModelDo.calls k A0_0 k0_0 l0_0 A0_1 k0_1 l0_1 a0_2 A0_3 k0_3 l0_3 a1 a2 a3 a4 W G0_0 h0_0 G0_1 h0_1 G0_3 h0_3 hk).mono fun e W' ⟨he, bel⟩ => ?_
  subst he
  exact ⟨_, rfl, _, _, _, [], _, [], hW', trodAll_mk1 (shut_bool Try.underlying4 _), (trodAll_cons_mk (Below.trod laidOut (by kernel_rfl) (of_decide_eq_true (by kernel_rfl)) K0 bel lt0) (trodAll_cons_mk (shut_bool Try.underlying4 _) (trodAll_cons_mk (shut_int Try.underlying3 w2) (trodAll_cons_mk (shut_int Try.underlying3 w3) (trodAll_cons_mk (shut_int Try.underlying3 w4) trodAll_mk0))))), rfl, bel.frame _, fun h => by cases h⟩
theorem over : Rows.fnExactModelDoRow.holds Try.pinned (OpenSpec.ofChange Rows.fnExactModelDoSpec) :=
  OpenClaim.holds_of_wide 4 Try.f4 rfl rfl rfl rfl rfl rfl rfl ⟨rfl, rfl, rfl, rfl, rfl⟩ rfl rfl rfl rfl rfl (by kernel_rfl) Try.func4 (by kernel_rfl)
    (of_decide_eq_true (by kernel_rfl)) (by unfold Func.isWrapper; first | (rw [if_pos (by decide +kernel)]; kernel_rfl) | (rw [if_neg (by decide +kernel)]; exact ⟨rfl, rfl⟩))
    (fun os started H enc _ => lifted os started H enc)
theorem proved : Rows.FnExactModelDoSaid := over
end Go.Proofs.Ythikbgjlcdkoaaa.fnExactModelDo
namespace Go.Proofs.Ythikbgjlcdkoaaa
/-- The row, under a short name, for the claim. -/
theorem fnExactModelDo_holds : Rows.FnExactModelDoSaid := fnExactModelDo.proved
end Go.Proofs.Ythikbgjlcdkoaaa
