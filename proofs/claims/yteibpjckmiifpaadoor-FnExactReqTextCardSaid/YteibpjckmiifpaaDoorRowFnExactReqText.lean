/- The program's ReqText answers as the reference's and leaves its argument alone, for every request. This text: the row, over the contract of the Go function and the pure statement. Under no further condition. -/
import Derived.Test.YteibpjckmiifpaaDoorRows
import Derived.Test.YteibpjckmiifpaaDoorMFnExactReqTextx
import Derived.Test.YteibpjckmiifpaaDoorPureFnExactReqText
import Derived.WalkKit
import Derived.ProofKit
import Derived.OpenShut
import Derived.ShutString
import Derived.ChangeOld
import Derived.Below
import Derived.SizedLaws
import Derived.Deep.Slices
import Derived.ChangeArms
import Derived.Test.YteibpjckmiifpaaDoorCards
import Derived.Test.YteibpjckmiifpaaDoorTie
import Derived.Test.YteibpjckmiifpaaDoorDecShelf
import Derived.Lay
import Derived.Lib.SmallJoins
import Derived.Lib.AppendIntMem
import Derived.Stop.LaidErr
import Derived.SevenTiedAt
namespace Go.Proofs.YteibpjckmiifpaaDoor.fnExactReqText
open Go.ChangeShapes Go.WideShapes Go.ChangeAt Go.RowKit Go.Proofs.YteibpjckmiifpaaDoorW.PrintWords Go.Proofs.YteibpjckmiifpaaDoor.MFnExactReqText
open Go.ChangeMaps (open_string shut_string)
open Go.Joins Go.Lib
set_option linter.unusedVariables false
set_option linter.unusedSimpArgs false
theorem own : ownKnob Tryd.prog.godebug = none := by kernel_rfl
theorem gT : Tryd.prog.globalNamed "internal/strconv.uint64pow10" = some 0 := by kernel_rfl
theorem gTType : (Tryd.prog.globals[0]?).map (·.type) = some 71 := by kernel_rfl
def laid : List (String × DataW Unit) := [("math/bits.deBruijn32tab", Rows.laid_math_bits_deBruijn32tab), ("math/bits.deBruijn64tab", Rows.laid_math_bits_deBruijn64tab), ("internal/strconv.uint64pow10", Rows.laid_internal_strconv_uint64pow10)]
theorem tabEq : (Rows.laid_internal_strconv_uint64pow10 : DataW Unit) = Lib.tabData .u64 Lib.pow10Tab := by kernel_rfl
theorem tabOf {W : World} (hL : laidMet Tryd.prog laid W) : Lib.TabIs Tryd.prog W "internal/strconv.uint64pow10" .u64 Lib.pow10Tab := by
  have h : laidMet Tryd.prog [("internal/strconv.uint64pow10", Rows.laid_internal_strconv_uint64pow10)] W := hL.tail.tail
  rw [tabEq] at h
  exact Lib.tabIs_of_head gT gTType Tryd.underlying71 Tryd.underlying61 (by kernel_rfl) (by kernel_rfl) h
theorem laidOut : laidOutB Tryd.prog = true := by kernel_rfl
theorem cz3 : Tryd.prog.cellsOf 3 = 1 := by kernel_rfl
theorem cz4 : Tryd.prog.cellsOf 4 = 1 := by kernel_rfl
theorem cz24 : Tryd.prog.cellsOf 24 = 1 := by kernel_rfl
theorem cz26 : Tryd.prog.cellsOf 26 = 6 := by kernel_rfl
theorem array_6 {α : Type} {cs : Array α} (h : cs.size = 6) : ∃ c0 c1 c2 c3 c4 c5, cs = #[c0, c1, c2, c3, c4, c5] := by
  obtain ⟨l⟩ := cs
  match l, h with
  | [c0, c1, c2, c3, c4, c5], _ => exact ⟨c0, c1, c2, c3, c4, c5, rfl⟩
theorem cells_ints {H : Type} {enc : TypeId × Value → H} {W : World} {base : Nat} {spare : Nat → Bool} {held : Bool} {fuel : Nat} {c0 : Value} {x : DataW H × List MemPlace} (h : DataW.trod enc Tryd.prog W base spare held fuel 24 [c0] = some x) :
    ∃ (A0 : Option Addr) (k0 : Nat) (l0 : List Int), c0 = .slice A0 l0.length k0 ∧ l0.length ≤ k0 ∧ Kd.C (Kd.int .i64) W A0 l0.length l0 ∧ (∀ z ∈ l0, (Lit.int .i64 z).wf = true) := by
  rcases open_ints Tryd.underlying24 Tryd.underlying3 (by kernel_rfl) h with ⟨hcs, _⟩ | ⟨a, len, cap, zs, hcs, _, hl, hm, hz, _, hcell, hwz⟩
  · obtain rfl : c0 = .slice none 0 0 := by simpa using hcs
    exact ⟨none, 0, [], rfl, Nat.le_refl _, ⟨rfl, Nat.zero_le _, fun h => by simp at h⟩, fun z hz => by simp at hz⟩
  · obtain rfl : c0 = .slice (some a) len cap := by simpa using hcs
    have hlz : len ≤ zs.length := by rw [hz]; split <;> omega
    have hlen : (zs.take len).length = len := by rw [List.length_take]; omega
    refine ⟨some a, cap, zs.take len, by rw [hlen], by rw [hlen]; exact hl, ?_, fun z hz => hwz z (List.mem_of_mem_take hz)⟩
    rw [hlen]
    refine Kd.C_of_reads (d := 0) ⟨hlen, by unfold maxLen at hm; omega, fun _ => ⟨a, rfl, fun j hj => ?_⟩⟩
    rw [hcell j (by omega)]
    simp [List.getD_eq_getElem?_getD, List.getElem?_take, hj]
theorem cells_Req {H : Type} {enc : TypeId × Value → H} {W : World} {base : Nat} {spare : Nat → Bool} {held : Bool} {fuel : Nat} {c0 c1 c2 c3 c4 c5 : Value} {x : DataW H × List MemPlace} (h : DataW.trod enc Tryd.prog W base spare held fuel 26 [c0, c1, c2, c3, c4, c5] = some x) :
    ∃ (a0 : Bool) (a1 : Int) (a2 : Int) (a3 : Int) (a4 : Bool) (A5 : Option Addr) (k5 : Nat) (l5 : List Int), c0 = .bool a0 ∧ c1 = .int .i64 a1 ∧ (Lit.int .i64 a1).wf = true ∧ c2 = .int .i64 a2 ∧ (Lit.int .i64 a2).wf = true ∧ c3 = .int .i64 a3 ∧ (Lit.int .i64 a3).wf = true ∧ c4 = .bool a4 ∧ c5 = .slice A5 l5.length k5 ∧ l5.length ≤ k5 ∧ Kd.C (Kd.int .i64) W A5 l5.length l5 ∧ (∀ z ∈ l5, (Lit.int .i64 z).wf = true) := by
  obtain ⟨xs, n, _, _, _, hlen, hg⟩ := DataW.trod_struct Tryd.underlying26 h
  have g0 : DataW.trod enc Tryd.prog W base spare held n 4 [c0] = xs[0]? := by simpa [cz4] using hg 0 _ rfl
  rw [List.getElem?_eq_getElem (show 0 < xs.length by rw [hlen]; decide)] at g0
  obtain ⟨a0, e0, _⟩ := DataW.trod_bool Tryd.underlying4 g0
  obtain rfl : c0 = .bool a0 := by simpa using e0
  have g1 : DataW.trod enc Tryd.prog W base spare held n 3 [c1] = xs[1]? := by simpa [cz3] using hg 1 _ rfl
  rw [List.getElem?_eq_getElem (show 1 < xs.length by rw [hlen]; decide)] at g1
  obtain ⟨a1, e1, _, w1⟩ := DataW.trod_int Tryd.underlying3 g1
  obtain rfl : c1 = .int .i64 a1 := by simpa using e1
  have g2 : DataW.trod enc Tryd.prog W base spare held n 3 [c2] = xs[2]? := by simpa [cz3] using hg 2 _ rfl
  rw [List.getElem?_eq_getElem (show 2 < xs.length by rw [hlen]; decide)] at g2
  obtain ⟨a2, e2, _, w2⟩ := DataW.trod_int Tryd.underlying3 g2
  obtain rfl : c2 = .int .i64 a2 := by simpa using e2
  have g3 : DataW.trod enc Tryd.prog W base spare held n 3 [c3] = xs[3]? := by simpa [cz3] using hg 3 _ rfl
  rw [List.getElem?_eq_getElem (show 3 < xs.length by rw [hlen]; decide)] at g3
  obtain ⟨a3, e3, _, w3⟩ := DataW.trod_int Tryd.underlying3 g3
  obtain rfl : c3 = .int .i64 a3 := by simpa using e3
  have g4 : DataW.trod enc Tryd.prog W base spare held n 4 [c4] = xs[4]? := by simpa [cz4] using hg 4 _ rfl
  rw [List.getElem?_eq_getElem (show 4 < xs.length by rw [hlen]; decide)] at g4
  obtain ⟨a4, e4, _⟩ := DataW.trod_bool Tryd.underlying4 g4
  obtain rfl : c4 = .bool a4 := by simpa using e4
  have g5 : DataW.trod enc Tryd.prog W base spare held n 24 [c5] = xs[5]? := by simpa [cz24] using hg 5 _ rfl
  rw [List.getElem?_eq_getElem (show 5 < xs.length by rw [hlen]; decide)] at g5
  obtain ⟨A5, k5, l5, rfl, h5, G5, z5⟩ := cells_ints g5
  exact ⟨a0, a1, a2, a3, a4, A5, k5, l5, rfl, rfl, w1, rfl, w2, rfl, w3, rfl, rfl, h5, G5, z5⟩
set_option maxRecDepth 100000 in
theorem lifted (os : Os) (started : os.Started) (H : Type) (enc : TypeId × Value → H) :
    ReturnsInHanded {} Tryd.checked os 4 .any (fun w args => (Rows.fnExactReqTextSpec.pre enc Tryd.prog Tryd.f4 [] false w args ∧ laidMetH Tryd.prog laid w) ∧ sizedMet enc Tryd.prog Tryd.f4 (OpenSpec.ofChange Rows.fnExactReqTextSpec) false w args)
      (Rows.fnExactReqTextSpec.post enc Tryd.prog Tryd.f4 false true false false) := by
  refine returnsInHanded_of_change_and (C := Tryd.checked) (X := fun w _ => laidMetH Tryd.prog laid w) (fun _ _ _ hh h => h.of_heap hh) own started (by kernel_rfl) Tryd.func4
    (ChangeSpec.witness_shaped (enc := enc) (C := Tryd.checked) (os := os) (X := fun w _ => laidMetH Tryd.prog laid w) false (World.laidAll Tryd.prog os laid) #[.agg #[.bool false, .int .i64 0, .int .i64 0, .int .i64 0, .bool false, .slice none 0 0]] 8 (World.laidAll_os _ _ _)
      (World.shaped_of_ZipB (by kernel_rfl) (by kernel_rfl)) (by kernel_rfl) (by kernel_rfl) (by kernel_rfl)
      (by rw [MakeChecks.laidMetH_plain _ _ _ (by kernel_rfl)]; exact laidMet_laidAll _ (by kernel_rfl) (by kernel_rfl))) ?_
  intro W base args ds gs before hval0 hW hcnd hsz0 hL _
  have hval : ∀ (j : Nat) t v, Tryd.f4.params[j]? = some t → args[j]? = some v → Value.okWide Tryd.prog W .any base t v := hval0
  have hW' := hW
  obtain ⟨p, q, hA0, hV, rfl, hfz, hnd⟩ := hW
  have hA : DataW.TrodAll enc Tryd.prog W 0 (fun _ => true) true Tryd.f4.params.toList args.toList ds p := hA0
  rw [Tryd.params4] at hA hval
  obtain ⟨v0, vs0, d0, ds0, p0, q0, hargs, rfl, rfl, h0, r0⟩ := trodAll_cons hA
  obtain ⟨rfl, rfl, rfl⟩ := trodAll_nil r0
  obtain rfl : args = #[v0] := by cases args; simp_all
  obtain ⟨rfl, rfl⟩ := trodVars_none hV
  have K0 := h0
  have lt0 : ∀ x ∈ p0, x.block < W.heap.size := by obtain ⟨m, hm⟩ := K0; exact DataW.trod_lt m _ _ _ hm
  obtain ⟨cs0, rfl, hs0⟩ := okWide_struct Tryd.underlying26 (hval 0 26 v0 rfl rfl)
  obtain ⟨c0, c1, c2, c3, c4, c5, rfl⟩ := array_6 (hs0.trans cz26)
  obtain ⟨fuel0, hf0⟩ := h0
  obtain ⟨a0_0, a0_1, a0_2, a0_3, a0_4, A0_5, k0_5, l0_5, rfl, rfl, w0_1, rfl, w0_2, rfl, w0_3, rfl, rfl, h0_5, G0_5, z0_5⟩ := cells_Req (by simpa [Value.cells] using hf0)
  have P := Pure.FnExactReqText a0_0 a0_1 a0_2 a0_3 a0_4 l0_5 w0_1 w0_2 w0_3 G0_5.2.1
  clear hA0 hval0 hsz0
  obtain ⟨k, hk⟩ := P
  rw [MakeChecks.laidMetH_plain _ _ _ (by kernel_rfl)] at hL
  refine (MFnExactReqText.laws_FnExactReqText.calls k a0_0 a0_1 a0_2 a0_3 a0_4 A0_5 k0_5 l0_5 W G0_5 h0_5 hk (tabOf hL)).mono fun e W' ⟨he, bel⟩ => ?_
  subst he
  exact ⟨_, rfl, _, _, _, [], _, [], hW', trodAll_mk1 (shut_bool Tryd.underlying4 _), (trodAll_cons_mk (Below.trod laidOut (by kernel_rfl) (of_decide_eq_true (by kernel_rfl)) K0 bel lt0) trodAll_mk0), rfl, bel.frame _, fun h => by cases h⟩
theorem over : Rows.fnExactReqTextRow.holds Tryd.pinned (OpenSpec.ofChange Rows.fnExactReqTextSpec) :=
  OpenClaim.holds_of_wide 4 Tryd.f4 rfl rfl rfl rfl rfl rfl rfl ⟨rfl, rfl, rfl, rfl, rfl⟩ rfl rfl rfl rfl rfl (by kernel_rfl) Tryd.func4 (by kernel_rfl)
    (of_decide_eq_true (by kernel_rfl)) (by unfold Func.isWrapper; first | (rw [if_pos (by decide +kernel)]; kernel_rfl) | (rw [if_neg (by decide +kernel)]; exact ⟨rfl, rfl⟩))
    (fun os started H enc _ => lifted os started H enc)
theorem card : Rows.FnExactReqTextCardSaid :=
  Claim7.holds_tied_plain_at .later [] [.data, .data, .data] true (true, "042e5cb54a78b0e4bf4cd635991d8a35a58fa6f3c792bbc264fa2d4b23ecd958") false over (fun _ h => by cases h) (by kernel_rfl) (fun _ h => by cases h) fnExactReqText_row_tie rfl ⟨rfl, rfl⟩ (by kernel_rfl) rfl
    (fun f fn hf hfn => by
      obtain rfl : f = 4 := Option.some.inj ((show Tryd.prog.funcNamed "loop.example/g01623/laws.FnExactReqText" = some 4 by kernel_rfl).symm.trans hf) |>.symm
      obtain rfl : fn = Tryd.f4 := (Option.some.inj (Tryd.func4.symm.trans hfn)).symm
      exact ⟨by kernel_rfl, fun j t ht => by
        rw [Tryd.params4] at ht
        have hm : t ∈ [26] := by simpa using Array.mem_of_getElem? ht
        have hall : ([26].all fun u => !Tryd.prog.wantsStandIn u) = true := by kernel_rfl
        exact (show Tryd.prog.wantsStandIn t = false by simpa using List.all_eq_true.1 hall t hm)⟩)
    (by kernel_rfl)
end Go.Proofs.YteibpjckmiifpaaDoor.fnExactReqText
namespace Go.Proofs.YteibpjckmiifpaaDoor
/-- The tied card, under a short name, for the claim. -/
theorem fnExactReqText_holds : Rows.FnExactReqTextCardSaid := fnExactReqText.card
end Go.Proofs.YteibpjckmiifpaaDoor
