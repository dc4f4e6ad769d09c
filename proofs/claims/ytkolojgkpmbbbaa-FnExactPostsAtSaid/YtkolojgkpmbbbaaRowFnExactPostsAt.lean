/- The program's PostsAt answers as the reference's, leaves its argument alone and returns memory of its own, for every script and cycle. This text: the row, over the contract of the Go function and the pure statement. Under no further condition. -/
import Derived.Test.YtkolojgkpmbbbaaRows
import Derived.Test.YtkolojgkpmbbbaaMFnExactPostsAtx
import Derived.Test.YtkolojgkpmbbbaaPureFnExactPostsAt
import Derived.WalkKit
import Derived.ProofKit
import Derived.OpenShut
import Derived.ShutString
import Derived.ChangeOld
import Derived.Below
import Derived.SizedLaws
import Derived.Deep.Slices
import Derived.ChangeArms
namespace Go.Proofs.Ytkolojgkpmbbbaa.fnExactPostsAt
open Go.ChangeShapes Go.WideShapes Go.ChangeAt Go.RowKit Go.Proofs.YtkolojgkpmbbbaaW.PrintWords Go.Proofs.Ytkolojgkpmbbbaa.MFnExactPostsAt
open Go.ChangeMaps (open_string shut_string)
set_option linter.unusedVariables false
set_option linter.unusedSimpArgs false
theorem own : ownKnob Try.prog.godebug = none := by kernel_rfl
theorem laidOut : laidOutB Try.prog = true := by kernel_rfl
theorem cz3 : Try.prog.cellsOf 3 = 1 := by kernel_rfl
theorem cz4 : Try.prog.cellsOf 4 = 1 := by kernel_rfl
theorem cz22 : Try.prog.cellsOf 22 = 1 := by kernel_rfl
theorem cz23 : Try.prog.cellsOf 23 = 1 := by kernel_rfl
theorem cz25 : Try.prog.cellsOf 25 = 3 := by kernel_rfl
theorem cz63 : Try.prog.cellsOf 63 = 6 := by kernel_rfl
theorem cz65 : Try.prog.cellsOf 65 = 8 := by kernel_rfl
theorem array_3 {α : Type} {cs : Array α} (h : cs.size = 3) : ∃ c0 c1 c2, cs = #[c0, c1, c2] := by
  obtain ⟨l⟩ := cs
  match l, h with
  | [c0, c1, c2], _ => exact ⟨c0, c1, c2, rfl⟩
theorem cells_ints {H : Type} {enc : TypeId × Value → H} {W : World} {base : Nat} {spare : Nat → Bool} {held : Bool} {fuel : Nat} {c0 : Value} {x : DataW H × List MemPlace} (h : DataW.trod enc Try.prog W base spare held fuel 23 [c0] = some x) :
    ∃ (A0 : Option Addr) (k0 : Nat) (l0 : List Int), c0 = .slice A0 l0.length k0 ∧ l0.length ≤ k0 ∧ Kd.C (Kd.int .i64) W A0 l0.length l0 ∧ (∀ z ∈ l0, (Lit.int .i64 z).wf = true) := by
  rcases open_ints Try.underlying23 Try.underlying3 (by kernel_rfl) h with ⟨hcs, _⟩ | ⟨a, len, cap, zs, hcs, _, hl, hm, hz, _, hcell, hwz⟩
  · obtain rfl : c0 = .slice none 0 0 := by simpa using hcs
    exact ⟨none, 0, [], rfl, Nat.le_refl _, ⟨rfl, Nat.zero_le _, fun h => by simp at h⟩, fun z hz => by simp at hz⟩
  · obtain rfl : c0 = .slice (some a) len cap := by simpa using hcs
    have hlz : len ≤ zs.length := by rw [hz]; split <;> omega
    have hlen : (zs.take len).length = len := by rw [List.length_take]; omega
    refine ⟨some a, cap, zs.take len, by rw [hlen], by rw [hlen]; exact hl, ?_, fun z hz => hwz z (List.mem_of_mem_take hz)⟩
    rw [hlen]
    refine Kd.C_of_reads (d := 0) ⟨hlen, by unfold maxLen at hm; omega, fun _ => ⟨a, rfl, fun j hj => ?_⟩⟩
    rw [hcell j (by omega)]
    simp [List.getD_eq_getElem?_getD, List.getElem?_take, hj]
theorem cells_Req {H : Type} {enc : TypeId × Value → H} {W : World} {base : Nat} {spare : Nat → Bool} {held : Bool} {fuel : Nat} {c0 c1 c2 c3 c4 c5 : Value} {x : DataW H × List MemPlace} (h : DataW.trod enc Try.prog W base spare held fuel 63 [c0, c1, c2, c3, c4, c5] = some x) :
    ∃ (a0 : Bool) (a1 : Int) (a2 : Int) (a3 : Int) (a4 : Bool) (A5 : Option Addr) (k5 : Nat) (l5 : List Int), c0 = .bool a0 ∧ c1 = .int .i64 a1 ∧ (Lit.int .i64 a1).wf = true ∧ c2 = .int .i64 a2 ∧ (Lit.int .i64 a2).wf = true ∧ c3 = .int .i64 a3 ∧ (Lit.int .i64 a3).wf = true ∧ c4 = .bool a4 ∧ c5 = .slice A5 l5.length k5 ∧ l5.length ≤ k5 ∧ Kd.C (Kd.int .i64) W A5 l5.length l5 ∧ (∀ z ∈ l5, (Lit.int .i64 z).wf = true) := by
  obtain ⟨xs, n, _, _, _, hlen, hg⟩ := DataW.trod_struct Try.underlying63 h
  have g0 : DataW.trod enc Try.prog W base spare held n 4 [c0] = xs[0]? := by simpa [cz4] using hg 0 _ rfl
  rw [List.getElem?_eq_getElem (show 0 < xs.length by rw [hlen]; decide)] at g0
  obtain ⟨a0, e0, _⟩ := DataW.trod_bool Try.underlying4 g0
  obtain rfl : c0 = .bool a0 := by simpa using e0
  have g1 : DataW.trod enc Try.prog W base spare held n 3 [c1] = xs[1]? := by simpa [cz3] using hg 1 _ rfl
  rw [List.getElem?_eq_getElem (show 1 < xs.length by rw [hlen]; decide)] at g1
  obtain ⟨a1, e1, _, w1⟩ := DataW.trod_int Try.underlying3 g1
  obtain rfl : c1 = .int .i64 a1 := by simpa using e1
  have g2 : DataW.trod enc Try.prog W base spare held n 3 [c2] = xs[2]? := by simpa [cz3] using hg 2 _ rfl
  rw [List.getElem?_eq_getElem (show 2 < xs.length by rw [hlen]; decide)] at g2
  obtain ⟨a2, e2, _, w2⟩ := DataW.trod_int Try.underlying3 g2
  obtain rfl : c2 = .int .i64 a2 := by simpa using e2
  have g3 : DataW.trod enc Try.prog W base spare held n 3 [c3] = xs[3]? := by simpa [cz3] using hg 3 _ rfl
  rw [List.getElem?_eq_getElem (show 3 < xs.length by rw [hlen]; decide)] at g3
  obtain ⟨a3, e3, _, w3⟩ := DataW.trod_int Try.underlying3 g3
  obtain rfl : c3 = .int .i64 a3 := by simpa using e3
  have g4 : DataW.trod enc Try.prog W base spare held n 4 [c4] = xs[4]? := by simpa [cz4] using hg 4 _ rfl
  rw [List.getElem?_eq_getElem (show 4 < xs.length by rw [hlen]; decide)] at g4
  obtain ⟨a4, e4, _⟩ := DataW.trod_bool Try.underlying4 g4
  obtain rfl : c4 = .bool a4 := by simpa using e4
  have g5 : DataW.trod enc Try.prog W base spare held n 23 [c5] = xs[5]? := by simpa [cz23] using hg 5 _ rfl
  rw [List.getElem?_eq_getElem (show 5 < xs.length by rw [hlen]; decide)] at g5
  obtain ⟨A5, k5, l5, rfl, h5, G5, z5⟩ := cells_ints g5
  exact ⟨a0, a1, a2, a3, a4, A5, k5, l5, rfl, rfl, w1, rfl, w2, rfl, w3, rfl, rfl, h5, G5, z5⟩
theorem cells_Post {H : Type} {enc : TypeId × Value → H} {W : World} {base : Nat} {spare : Nat → Bool} {held : Bool} {fuel : Nat} {c0 c1 c2 c3 c4 c5 c6 c7 : Value} {x : DataW H × List MemPlace} (h : DataW.trod enc Try.prog W base spare held fuel 65 [c0, c1, c2, c3, c4, c5, c6, c7] = some x) :
    ∃ (a0 : Int) (a1 : Int) (a2 : Bool) (a3 : Int) (a4 : Int) (a5 : Int) (a6 : Bool) (A7 : Option Addr) (k7 : Nat) (l7 : List Int), c0 = .int .i64 a0 ∧ (Lit.int .i64 a0).wf = true ∧ c1 = .int .i64 a1 ∧ (Lit.int .i64 a1).wf = true ∧ c2 = .bool a2 ∧ c3 = .int .i64 a3 ∧ (Lit.int .i64 a3).wf = true ∧ c4 = .int .i64 a4 ∧ (Lit.int .i64 a4).wf = true ∧ c5 = .int .i64 a5 ∧ (Lit.int .i64 a5).wf = true ∧ c6 = .bool a6 ∧ c7 = .slice A7 l7.length k7 ∧ l7.length ≤ k7 ∧ Kd.C (Kd.int .i64) W A7 l7.length l7 ∧ (∀ z ∈ l7, (Lit.int .i64 z).wf = true) := by
  obtain ⟨xs, n, _, _, _, hlen, hg⟩ := DataW.trod_struct Try.underlying65 h
  have g0 : DataW.trod enc Try.prog W base spare held n 3 [c0] = xs[0]? := by simpa [cz3] using hg 0 _ rfl
  rw [List.getElem?_eq_getElem (show 0 < xs.length by rw [hlen]; decide)] at g0
  obtain ⟨a0, e0, _, w0⟩ := DataW.trod_int Try.underlying3 g0
  obtain rfl : c0 = .int .i64 a0 := by simpa using e0
  have g1 : DataW.trod enc Try.prog W base spare held n 3 [c1] = xs[1]? := by simpa [cz3] using hg 1 _ rfl
  rw [List.getElem?_eq_getElem (show 1 < xs.length by rw [hlen]; decide)] at g1
  obtain ⟨a1, e1, _, w1⟩ := DataW.trod_int Try.underlying3 g1
  obtain rfl : c1 = .int .i64 a1 := by simpa using e1
  have g2 : DataW.trod enc Try.prog W base spare held n 63 [c2, c3, c4, c5, c6, c7] = xs[2]? := by simpa [cz63] using hg 2 _ rfl
  rw [List.getElem?_eq_getElem (show 2 < xs.length by rw [hlen]; decide)] at g2
  obtain ⟨a2, a3, a4, a5, a6, A7, k7, l7, rfl, rfl, w3, rfl, w4, rfl, w5, rfl, rfl, h7, G7, z7⟩ := cells_Req g2
  exact ⟨a0, a1, a2, a3, a4, a5, a6, A7, k7, l7, rfl, w0, rfl, w1, rfl, rfl, w3, rfl, w4, rfl, w5, rfl, rfl, h7, G7, z7⟩
def goodk65 (z : S65) : Prop := z.f2.f5.length ≤ 9223372036854775807 ∧ (Lit.int .i64 z.f0).wf = true ∧ (Lit.int .i64 z.f1).wf = true ∧ (Lit.int .i64 z.f2.f1).wf = true ∧ (Lit.int .i64 z.f2.f2).wf = true ∧ (Lit.int .i64 z.f2.f3).wf = true ∧ (∀ y ∈ z.f2.f5, (Lit.int .i64 y).wf = true)
theorem cells_rowPost {H : Type} {enc : TypeId × Value → H} {W : World} {base : Nat} {spare : Nat → Bool} {held : Bool} {fuel : Nat} {c0 : Value} {x : DataW H × List MemPlace} (h : DataW.trod enc Try.prog W base spare held fuel 22 [c0] = some x) :
    ∃ (A0 : Option Addr) (k0 : Nat) (l0 : List S65), c0 = .slice A0 l0.length k0 ∧ l0.length ≤ k0 ∧ Kd.C k65 W A0 l0.length l0 ∧ (∀ z ∈ l0, goodk65 z) := by
  rcases Go.Deep.open_slice Try.underlying22 h with ⟨hcs, _⟩ | ⟨a, len, cap, m, n, D, Pl, hcs, _, hl, hm, hmm, _, hi⟩
  · obtain rfl : c0 = .slice none 0 0 := by simpa using hcs
    exact ⟨none, 0, [], rfl, Nat.le_refl _, ⟨rfl, Nat.zero_le _, fun h => by simp at h⟩, fun z hz => by simp at hz⟩
  · obtain rfl : c0 = .slice (some a) len cap := by simpa using hcs
    have hlm : len ≤ m := by rw [hmm]; split <;> omega
    have one : ∀ i, i < len → ∃ (z : S65) (cs : List Value), (k65.K W z cs ∧ cs.length = 8 ∧ ∀ j u, cs[j]? = some u → W.cell? (a.add (i * 8 + j)) = some u) ∧ goodk65 z := fun i hilt => by
      obtain ⟨cs, hc, ht⟩ := hi i (by omega)
      rw [cz65] at hc
      obtain ⟨_, hcl, hat⟩ := World.cells?_some hc
      obtain ⟨c0, c1, c2, c3, c4, c5, c6, c7, rfl⟩ : ∃ c0 c1 c2 c3 c4 c5 c6 c7, cs = [c0, c1, c2, c3, c4, c5, c6, c7] := by
        match cs, hcl with
        | [c0, c1, c2, c3, c4, c5, c6, c7], _ => exact ⟨c0, c1, c2, c3, c4, c5, c6, c7, rfl⟩
      obtain ⟨a0, a1, a2, a3, a4, a5, a6, A7, k7, l7, rfl, w0, rfl, w1, rfl, rfl, w3, rfl, w4, rfl, w5, rfl, rfl, h7, G7, z7⟩ := cells_Post ht
      refine ⟨⟨a0, a1, ⟨a2, a3, a4, a5, a6, l7⟩⟩, _, ⟨k65_mk W _ (A7 := A7) (c7 := k7) h7 G7, rfl, fun j u hj => ?_⟩, G7.2.1, w0, w1, w3, w4, w5, z7⟩
      have hjl : j < 8 := (List.getElem?_eq_some_iff.1 hj).1
      rw [← Go.Deep.add_add, hat j hjl]; exact hj
    let zs : List S65 := (List.range len).map fun i => if hh : i < len then Classical.choose (one i hh) else z65
    have hzl : zs.length = len := by simp [zs]
    have hz : ∀ i (hh : i < len), zs[i]? = some (Classical.choose (one i hh)) := fun i hh => by simp [zs, hh]
    refine ⟨some a, cap, zs, by rw [hzl], by rw [hzl]; exact hl, ?_, fun z hzm => ?_⟩
    · rw [hzl]
      refine ⟨hzl, by unfold maxLen at hm; omega, fun _ => ⟨a, rfl, fun j p hj => ?_⟩⟩
      have hjl : j < len := by have := (List.getElem?_eq_some_iff.1 hj).1; omega
      rw [hz j hjl] at hj
      obtain rfl := Option.some.inj hj
      obtain ⟨cs, ⟨h1, h2, h3⟩, _⟩ := Classical.choose_spec (one j hjl)
      exact ⟨cs, h2, h1, h3⟩
    · obtain ⟨i, hil, hie⟩ := List.getElem_of_mem hzm
      have hlt : i < len := by omega
      have e := hz i hlt
      rw [List.getElem?_eq_getElem hil] at e
      obtain ⟨cs, _, hg⟩ := Classical.choose_spec (one i hlt)
      rw [← hie, Option.some.inj e]; exact hg
theorem cells_Script {H : Type} {enc : TypeId × Value → H} {W : World} {base : Nat} {spare : Nat → Bool} {held : Bool} {fuel : Nat} {c0 c1 c2 : Value} {x : DataW H × List MemPlace} (h : DataW.trod enc Try.prog W base spare held fuel 25 [c0, c1, c2] = some x) :
    ∃ (A0 : Option Addr) (k0 : Nat) (l0 : List S65) (A1 : Option Addr) (k1 : Nat) (l1 : List Int) (A2 : Option Addr) (k2 : Nat) (l2 : List Int), c0 = .slice A0 l0.length k0 ∧ l0.length ≤ k0 ∧ Kd.C k65 W A0 l0.length l0 ∧ (∀ z ∈ l0, goodk65 z) ∧ c1 = .slice A1 l1.length k1 ∧ l1.length ≤ k1 ∧ Kd.C (Kd.int .i64) W A1 l1.length l1 ∧ (∀ z ∈ l1, (Lit.int .i64 z).wf = true) ∧ c2 = .slice A2 l2.length k2 ∧ l2.length ≤ k2 ∧ Kd.C (Kd.int .i64) W A2 l2.length l2 ∧ (∀ z ∈ l2, (Lit.int .i64 z).wf = true) := by
  obtain ⟨xs, n, _, _, _, hlen, hg⟩ := DataW.trod_struct Try.underlying25 h
  have g0 : DataW.trod enc Try.prog W base spare held n 22 [c0] = xs[0]? := by simpa [cz22] using hg 0 _ rfl
  rw [List.getElem?_eq_getElem (show 0 < xs.length by rw [hlen]; decide)] at g0
  obtain ⟨A0, k0, l0, rfl, h0, G0, z0⟩ := cells_rowPost g0
  have g1 : DataW.trod enc Try.prog W base spare held n 23 [c1] = xs[1]? := by simpa [cz23] using hg 1 _ rfl
  rw [List.getElem?_eq_getElem (show 1 < xs.length by rw [hlen]; decide)] at g1
  obtain ⟨A1, k1, l1, rfl, h1, G1, z1⟩ := cells_ints g1
  have g2 : DataW.trod enc Try.prog W base spare held n 23 [c2] = xs[2]? := by simpa [cz23] using hg 2 _ rfl
  rw [List.getElem?_eq_getElem (show 2 < xs.length by rw [hlen]; decide)] at g2
  obtain ⟨A2, k2, l2, rfl, h2, G2, z2⟩ := cells_ints g2
  exact ⟨A0, k0, l0, A1, k1, l1, A2, k2, l2, rfl, h0, G0, z0, rfl, h1, G1, z1, rfl, h2, G2, z2⟩
set_option maxRecDepth 100000 in
theorem lifted (os : Os) (started : os.Started) (H : Type) (enc : TypeId × Value → H) :
    ReturnsInHanded {} Try.checked os 5 .any (Rows.fnExactPostsAtSpec.pre6 enc Try.prog Try.f5 Rows.fnExactPostsAtRow.domain false) (Rows.fnExactPostsAtSpec.post enc Try.prog Try.f5 false true false false) := by
  refine returnsInHanded_of_change_sized (C := Try.checked) own started (by kernel_rfl) Try.func5
    (ChangeSpec.witness6 (enc := enc) (C := Try.checked) false ⟨#[], #[.agg #[.slice none 0 0, .slice none 0 0, .slice none 0 0], .int .i64 0], []⟩ 8 (by kernel_rfl) (by kernel_rfl) (by kernel_rfl) (by kernel_rfl)) ?_
  intro W base args ds gs before hval0 hW hcnd hsz0 _
  have hval : ∀ (j : Nat) t v, Try.f5.params[j]? = some t → args[j]? = some v → Value.okWide Try.prog W .any base t v := hval0
  have hW' := hW
  obtain ⟨p, q, hA0, hV, rfl, hfz, hnd⟩ := hW
  have hA : DataW.TrodAll enc Try.prog W 0 (fun _ => true) true Try.f5.params.toList args.toList ds p := hA0
  rw [Try.params5] at hA hval
  obtain ⟨v0, vs0, d0, ds0, p0, q0, hargs, rfl, rfl, h0, r0⟩ := trodAll_cons hA
  obtain ⟨v1, vs1, d1, ds1, p1, q1, rfl, rfl, rfl, h1, r1⟩ := trodAll_cons r0
  obtain ⟨rfl, rfl, rfl⟩ := trodAll_nil r1
  obtain rfl : args = #[v0, v1] := by cases args; simp_all
  obtain ⟨rfl, rfl⟩ := trodVars_none hV
  have K0 := h0
  have lt0 : ∀ x ∈ p0, x.block < W.heap.size := by obtain ⟨m, hm⟩ := K0; exact DataW.trod_lt m _ _ _ hm
  obtain ⟨cs0, rfl, hs0⟩ := okWide_struct Try.underlying25 (hval 0 25 v0 rfl rfl)
  obtain ⟨c0, c1, c2, rfl⟩ := array_3 (hs0.trans cz25)
  obtain ⟨fuel0, hf0⟩ := h0
  obtain ⟨A0_0, k0_0, l0_0, A0_1, k0_1, l0_1, A0_2, k0_2, l0_2, rfl, h0_0, G0_0, z0_0, rfl, h0_1, G0_1, z0_1, rfl, h0_2, G0_2, z0_2⟩ := cells_Script (by simpa [Value.cells] using hf0)
  obtain ⟨a1, rfl, rfl, rfl, w1⟩ := open_int Try.underlying3 (hval 1 3 v1 rfl rfl) h1
  have P := Pure.FnExactPostsAt l0_0 l0_1 l0_2 a1 G0_0.2.1 (fun z hz => (z0_0 z hz).1) G0_1.2.1 G0_2.2.1 w1
  clear hA0 hval0 hsz0
  obtain ⟨k, hk⟩ := P
  refine (MFnExactPostsAt.laws_FnExactPostsAt.calls k A0_0 k0_0 l0_0 A0_1 k0_1 l0_1 A0_2 k0_2 l0_2 a1 W G0_0 h0_0 G0_1 h0_1 G0_2 h0_2 hk).mono fun e W' ⟨he, bel⟩ => ?_
  subst he
  exact ⟨_, rfl, _, _, _, [], _, [], hW', trodAll_mk1 (shut_bool Try.underlying4 _), (trodAll_cons_mk (Below.trod laidOut (by kernel_rfl) (of_decide_eq_true (by kernel_rfl)) K0 bel lt0) (trodAll_cons_mk (shut_int Try.underlying3 w1) trodAll_mk0)), rfl, bel.frame _, fun h => by cases h⟩
theorem over : Rows.fnExactPostsAtRow.holds Try.pinned (OpenSpec.ofChange Rows.fnExactPostsAtSpec) :=
  OpenClaim.holds_of_wide 5 Try.f5 rfl rfl rfl rfl rfl rfl rfl ⟨rfl, rfl, rfl, rfl, rfl⟩ rfl rfl rfl rfl rfl (by kernel_rfl) Try.func5 (by kernel_rfl)
    (of_decide_eq_true (by kernel_rfl)) (by unfold Func.isWrapper; first | (rw [if_pos (by decide +kernel)]; kernel_rfl) | (rw [if_neg (by decide +kernel)]; exact ⟨rfl, rfl⟩))
    (fun os started H enc _ => lifted os started H enc)
theorem proved : Rows.FnExactPostsAtSaid := over
end Go.Proofs.Ytkolojgkpmbbbaa.fnExactPostsAt
namespace Go.Proofs.Ytkolojgkpmbbbaa
/-- The row, under a short name, for the claim. -/
theorem fnExactPostsAt_holds : Rows.FnExactPostsAtSaid := fnExactPostsAt.proved
end Go.Proofs.Ytkolojgkpmbbbaa
