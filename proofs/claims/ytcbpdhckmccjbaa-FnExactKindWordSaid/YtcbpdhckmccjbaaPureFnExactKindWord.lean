/- The program's KindWord answers as the reference's, for every int. -/
import Derived.Test.YtcbpdhckmccjbaaPFnExactKindWordx
namespace Go.Proofs.Ytcbpdhckmccjbaa.Pure
open Go.RowKit Go.Proofs.Ytcbpdhckmccjbaa.PFnExactKindWord Go.Proofs.YtcbpdhckmccjbaaW.PrintWords Go.Proofs.YtcbpdhckmccjbaaW.PrintLast Go.Proofs.YtcbpdhckmccjbaaW.PrintMore
set_option linter.unusedVariables false
set_option linter.unusedSimpArgs false

theorem impl_in (a b c : Int) : impl_within.f a b c = some (decide (b ≤ a ∧ a ≤ c)) := by
  unfold impl_within.f; by_cases h : b ≤ a
  · rw [if_pos h]; simp [h]
  · rw [if_neg h]; simp [h]

theorem FnExactKindWord : laws_FnExactKindWord.Pure := by
  intro a _
  unfold laws_FnExactKindWord.f spec_KindWord.f impl_KindWord.f impl_nameOf.f; rw [impl_in]
  by_cases h : 0 ≤ a ∧ a ≤ 3
  · have h' : a = 0 ∨ a = 1 ∨ a = 2 ∨ a = 3 := by omega
    rcases h' with rfl | rfl | rfl | rfl <;> simp [wrap64, rdOf]
  · have h1 : ¬ (0 ≤ a ∧ a ≤ wrap64 3) := by rw [show wrap64 3 = 3 by unfold wrap64; omega]; exact h
    have e0 : ¬ a = 0 := by omega
    have e2 : ¬ a = 2 := by omega
    have e3 : ¬ a = 3 := by omega
    simp [h1, e0, e2, e3]

end Go.Proofs.Ytcbpdhckmccjbaa.Pure
