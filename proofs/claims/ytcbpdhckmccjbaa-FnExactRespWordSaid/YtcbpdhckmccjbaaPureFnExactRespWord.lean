/- The program's RespWord answers as the reference's, for every int. -/
import Derived.Test.YtcbpdhckmccjbaaPFnExactRespWordx
namespace Go.Proofs.Ytcbpdhckmccjbaa.Pure
open Go.RowKit Go.Proofs.Ytcbpdhckmccjbaa.PFnExactRespWord Go.Proofs.YtcbpdhckmccjbaaW.PrintWords Go.Proofs.YtcbpdhckmccjbaaW.PrintLast Go.Proofs.YtcbpdhckmccjbaaW.PrintMore
set_option linter.unusedVariables false
set_option linter.unusedSimpArgs false

theorem spec_in (a b c : Int) : spec_l1In.f a b c = some (decide (b ≤ a ∧ a ≤ c)) := by
  unfold spec_l1In.f; by_cases h : b ≤ a
  · rw [if_pos h]; simp [h]
  · rw [if_neg h]; simp [h]

theorem impl_in (a b c : Int) : impl_within.f a b c = some (decide (b ≤ a ∧ a ≤ c)) := by
  unfold impl_within.f; by_cases h : b ≤ a
  · rw [if_pos h]; simp [h]
  · rw [if_neg h]; simp [h]

theorem FnExactRespWord : laws_FnExactRespWord.Pure := by
  intro a _
  unfold laws_FnExactRespWord.f spec_RespWord.f impl_RespWord.f impl_nameOf.f; rw [spec_in, impl_in]
  by_cases h : 0 ≤ a ∧ a ≤ 3
  · have h' : a = 0 ∨ a = 1 ∨ a = 2 ∨ a = 3 := by omega
    rcases h' with rfl | rfl | rfl | rfl <;> simp [wrap64]
  · have h1 : ¬ (0 ≤ a ∧ a ≤ wrap64 3) := by rw [show wrap64 3 = 3 by unfold wrap64; omega]; exact h
    simp [h, h1]

end Go.Proofs.Ytcbpdhckmccjbaa.Pure
