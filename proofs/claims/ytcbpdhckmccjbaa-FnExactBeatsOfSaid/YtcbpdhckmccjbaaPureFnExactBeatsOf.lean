/- The program's BeatsOf answers as the reference's, for every int. -/
import Derived.Test.YtcbpdhckmccjbaaPFnExactBeatsOfx
namespace Go.Proofs.Ytcbpdhckmccjbaa.Pure
open Go.RowKit Go.Proofs.Ytcbpdhckmccjbaa.PFnExactBeatsOf Go.Proofs.YtcbpdhckmccjbaaW.PrintWords Go.Proofs.YtcbpdhckmccjbaaW.PrintLast Go.Proofs.YtcbpdhckmccjbaaW.PrintMore
set_option linter.unusedVariables false
set_option linter.unusedSimpArgs false

theorem spec_in (a b c : Int) : spec_l1In.f a b c = some (decide (b ≤ a ∧ a ≤ c)) := by
  unfold spec_l1In.f; by_cases h : b ≤ a
  · rw [if_pos h]; simp [h]
  · rw [if_neg h]; simp [h]

/-- How many beats a burst has. -/
def beatsM (s : Int) : Int := if s = 0 then 1 else if s = 1 then 4 else if s = 2 then 4 else if s = 3 then 8 else 0
theorem beatsM_cases (s : Int) : (s = 0 ∧ beatsM s = 1) ∨ (s = 1 ∧ beatsM s = 4) ∨ (s = 2 ∧ beatsM s = 4) ∨ (s = 3 ∧ beatsM s = 8) ∨ (¬ (0 ≤ s ∧ s ≤ 3) ∧ beatsM s = 0) := by
  unfold beatsM; split
  · left; omega
  · split
    · right; left; omega
    · split
      · right; right; left; omega
      · split
        · right; right; right; left; omega
        · right; right; right; right; omega

theorem spec_beats (s : Int) : spec_BeatsOf.f s = some (beatsM s) := by
  unfold spec_BeatsOf.f; rw [spec_in]
  rcases beatsM_cases s with ⟨rfl, h⟩ | ⟨rfl, h⟩ | ⟨rfl, h⟩ | ⟨rfl, h⟩ | ⟨h0, h⟩
  · rfl
  · rfl
  · rfl
  · rfl
  · rw [h]; simp [h0]

theorem impl_in (a b c : Int) : impl_within.f a b c = some (decide (b ≤ a ∧ a ≤ c)) := by
  unfold impl_within.f; by_cases h : b ≤ a
  · rw [if_pos h]; simp [h]
  · rw [if_neg h]; simp [h]

theorem impl_beats (s : Int) : impl_BeatsOf.f s = some (beatsM s) := by
  unfold impl_BeatsOf.f; rw [impl_in]
  rcases beatsM_cases s with ⟨rfl, h⟩ | ⟨rfl, h⟩ | ⟨rfl, h⟩ | ⟨rfl, h⟩ | ⟨h0, h⟩
  · rfl
  · rfl
  · rfl
  · rfl
  · rw [h]; simp [h0]

theorem FnExactBeatsOf : laws_FnExactBeatsOf.Pure := by
  intro a _
  unfold laws_FnExactBeatsOf.f; rw [spec_beats, impl_beats]; simp

end Go.Proofs.Ytcbpdhckmccjbaa.Pure
