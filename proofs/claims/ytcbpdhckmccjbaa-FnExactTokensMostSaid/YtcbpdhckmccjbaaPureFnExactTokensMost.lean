/- The program's TokensMost answers as the reference's, for every configuration of a master and every int. -/
import Derived.Test.YtcbpdhckmccjbaaPFnExactTokensMostx
namespace Go.Proofs.Ytcbpdhckmccjbaa.Pure
open Go.RowKit Go.Proofs.Ytcbpdhckmccjbaa.PFnExactTokensMost Go.Proofs.YtcbpdhckmccjbaaW.PrintWords Go.Proofs.YtcbpdhckmccjbaaW.PrintLast Go.Proofs.YtcbpdhckmccjbaaW.PrintMore
set_option linter.unusedVariables false
set_option linter.unusedSimpArgs false

theorem spec_in (a b c : Int) : spec_l1In.f a b c = some (decide (b ≤ a ∧ a ≤ c)) := by
  unfold spec_l1In.f; by_cases h : b ≤ a
  · rw [if_pos h]; simp [h]
  · rw [if_neg h]; simp [h]

theorem impl_in (a b c : Int) : impl_within.f a b c = some (decide (b ≤ a ∧ a ≤ c)) := by
  unfold impl_within.f; by_cases h : b ≤ a
  · rw [if_pos h]; simp [h]
  · rw [if_neg h]; simp [h]

theorem FnExactTokensMost (a0 : Int) (a1 : Bool) (a2 a3 n : Int) (_ : (Lit.int .i64 a0).wf = true) (_ : (Lit.int .i64 a2).wf = true) (_ : (Lit.int .i64 a3).wf = true) (_ : (Lit.int .i64 n).wf = true) :
    laws_FnExactTokensMost.f a0 a1 a2 a3 n = some true := by
  unfold laws_FnExactTokensMost.f laws_toMConf.f
  simp only [Option.bind_some]
  have e : spec_TokensMost.f a0 a1 a2 a3 n = impl_TokensMost.f a0 a1 a2 a3 n := by
    unfold spec_TokensMost.f impl_TokensMost.f; rw [spec_in, impl_in]
  have g : ∃ r, impl_TokensMost.f a0 a1 a2 a3 n = some r := by
    unfold impl_TokensMost.f; rw [impl_in]; simp only [Option.bind_some]
    by_cases h1 : a1 = true
    · rw [if_pos h1]
      by_cases h2 : a2 < 1
      · rw [if_pos h2]; exact ⟨_, rfl⟩
      · rw [if_neg h2]
        by_cases h3 : a3 < 0
        · rw [if_pos h3]; exact ⟨_, rfl⟩
        · rw [if_neg h3]
          have h4 : ¬ a2 = 0 := by omega
          rw [if_neg h4]; split <;> exact ⟨_, rfl⟩
    · rw [if_neg h1]; exact ⟨_, rfl⟩
  obtain ⟨r, hr⟩ := g
  rw [e, hr]; simp

end Go.Proofs.Ytcbpdhckmccjbaa.Pure
