/- The program's SlaveOf answers as the reference's, for every int. -/
import Derived.Test.YtcbpdhckmccjbaaPFnExactSlaveOfx
namespace Go.Proofs.Ytcbpdhckmccjbaa.Pure
open Go.RowKit Go.Proofs.Ytcbpdhckmccjbaa.PFnExactSlaveOf Go.Proofs.YtcbpdhckmccjbaaW.PrintWords Go.Proofs.YtcbpdhckmccjbaaW.PrintLast Go.Proofs.YtcbpdhckmccjbaaW.PrintMore
set_option linter.unusedVariables false
set_option linter.unusedSimpArgs false


theorem FnExactSlaveOf : laws_FnExactSlaveOf.Pure := by
  intro a _
  refine ⟨1, ?_⟩
  have e : ∀ b, spec_SlaveOf.j0 1 a b = impl_SlaveOf.j0 1 a b := fun b => by simp only [spec_SlaveOf.j0, impl_SlaveOf.j0]
  have g : ∀ b, ∃ r, impl_SlaveOf.j0 1 a b = some r := fun b => by
    simp only [impl_SlaveOf.j0]; repeat' split
    all_goals exact ⟨_, rfl⟩
  have h : spec_SlaveOf.f 1 a = impl_SlaveOf.f 1 a := by unfold spec_SlaveOf.f impl_SlaveOf.f; rw [e, e]
  obtain ⟨r, hr⟩ : ∃ r, impl_SlaveOf.f 1 a = some r := by unfold impl_SlaveOf.f; split <;> exact g _
  unfold laws_FnExactSlaveOf.f; rw [h, hr]; simp

end Go.Proofs.Ytcbpdhckmccjbaa.Pure
