/- The program's LimitOf answers as the reference's, for every int. -/
import Derived.Test.YtcbpdhckmccjbaaPFnExactLimitOfx
namespace Go.Proofs.Ytcbpdhckmccjbaa.Pure
open Go.RowKit Go.Proofs.Ytcbpdhckmccjbaa.PFnExactLimitOf Go.Proofs.YtcbpdhckmccjbaaW.PrintWords Go.Proofs.YtcbpdhckmccjbaaW.PrintLast Go.Proofs.YtcbpdhckmccjbaaW.PrintMore
set_option linter.unusedVariables false
set_option linter.unusedSimpArgs false

theorem spec_in (a b c : Int) : spec_l1In.f a b c = some (decide (b ≤ a ∧ a ≤ c)) := by
  unfold spec_l1In.f; by_cases h : b ≤ a
  · rw [if_pos h]; simp [h]
  · rw [if_neg h]; simp [h]

/-- How many bytes a size has. -/
def bytesM (s : Int) : Int := if s = 0 then 1 else if s = 1 then 2 else if s = 2 then 4 else 0
theorem bytesM_cases (s : Int) : (s = 0 ∧ bytesM s = 1) ∨ (s = 1 ∧ bytesM s = 2) ∨ (s = 2 ∧ bytesM s = 4) ∨ (¬ (0 ≤ s ∧ s ≤ 2) ∧ bytesM s = 0) := by
  unfold bytesM; split
  · left; omega
  · split
    · right; left; omega
    · split
      · right; right; left; omega
      · right; right; right; omega
theorem shl_1_0 : shl .i64 1 0 = 1 := by decide
theorem shl_1_1 : shl .i64 1 1 = 2 := by decide
theorem shl_1_2 : shl .i64 1 2 = 4 := by decide

theorem spec_bytes (s : Int) : spec_BytesOf.f s = some (bytesM s) := by
  unfold spec_BytesOf.f; rw [spec_in]
  rcases bytesM_cases s with ⟨rfl, h⟩ | ⟨rfl, h⟩ | ⟨rfl, h⟩ | ⟨h0, h⟩
  · rfl
  · rfl
  · rfl
  · rw [h]; simp [h0]

/-- How many numbers a size has. -/
def limitM (s : Int) : Int := if s = 0 then 256 else if s = 1 then 65536 else if s = 2 then 4294967296 else 0
theorem limitM_cases (s : Int) : (s = 0 ∧ bytesM s = 1 ∧ limitM s = 256) ∨ (s = 1 ∧ bytesM s = 2 ∧ limitM s = 65536) ∨ (s = 2 ∧ bytesM s = 4 ∧ limitM s = 4294967296) ∨ (¬ (0 ≤ s ∧ s ≤ 2) ∧ bytesM s = 0 ∧ limitM s = 0) := by
  unfold limitM bytesM; split
  · left; omega
  · split
    · right; left; omega
    · split
      · right; right; left; omega
      · right; right; right; omega
theorem shl_1_8 : shl .i64 1 8 = 256 := by decide
theorem shl_1_16 : shl .i64 1 16 = 65536 := by decide
theorem shl_1_32 : shl .i64 1 32 = 4294967296 := by decide
theorem wrap64_8_1 : wrap64 8 = 8 := by unfold wrap64; omega
theorem wrap64_8_2 : wrap64 16 = 16 := by unfold wrap64; omega
theorem wrap64_8_4 : wrap64 32 = 32 := by unfold wrap64; omega

theorem spec_limit (s : Int) : spec_LimitOf.f s = some (limitM s) := by
  unfold spec_LimitOf.f; rw [spec_bytes]
  rcases limitM_cases s with ⟨rfl, h, k⟩ | ⟨rfl, h, k⟩ | ⟨rfl, h, k⟩ | ⟨h0, h, k⟩
  · rw [h, k]; simp [wrap64_8_1, shl_1_8]
  · rw [h, k]; simp [wrap64_8_2, shl_1_16]
  · rw [h, k]; simp [wrap64_8_4, shl_1_32]
  · rw [h, k]; rfl

theorem impl_in (a b c : Int) : impl_within.f a b c = some (decide (b ≤ a ∧ a ≤ c)) := by
  unfold impl_within.f; by_cases h : b ≤ a
  · rw [if_pos h]; simp [h]
  · rw [if_neg h]; simp [h]

theorem impl_bytes (s : Int) : impl_BytesOf.f s = some (bytesM s) := by
  unfold impl_BytesOf.f; rw [impl_in]
  rcases bytesM_cases s with ⟨rfl, h⟩ | ⟨rfl, h⟩ | ⟨rfl, h⟩ | ⟨h0, h⟩
  · rfl
  · rfl
  · rfl
  · rw [h]; simp [h0]

theorem impl_limit (s : Int) : impl_LimitOf.f s = some (limitM s) := by
  unfold impl_LimitOf.f; rw [impl_bytes]
  rcases limitM_cases s with ⟨rfl, h, k⟩ | ⟨rfl, h, k⟩ | ⟨rfl, h, k⟩ | ⟨h0, h, k⟩
  · rw [h, k]; simp [wrap64_8_1, shl_1_8]
  · rw [h, k]; simp [wrap64_8_2, shl_1_16]
  · rw [h, k]; simp [wrap64_8_4, shl_1_32]
  · rw [h, k]; rfl

theorem FnExactLimitOf : laws_FnExactLimitOf.Pure := by
  intro a _
  unfold laws_FnExactLimitOf.f; rw [spec_limit, impl_limit]; simp

end Go.Proofs.Ytcbpdhckmccjbaa.Pure
