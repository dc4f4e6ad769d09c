/- The program's NextAddr answers as the reference's, for every three ints. -/
import Derived.Test.YtcbpdhckmccjbaaPFnExactNextAddrx
namespace Go.Proofs.Ytcbpdhckmccjbaa.Pure
open Go.RowKit Go.Proofs.Ytcbpdhckmccjbaa.PFnExactNextAddr Go.Proofs.YtcbpdhckmccjbaaW.PrintWords Go.Proofs.YtcbpdhckmccjbaaW.PrintLast Go.Proofs.YtcbpdhckmccjbaaW.PrintMore
set_option linter.unusedVariables false
set_option linter.unusedSimpArgs false

/-- How many bytes a size has. -/
def bytesM (s : Int) : Int := if s = 0 then 1 else if s = 1 then 2 else if s = 2 then 4 else 0
theorem bytesM_cases (s : Int) : (s = 0 ∧ bytesM s = 1) ∨ (s = 1 ∧ bytesM s = 2) ∨ (s = 2 ∧ bytesM s = 4) ∨ (¬ (0 ≤ s ∧ s ≤ 2) ∧ bytesM s = 0) := by
  unfold bytesM; split
  · left; omega
  · split
    · right; left; omega
    · split
      · right; right; left; omega
      · right; right; right; omega
theorem shl_1_0 : shl .i64 1 0 = 1 := by decide
theorem shl_1_1 : shl .i64 1 1 = 2 := by decide
theorem shl_1_2 : shl .i64 1 2 = 4 := by decide

/-- An address fits a size. -/
def alignedM (a s : Int) : Bool := decide (0 ≤ a ∧ 0 ≤ s ∧ s ≤ 2 ∧ a % bytesM s = 0)
theorem tmod_pos {a b : Int} (h : 0 ≤ a) : Int.tmod a b = a % b := Int.tmod_eq_emod_of_nonneg h

/-- How many beats a burst has. -/
def beatsM (s : Int) : Int := if s = 0 then 1 else if s = 1 then 4 else if s = 2 then 4 else if s = 3 then 8 else 0
theorem beatsM_cases (s : Int) : (s = 0 ∧ beatsM s = 1) ∨ (s = 1 ∧ beatsM s = 4) ∨ (s = 2 ∧ beatsM s = 4) ∨ (s = 3 ∧ beatsM s = 8) ∨ (¬ (0 ≤ s ∧ s ≤ 3) ∧ beatsM s = 0) := by
  unfold beatsM; split
  · left; omega
  · split
    · right; left; omega
    · split
      · right; right; left; omega
      · split
        · right; right; right; left; omega
        · right; right; right; right; omega

theorem wf_of {a : Int} (h : (Lit.int .i64 a).wf = true) : -9223372036854775808 ≤ a ∧ a ≤ 9223372036854775807 := by
  simp [Lit.wf, IntKind.min, IntKind.max, IntKind.signed, IntKind.bits] at h; omega
theorem wrap64_id {a : Int} (h0 : -9223372036854775808 ≤ a) (h1 : a ≤ 9223372036854775807) : wrap64 a = a := by unfold wrap64; omega

/-- The next address of a burst; -1 where there is none. -/
def nextM (a s b : Int) : Int :=
  if alignedM a s = true ∧ a < 512 ∧ beatsM b ≠ 0 then (if b = 2 ∧ (a + bytesM s) % (4 * bytesM s) = 0 then a + bytesM s - 4 * bytesM s else a + bytesM s) else -1
theorem alignedM_iff (a s : Int) : alignedM a s = true ↔ 0 ≤ a ∧ 0 ≤ s ∧ s ≤ 2 ∧ a % bytesM s = 0 := by unfold alignedM; simp
theorem bytesM_pos {s : Int} (h0 : 0 ≤ s) (h2 : s ≤ 2) : 1 ≤ bytesM s ∧ bytesM s ≤ 4 := by
  rcases bytesM_cases s with ⟨_, h⟩ | ⟨_, h⟩ | ⟨_, h⟩ | ⟨h', h⟩ <;> omega
theorem bytesM_le (s : Int) : 0 ≤ bytesM s ∧ bytesM s ≤ 4 := by
  rcases bytesM_cases s with ⟨_, h⟩ | ⟨_, h⟩ | ⟨_, h⟩ | ⟨h', h⟩ <;> omega

theorem spec_in (a b c : Int) : spec_l1In.f a b c = some (decide (b ≤ a ∧ a ≤ c)) := by
  unfold spec_l1In.f; by_cases h : b ≤ a
  · rw [if_pos h]; simp [h]
  · rw [if_neg h]; simp [h]

theorem spec_bytes (s : Int) : spec_BytesOf.f s = some (bytesM s) := by
  unfold spec_BytesOf.f; rw [spec_in]
  rcases bytesM_cases s with ⟨rfl, h⟩ | ⟨rfl, h⟩ | ⟨rfl, h⟩ | ⟨h0, h⟩
  · rfl
  · rfl
  · rfl
  · rw [h]; simp [h0]

theorem spec_aligned (a s : Int) : spec_Aligned.f a s = some (alignedM a s) := by
  unfold spec_Aligned.f alignedM; rw [spec_bytes]
  by_cases ha : 0 ≤ a
  · rcases bytesM_cases s with ⟨rfl, h⟩ | ⟨rfl, h⟩ | ⟨rfl, h⟩ | ⟨h0, h⟩
    · rw [h]; simp [ha]
    · rw [h]; simp [ha, tmod_pos ha]; rfl
    · rw [h]; simp [ha, tmod_pos ha]; rfl
    · rw [h]; simp; intros; omega
  · rcases bytesM_cases s with ⟨rfl, h⟩ | ⟨rfl, h⟩ | ⟨rfl, h⟩ | ⟨h0, h⟩ <;> rw [h] <;> simp [ha]

theorem spec_beats (s : Int) : spec_BeatsOf.f s = some (beatsM s) := by
  unfold spec_BeatsOf.f; rw [spec_in]
  rcases beatsM_cases s with ⟨rfl, h⟩ | ⟨rfl, h⟩ | ⟨rfl, h⟩ | ⟨rfl, h⟩ | ⟨h0, h⟩
  · rfl
  · rfl
  · rfl
  · rfl
  · rw [h]; simp [h0]

theorem spec_next (k : Nat) (a s b : Int) : spec_NextAddr.f (k + 1) a s b = some (nextM a s b) := by
  unfold spec_NextAddr.f nextM; simp only [spec_aligned, spec_beats, spec_bytes, spec_in, Option.bind_some, spec_NextAddr.j0]
  by_cases h : alignedM a s = true
  · obtain ⟨h0, h1, h2, _⟩ := (alignedM_iff a s).1 h
    have hb := bytesM_pos h1 h2
    by_cases h3 : a < 512
    · have hw1 : wrap64 (a + bytesM s) = a + bytesM s := wrap64_id (by omega) (by omega)
      have hw2 : wrap64 (4 * bytesM s) = 4 * bytesM s := wrap64_id (by omega) (by omega)
      have hw3 : wrap64 (a + bytesM s - 4 * bytesM s) = a + bytesM s - 4 * bytesM s := wrap64_id (by omega) (by omega)
      have hn : ¬ 4 * bytesM s = 0 := by omega
      have hm : Int.tmod (a + bytesM s) (4 * bytesM s) = (a + bytesM s) % (4 * bytesM s) := tmod_pos (by omega)
      have h5 : decide (0 ≤ a ∧ a ≤ 511) = true := by simp; omega
      have h6 : ¬ a ≥ 512 := by omega
      by_cases h4 : beatsM b = 0
      · simp [h, h4, h5, h6]
      · by_cases h7 : b = 2
        · subst h7; simp only [h, h3, h4, h5, h6, hw1, hw2, hw3, hn, hm, if_true, if_false, beq_iff_eq, decide_true, decide_false, and_self, ne_eq, not_false_eq_true, true_and, Bool.false_eq_true, beq_eq_false_iff_ne]
          split <;> rfl
        · simp [h, h3, h4, h5, h6, h7, hw1]
    · have h5 : decide (0 ≤ a ∧ a ≤ 511) = false := by simp; omega
      have h6 : a ≥ 512 := by omega
      have h5' : ¬ (0 ≤ a ∧ a ≤ 511) := by omega
      simp [h, h3, h5', h6]
  · simp [h]

theorem impl_in (a b c : Int) : impl_within.f a b c = some (decide (b ≤ a ∧ a ≤ c)) := by
  unfold impl_within.f; by_cases h : b ≤ a
  · rw [if_pos h]; simp [h]
  · rw [if_neg h]; simp [h]

theorem impl_bytes (s : Int) : impl_BytesOf.f s = some (bytesM s) := by
  unfold impl_BytesOf.f; rw [impl_in]
  rcases bytesM_cases s with ⟨rfl, h⟩ | ⟨rfl, h⟩ | ⟨rfl, h⟩ | ⟨h0, h⟩
  · rfl
  · rfl
  · rfl
  · rw [h]; simp [h0]

theorem impl_aligned (a s : Int) : impl_Aligned.f a s = some (alignedM a s) := by
  unfold impl_Aligned.f alignedM; rw [impl_in, impl_bytes]
  by_cases ha : 0 ≤ a
  · rcases bytesM_cases s with ⟨rfl, h⟩ | ⟨rfl, h⟩ | ⟨rfl, h⟩ | ⟨h0, h⟩
    · rw [h]; simp [ha]
    · rw [h]; simp [ha, tmod_pos ha]; rfl
    · rw [h]; simp [ha, tmod_pos ha]; rfl
    · rw [h]; simp [h0]; intros; omega
  · rcases bytesM_cases s with ⟨rfl, h⟩ | ⟨rfl, h⟩ | ⟨rfl, h⟩ | ⟨h0, h⟩ <;> rw [h] <;> simp [ha]

theorem impl_beats (s : Int) : impl_BeatsOf.f s = some (beatsM s) := by
  unfold impl_BeatsOf.f; rw [impl_in]
  rcases beatsM_cases s with ⟨rfl, h⟩ | ⟨rfl, h⟩ | ⟨rfl, h⟩ | ⟨rfl, h⟩ | ⟨h0, h⟩
  · rfl
  · rfl
  · rfl
  · rfl
  · rw [h]; simp [h0]

theorem impl_next (k : Nat) (a s b : Int) : impl_NextAddr.f (k + 1) a s b = some (nextM a s b) := by
  unfold impl_NextAddr.f nextM; simp only [impl_aligned, impl_beats, impl_bytes, Option.bind_some, impl_NextAddr.j0]
  by_cases h : alignedM a s = true
  · obtain ⟨h0, h1, h2, _⟩ := (alignedM_iff a s).1 h
    have hb := bytesM_pos h1 h2
    by_cases h3 : a < 512
    · have hw1 : wrap64 (a + bytesM s) = a + bytesM s := wrap64_id (by omega) (by omega)
      have hw2 : wrap64 (4 * bytesM s) = 4 * bytesM s := wrap64_id (by omega) (by omega)
      have hw3 : wrap64 (a + bytesM s - 4 * bytesM s) = a + bytesM s - 4 * bytesM s := wrap64_id (by omega) (by omega)
      have hn : ¬ 4 * bytesM s = 0 := by omega
      have hm : Int.tmod (a + bytesM s) (4 * bytesM s) = (a + bytesM s) % (4 * bytesM s) := tmod_pos (by omega)
      have h5 : decide (0 ≤ a ∧ a ≤ 511) = true := by simp; omega
      have h6 : ¬ a ≥ 512 := by omega
      by_cases h4 : beatsM b = 0
      · simp [h, h4, h5, h6]
      · by_cases h7 : b = 2
        · subst h7; simp only [h, h3, h4, h5, h6, hw1, hw2, hw3, hn, hm, if_true, if_false, beq_iff_eq, decide_true, decide_false, and_self, ne_eq, not_false_eq_true, true_and, Bool.false_eq_true, beq_eq_false_iff_ne]
          split <;> rfl
        · simp [h, h3, h4, h5, h6, h7, hw1]
    · have h5 : decide (0 ≤ a ∧ a ≤ 511) = false := by simp; omega
      have h6 : a ≥ 512 := by omega
      have h5' : ¬ (0 ≤ a ∧ a ≤ 511) := by omega
      simp [h, h3, h5', h6]
  · simp [h]

theorem FnExactNextAddr : laws_FnExactNextAddr.Pure := by
  intro a s b _ _ _
  refine ⟨1, ?_⟩
  unfold laws_FnExactNextAddr.f; rw [spec_next 0, impl_next 0]; simp

end Go.Proofs.Ytcbpdhckmccjbaa.Pure
