/- The program's ReadFixed answers as the reference's, for every string and int. -/
import Derived.Test.YtpkaggjbphafeaaPFnExactReadFixedx
namespace Go.Proofs.Ytpkaggjbphafeaa.Pure
open Go.RowKit Go.Proofs.Ytpkaggjbphafeaa.PFnExactReadFixed Go.Proofs.YtpkaggjbphafeaaW.PrintWords Go.Proofs.YtpkaggjbphafeaaW.PrintLast Go.Proofs.YtpkaggjbphafeaaW.PrintMore
set_option linter.unusedVariables false
set_option linter.unusedSimpArgs false

theorem spec_in (a b c : Int) : spec_l1In.f a b c = some (decide (b ≤ a ∧ a ≤ c)) := by
  unfold spec_l1In.f; by_cases h : b ≤ a
  · rw [if_pos h]; simp [h]
  · rw [if_neg h]; simp [h]

theorem impl_in (a b c : Int) : impl_within.f a b c = some (decide (b ≤ a ∧ a ≤ c)) := by
  unfold impl_within.f; by_cases h : b ≤ a
  · rw [if_pos h]; simp [h]
  · rw [if_neg h]; simp [h]

theorem wf_of {a : Int} (h : (Lit.int .i64 a).wf = true) : -9223372036854775808 ≤ a ∧ a ≤ 9223372036854775807 := by
  simp [Lit.wf, IntKind.min, IntKind.max, IntKind.signed, IntKind.bits] at h; omega
theorem pow_le_i (b i j : Nat) (h0 : 0 < b) (h : i ≤ j) : (b : Int) ^ i ≤ (b : Int) ^ j := by
  have h1 := Nat.pow_le_pow_right h0 h
  have h2 : ((b ^ i : Nat) : Int) ≤ ((b ^ j : Nat) : Int) := Int.ofNat_le.2 h1
  rwa [Int.natCast_pow, Int.natCast_pow] at h2
theorem wrap64_id {a : Int} (h0 : -9223372036854775808 ≤ a) (h1 : a ≤ 9223372036854775807) : wrap64 a = a := by unfold wrap64; omega

theorem wraps_i64 (n : Int) (h₀ : 0 ≤ n) (h₁ : n < 2 ^ 63) : IntKind.i64.wrap n = n := by rw [IntKind.wrap_i64]; omega
theorem and_mask (i : Nat) (hi : i ≤ 63) (x : Int) (h₀ : 0 ≤ x) (h₁ : x ≤ 9223372036854775807) : Go.bits .and .i64 x (2 ^ i - 1) = x % 2 ^ i :=
  bits_mask .i64 63 (by decide) wraps_i64 i hi x h₀ (by omega)
theorem or_join (i : Nat) (x y : Int) (hx₀ : 0 ≤ x) (hx : x % 2 ^ i = 0) (hx₁ : x ≤ 9223372036854775807) (hy₀ : 0 ≤ y) (hy : y < 2 ^ i) (hy₁ : y ≤ 9223372036854775807) : Go.bits .or .i64 x y = x + y :=
  bits_join .i64 63 (by decide) wraps_i64 i x y hx₀ hx (by omega) hy₀ hy (by omega)
theorem i64wrap_id {a : Int} (h0 : -9223372036854775808 ≤ a) (h1 : a ≤ 9223372036854775807) : IntKind.i64.wrap a = a := by rw [IntKind.wrap_i64]; omega
theorem and255 {x : Int} (h₀ : 0 ≤ x) (h₁ : x ≤ 9223372036854775807) : Go.bits .and .i64 x 255 = x % 256 := and_mask 8 (by decide) x h₀ h₁
theorem and127 {x : Int} (h₀ : 0 ≤ x) (h₁ : x ≤ 9223372036854775807) : Go.bits .and .i64 x 127 = x % 128 := and_mask 7 (by decide) x h₀ h₁
theorem or_comm_i64 (x y : Int) : Go.bits .or .i64 x y = Go.bits .or .i64 y x := by
  simp only [Go.bits, BitVec.or_comm]

theorem rf_both (s : ByteArray) (w : Nat) (hw7 : w ≤ 7) (hs : w ≤ s.size) (d : Nat) : ∀ (k : Nat) (n : Int) (i : Nat), i + d = w → 0 ≤ n → n < 256 ^ i → d < k →
    ∃ r, spec_ReadFixed.l0 k s (w : Int) n i = some r ∧ impl_ReadFixed.l0 k s n (w : Int) i = some r := by
  induction d with
  | zero =>
    intro k n i hi h0 hl hk
    obtain ⟨k, rfl⟩ : ∃ m, k = m + 1 := ⟨k - 1, by omega⟩
    have h : ¬ (i : Int) < (w : Int) := by omega
    exact ⟨_, by simp only [spec_ReadFixed.l0]; rw [if_neg h], by simp only [impl_ReadFixed.l0]; rw [if_neg h]⟩
  | succ d ih =>
    intro k n i hi h0 hl hk
    obtain ⟨k, rfl⟩ : ∃ m, k = m + 1 := ⟨k - 1, by omega⟩
    have h : (i : Int) < (w : Int) := by omega
    have hz : (0 : Int) ≤ (i : Int) := by omega
    have hsz : (i : Int) < (s.size : Int) := by omega
    have hb := bt_range s i
    have hp : (256 : Int) ^ i ≤ 256 ^ 6 := pow_le_i 256 i 6 (by decide) (by omega)
    have hp6 : (256 : Int) ^ 6 = 281474976710656 := by decide
    have hw1 : wrap64 (bt s i) = bt s i := wrap64_id (by omega) (by omega)
    have hw2 : wrap64 (n * 256) = n * 256 := wrap64_id (by omega) (by omega)
    have hw3 : wrap64 (n * 256 + bt s i) = n * 256 + bt s i := wrap64_id (by omega) (by omega)
    have hi1 : wrap64 ((i : Int) + 1) = ((i + 1 : Nat) : Int) := by unfold wrap64; omega
    have ho : Go.bits .or .i64 (n * 256) (bt s i) = n * 256 + bt s i := or_join 8 _ _ (by omega) (by omega) (by omega) (by omega) (by omega) (by omega)
    obtain ⟨r, h1, h2⟩ := ih k (n * 256 + bt s i) (i + 1) (by omega) (by omega) (by rw [Int.pow_succ]; omega) (by omega)
    refine ⟨r, ?_, ?_⟩
    · simp only [spec_ReadFixed.l0]
      rw [if_pos h, if_pos hz, if_pos hsz, hw1, hw2, hw3, hi1]; exact h1
    · simp only [impl_ReadFixed.l0]
      rw [if_pos h, if_pos hz, if_pos hsz, hw1, hw2, ho, hi1]; exact h2
theorem FnExactReadFixed : laws_FnExactReadFixed.Pure := by
  intro s w _ _
  suffices key : ∀ k, 8 ≤ k → laws_FnExactReadFixed.f (k + 1) s w = some true from ⟨_, key 8 (by omega)⟩
  intro k hk
  unfold laws_FnExactReadFixed.f
  by_cases h : (s.size : Int) > 1048576
  · rw [if_pos h]
  · rw [if_neg h]; unfold spec_ReadFixed.f impl_ReadFixed.f; rw [spec_in, impl_in]; simp only [Option.bind_some]
    by_cases hw : 1 ≤ w ∧ w ≤ 7
    · rw [decide_eq_true hw]; simp only [if_true]
      by_cases hs : (s.size : Int) < w
      · rw [decide_eq_true hs]; simp only [spec_ReadFixed.j0, impl_ReadFixed.j0, if_true, Option.bind_some]; simp
      · rw [decide_eq_false hs]
        obtain ⟨v, rfl⟩ := Int.eq_ofNat_of_zero_le (show 0 ≤ w by omega)
        obtain ⟨r, h1, h2⟩ := rf_both s v (by omega) (by omega) v k 0 0 (by omega) (by omega) (by simp) (by omega)
        rw [show ((0 : Nat) : Int) = 0 from rfl] at h1 h2
        simp only [spec_ReadFixed.j0, impl_ReadFixed.j0, Bool.false_eq_true, if_false]
        rw [h1, h2]; simp
    · rw [decide_eq_false hw]; simp only [Bool.false_eq_true, if_false, spec_ReadFixed.j0, impl_ReadFixed.j0, if_true, Option.bind_some]; simp

end Go.Proofs.Ytpkaggjbphafeaa.Pure
