/- The program's Var answers as the reference's, for every int. -/
import Derived.Test.YtpkaggjbphafeaaPFnExactVarx
namespace Go.Proofs.Ytpkaggjbphafeaa.Pure
open Go.RowKit Go.Proofs.Ytpkaggjbphafeaa.PFnExactVar Go.Proofs.YtpkaggjbphafeaaW.PrintWords Go.Proofs.YtpkaggjbphafeaaW.PrintLast Go.Proofs.YtpkaggjbphafeaaW.PrintMore
set_option linter.unusedVariables false
set_option linter.unusedSimpArgs false

theorem spec_in (a b c : Int) : spec_l1In.f a b c = some (decide (b ≤ a ∧ a ≤ c)) := by
  unfold spec_l1In.f; by_cases h : b ≤ a
  · rw [if_pos h]; simp [h]
  · rw [if_neg h]; simp [h]

theorem wf_of {a : Int} (h : (Lit.int .i64 a).wf = true) : -9223372036854775808 ≤ a ∧ a ≤ 9223372036854775807 := by
  simp [Lit.wf, IntKind.min, IntKind.max, IntKind.signed, IntKind.bits] at h; omega
theorem pow_le_i (b i j : Nat) (h0 : 0 < b) (h : i ≤ j) : (b : Int) ^ i ≤ (b : Int) ^ j := by
  have h1 := Nat.pow_le_pow_right h0 h
  have h2 : ((b ^ i : Nat) : Int) ≤ ((b ^ j : Nat) : Int) := Int.ofNat_le.2 h1
  rwa [Int.natCast_pow, Int.natCast_pow] at h2
theorem wrap64_id {a : Int} (h0 : -9223372036854775808 ≤ a) (h1 : a ≤ 9223372036854775807) : wrap64 a = a := by unfold wrap64; omega

theorem wraps_i64 (n : Int) (h₀ : 0 ≤ n) (h₁ : n < 2 ^ 63) : IntKind.i64.wrap n = n := by rw [IntKind.wrap_i64]; omega
theorem and_mask (i : Nat) (hi : i ≤ 63) (x : Int) (h₀ : 0 ≤ x) (h₁ : x ≤ 9223372036854775807) : Go.bits .and .i64 x (2 ^ i - 1) = x % 2 ^ i :=
  bits_mask .i64 63 (by decide) wraps_i64 i hi x h₀ (by omega)
theorem or_join (i : Nat) (x y : Int) (hx₀ : 0 ≤ x) (hx : x % 2 ^ i = 0) (hx₁ : x ≤ 9223372036854775807) (hy₀ : 0 ≤ y) (hy : y < 2 ^ i) (hy₁ : y ≤ 9223372036854775807) : Go.bits .or .i64 x y = x + y :=
  bits_join .i64 63 (by decide) wraps_i64 i x y hx₀ hx (by omega) hy₀ hy (by omega)
theorem i64wrap_id {a : Int} (h0 : -9223372036854775808 ≤ a) (h1 : a ≤ 9223372036854775807) : IntKind.i64.wrap a = a := by rw [IntKind.wrap_i64]; omega
theorem and255 {x : Int} (h₀ : 0 ≤ x) (h₁ : x ≤ 9223372036854775807) : Go.bits .and .i64 x 255 = x % 256 := and_mask 8 (by decide) x h₀ h₁
theorem and127 {x : Int} (h₀ : 0 ≤ x) (h₁ : x ≤ 9223372036854775807) : Go.bits .and .i64 x 127 = x % 128 := and_mask 7 (by decide) x h₀ h₁
theorem or_comm_i64 (x y : Int) : Go.bits .or .i64 x y = Go.bits .or .i64 y x := by
  simp only [Go.bits, BitVec.or_comm]

/-- The bytes of a varint. -/
def varL : Nat → Int → List Int
  | 0, n => [n]
  | d + 1, n => if n < 128 then [n] else (128 + n % 128) :: varL d (n / 128)
theorem spec_var_loop (d : Nat) : ∀ (k : Nat) (n : Int) (acc : List Int), 0 ≤ n → n < 128 ^ (d + 1) → d ≤ 8 → acc.length + d ≤ 100 → d < k →
    spec_Var.l0 k n acc = some (strOfNums (acc ++ varL d n)) := by
  induction d with
  | zero =>
    intro k n acc h0 h1 _ hl hk
    obtain ⟨k, rfl⟩ : ∃ m, k = m + 1 := ⟨k - 1, by omega⟩
    simp at h1
    have hn : ¬ n ≥ 128 := by omega
    have hlt : acc.length < 140737488355328 := by omega
    have hm : n % 256 = n := by omega
    simp only [spec_Var.l0]; rw [if_neg hn, if_pos hlt, hm]; rfl
  | succ d ih =>
    intro k n acc h0 h1 hd hl hk
    obtain ⟨k, rfl⟩ : ∃ m, k = m + 1 := ⟨k - 1, by omega⟩
    have hlt : acc.length < 140737488355328 := by omega
    by_cases hn : n ≥ 128
    · have hp : (128 : Int) ^ (d + 1 + 1) = 128 ^ (d + 1) * 128 := Int.pow_succ ..
      have hp9 : (128 : Int) ^ (d + 1) ≤ 128 ^ 8 := pow_le_i 128 (d + 1) 8 (by decide) (by omega)
      have hp9' : (128 : Int) ^ 8 = 72057594037927936 := by decide
      have hm : Int.tmod n 128 = n % 128 := Int.tmod_eq_emod_of_nonneg h0
      have hq : Int.tdiv n 128 = n / 128 := Int.tdiv_eq_ediv_of_nonneg h0
      have hw1 : wrap64 (n / 128) = n / 128 := wrap64_id (by omega) (by omega)
      have hw2 : wrap64 (128 + n % 128) = 128 + n % 128 := wrap64_id (by omega) (by omega)
      have hw3 : (128 + n % 128) % 256 = 128 + n % 128 := by omega
      simp only [spec_Var.l0]; rw [if_pos hn, if_pos hlt, hm, hq, hw1, hw2, hw3, ih k _ _ (by omega) (by omega) (by omega) (by simp; omega) (by omega)]
      have hn' : ¬ n < 128 := by omega
      simp only [varL]; rw [if_neg hn']; simp
    · have hm : n % 256 = n := by omega
      have hn' : n < 128 := by omega
      simp only [spec_Var.l0]; rw [if_neg hn, if_pos hlt, hm]
      simp only [varL]; rw [if_pos hn']
theorem spec_var (k : Nat) (n : Int) : spec_Var.f (k + 7) n = some (if 0 ≤ n ∧ n ≤ 562949953421311 then strOfNums (varL 6 n) else ⟨#[]⟩) := by
  unfold spec_Var.f; rw [spec_in]; simp only [Option.bind_some]
  by_cases h : 0 ≤ n ∧ n ≤ 562949953421311
  · have hp : (128 : Int) ^ (6 + 1) = 562949953421312 := by decide
    rw [decide_eq_true h, if_pos h]; simp only [if_true]
    rw [spec_var_loop 6 _ n [] h.1 (by rw [hp]; omega) (by omega) (by simp) (by omega)]; simp
  · rw [decide_eq_false h, if_neg h]; simp

theorem impl_in (a b c : Int) : impl_within.f a b c = some (decide (b ≤ a ∧ a ≤ c)) := by
  unfold impl_within.f; by_cases h : b ≤ a
  · rw [if_pos h]; simp [h]
  · rw [if_neg h]; simp [h]

theorem impl_var_loop (d : Nat) : ∀ (k : Nat) (n : Int) (acc : List Int), 0 ≤ n → n < 128 ^ (d + 1) → d ≤ 8 → acc.length + d ≤ 100 → d < k →
    impl_Var.l0 k n acc = some (strOfNums (acc ++ varL d n)) := by
  induction d with
  | zero =>
    intro k n acc h0 h1 _ hl hk
    obtain ⟨k, rfl⟩ : ∃ m, k = m + 1 := ⟨k - 1, by omega⟩
    simp at h1
    have hn : ¬ n > 127 := by omega
    have hlt : acc.length < 140737488355328 := by omega
    have hm : n % 256 = n := by omega
    simp only [impl_Var.l0]; rw [if_neg hn, if_pos hlt, hm]; rfl
  | succ d ih =>
    intro k n acc h0 h1 hd hl hk
    obtain ⟨k, rfl⟩ : ∃ m, k = m + 1 := ⟨k - 1, by omega⟩
    have hlt : acc.length < 140737488355328 := by omega
    by_cases hn : n > 127
    · have hp : (128 : Int) ^ (d + 1 + 1) = 128 ^ (d + 1) * 128 := Int.pow_succ ..
      have hp9 : (128 : Int) ^ (d + 1) ≤ 128 ^ 8 := pow_le_i 128 (d + 1) 8 (by decide) (by omega)
      have hp9' : (128 : Int) ^ 8 = 72057594037927936 := by decide
      have ha : Go.bits .and .i64 n 127 = n % 128 := and127 h0 (by omega)
      have ho : Go.bits .or .i64 (n % 128) 128 = 128 + n % 128 := by rw [or_comm_i64]; exact or_join 7 _ _ (by omega) (by omega) (by omega) (by omega) (by omega) (by omega)
      have hw3 : (128 + n % 128) % 256 = 128 + n % 128 := by omega
      simp only [impl_Var.l0]; rw [if_pos hn, if_pos hlt, ha, ho, hw3, ih k _ _ (by omega) (by omega) (by omega) (by simp; omega) (by omega)]
      have hn' : ¬ n < 128 := by omega
      simp only [varL]; rw [if_neg hn']; simp
    · have hm : n % 256 = n := by omega
      have hn' : n < 128 := by omega
      simp only [impl_Var.l0]; rw [if_neg hn, if_pos hlt, hm]
      simp only [varL]; rw [if_pos hn']
theorem impl_var (k : Nat) (n : Int) : impl_Var.f (k + 7) n = some (if 0 ≤ n ∧ n ≤ 562949953421311 then strOfNums (varL 6 n) else ⟨#[]⟩) := by
  unfold impl_Var.f; rw [impl_in]; simp only [Option.bind_some]
  by_cases h : 0 ≤ n ∧ n ≤ 562949953421311
  · have hp : (128 : Int) ^ (6 + 1) = 562949953421312 := by decide
    rw [decide_eq_true h, if_pos h]; simp only [if_true]
    rw [impl_var_loop 6 _ n [] h.1 (by rw [hp]; omega) (by omega) (by simp) (by omega)]; simp
  · rw [decide_eq_false h, if_neg h]; simp

theorem FnExactVar : laws_FnExactVar.Pure := by
  intro n _
  refine ⟨7, ?_⟩
  unfold laws_FnExactVar.f; rw [spec_var 0, impl_var 0]; simp

end Go.Proofs.Ytpkaggjbphafeaa.Pure
