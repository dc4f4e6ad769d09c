/- The program's Fixed answers as the reference's, for every two ints. -/
import Derived.Test.YtpkaggjbphafeaaPFnExactFixedx
namespace Go.Proofs.Ytpkaggjbphafeaa.Pure
open Go.RowKit Go.Proofs.Ytpkaggjbphafeaa.PFnExactFixed Go.Proofs.YtpkaggjbphafeaaW.PrintWords Go.Proofs.YtpkaggjbphafeaaW.PrintLast Go.Proofs.YtpkaggjbphafeaaW.PrintMore
set_option linter.unusedVariables false
set_option linter.unusedSimpArgs false

theorem spec_in (a b c : Int) : spec_l1In.f a b c = some (decide (b ≤ a ∧ a ≤ c)) := by
  unfold spec_l1In.f; by_cases h : b ≤ a
  · rw [if_pos h]; simp [h]
  · rw [if_neg h]; simp [h]

theorem impl_in (a b c : Int) : impl_within.f a b c = some (decide (b ≤ a ∧ a ≤ c)) := by
  unfold impl_within.f; by_cases h : b ≤ a
  · rw [if_pos h]; simp [h]
  · rw [if_neg h]; simp [h]

theorem wf_of {a : Int} (h : (Lit.int .i64 a).wf = true) : -9223372036854775808 ≤ a ∧ a ≤ 9223372036854775807 := by
  simp [Lit.wf, IntKind.min, IntKind.max, IntKind.signed, IntKind.bits] at h; omega
theorem pow_le_i (b i j : Nat) (h0 : 0 < b) (h : i ≤ j) : (b : Int) ^ i ≤ (b : Int) ^ j := by
  have h1 := Nat.pow_le_pow_right h0 h
  have h2 : ((b ^ i : Nat) : Int) ≤ ((b ^ j : Nat) : Int) := Int.ofNat_le.2 h1
  rwa [Int.natCast_pow, Int.natCast_pow] at h2
theorem wrap64_id {a : Int} (h0 : -9223372036854775808 ≤ a) (h1 : a ≤ 9223372036854775807) : wrap64 a = a := by unfold wrap64; omega

/-- The bytes of a number, the most significant first. -/
def beL : Nat → Int → List Int
  | 0, _ => []
  | w + 1, n => beL w (n / 256) ++ [n % 256]
theorem beL_length (w : Nat) : ∀ n, (beL w n).length = w := by induction w with
  | zero => intro n; rfl
  | succ w ih => intro n; simp [beL, ih]
theorem beL_head (w : Nat) : ∀ n : Int, beL (w + 1) n = ((n / 256 ^ w) % 256) :: beL w n := by
  induction w with
  | zero => intro n; simp [beL]
  | succ w ih =>
    intro n
    rw [show beL (w + 1 + 1) n = beL (w + 1) (n / 256) ++ [n % 256] from rfl, ih, show beL (w + 1) n = beL w (n / 256) ++ [n % 256] from rfl]
    have h : n / 256 / 256 ^ w = n / 256 ^ (w + 1) := by
      rw [Int.ediv_ediv_of_nonneg (by decide), Int.pow_succ, Int.mul_comm]
    rw [h]; simp
theorem str_append (xs ys : List Int) : strOfNums xs ++ strOfNums ys = strOfNums (xs ++ ys) := by
  unfold strOfNums
  apply ByteArray.ext
  simp
theorem room (acc : List Int) (n : Int) (h : acc.length ≤ 8) : (strOfNums [n % 256]).size + (strOfNums acc).size ≤ 9223372036854775807 := by
  rw [strOfNums_size, strOfNums_size]; simp only [List.length_cons, List.length_nil]; omega
theorem spec_loop (w : Nat) (hw : w ≤ 7) (d : Nat) : ∀ (k : Nat) (n : Int) (acc : List Int) (i : Nat), 0 ≤ n → n ≤ 9223372036854775807 → i + d = w → acc.length = i → d < k →
    spec_Fixed.l0 k n (w : Int) (strOfNums acc) i = some (if n / 256 ^ d > 0 then ⟨#[]⟩ else strOfNums (beL d n ++ acc)) := by
  induction d with
  | zero =>
    intro k n acc i h0 h1 hi hl hk
    obtain ⟨k, rfl⟩ : ∃ m, k = m + 1 := ⟨k - 1, by omega⟩
    have h : ¬ (i : Int) < (w : Int) := by omega
    simp only [spec_Fixed.l0]; rw [if_neg h]; simp [beL]; split <;> rfl
  | succ d ih =>
    intro k n acc i h0 h1 hi hl hk
    obtain ⟨k, rfl⟩ : ∃ m, k = m + 1 := ⟨k - 1, by omega⟩
    have h : (i : Int) < (w : Int) := by omega
    have hm : Int.tmod n 256 = n % 256 := Int.tmod_eq_emod_of_nonneg h0
    have hq : Int.tdiv n 256 = n / 256 := Int.tdiv_eq_ediv_of_nonneg h0
    have hw1 : wrap64 (n / 256) = n / 256 := wrap64_id (by omega) (by omega)
    have hi1 : wrap64 ((i : Int) + 1) = ((i + 1 : Nat) : Int) := by unfold wrap64; omega
    have hmm : n % 256 % 256 = n % 256 := by omega
    have hsz : (strOfNums [n % 256]).size + (strOfNums acc).size ≤ 9223372036854775807 := room acc n (by clear hmm hw1 hi1 hm hq h0 h1; omega)
    simp only [spec_Fixed.l0]; rw [if_pos h, hm, hq, hw1, hi1, hmm]; simp only [Option.bind_some]
    rw [if_pos hsz, str_append, ih k _ _ (i + 1) (by omega) (by omega) (by omega) (by simp; omega) (by omega)]
    have hdd : n / 256 / 256 ^ d = n / 256 ^ (d + 1) := by rw [Int.ediv_ediv_of_nonneg (by decide), Int.pow_succ, Int.mul_comm]
    rw [hdd]; simp [beL]
theorem impl_loop (d : Nat) : ∀ (k : Nat) (n : Int) (acc : List Int), 0 ≤ n → d ≤ 7 → acc.length + d ≤ 10 → d < k →
    impl_Fixed.l0 k n acc ((d : Int) - 1) = some (strOfNums (acc ++ beL d n)) := by
  induction d with
  | zero =>
    intro k n acc h0 hd hl hk
    obtain ⟨k, rfl⟩ : ∃ m, k = m + 1 := ⟨k - 1, by omega⟩
    simp only [impl_Fixed.l0]; simp [beL]
  | succ d ih =>
    intro k n acc h0 hd hl hk
    obtain ⟨k, rfl⟩ : ∃ m, k = m + 1 := ⟨k - 1, by omega⟩
    have e : ((d + 1 : Nat) : Int) - 1 = (d : Int) := by omega
    have h : (d : Int) ≥ 0 := by omega
    have hw8 : wrap64 (8 * (d : Int)) = 8 * (d : Int) := wrap64_id (by omega) (by omega)
    have h8 : 0 ≤ 8 * (d : Int) := by omega
    have hlt : acc.length < 140737488355328 := by omega
    have hs : shr .i64 n (8 * (d : Int)) = n / 256 ^ d := by
      unfold shr
      have : (8 * (d : Int)).toNat = 8 * d := by omega
      rw [this, Nat.min_eq_left (by simp [IntKind.bits]; omega), Int.pow_mul, show ((2 : Int) ^ 8) = 256 from by decide]
    have hi1 : wrap64 ((d : Int) - 1) = (d : Int) - 1 := wrap64_id (by omega) (by omega)
    rw [e]; simp only [impl_Fixed.l0]; rw [if_pos h, hw8, if_pos h8, if_pos hlt, hs, hi1, ih k _ _ h0 (by omega) (by simp; omega) (by omega), beL_head]
    simp
theorem FnExactFixed : laws_FnExactFixed.Pure := by
  intro n w hn _
  have hn := wf_of hn
  suffices key : ∀ k, 8 ≤ k → laws_FnExactFixed.f (k + 1) n w = some true from ⟨_, key 8 (by omega)⟩
  intro k hk
  unfold laws_FnExactFixed.f spec_Fixed.f impl_Fixed.f; rw [spec_in, impl_in, impl_in]; simp only [Option.bind_some]
  by_cases hw : 1 ≤ w ∧ w ≤ 7
  · obtain ⟨v, rfl⟩ := Int.eq_ofNat_of_zero_le (show 0 ≤ w by omega)
    have hw8 : wrap64 (8 * (v : Int)) = 8 * (v : Int) := wrap64_id (by omega) (by omega)
    have h8 : 0 ≤ 8 * (v : Int) := by omega
    have hp : (256 : Int) ^ v ≤ 256 ^ 7 := pow_le_i 256 v 7 (by decide) (by omega)
    have hp1 : (1 : Int) ≤ 256 ^ v := Int.pow_pos (by decide)
    have hp7 : (256 : Int) ^ 7 = 72057594037927936 := by decide
    have hsh : shl .i64 1 (8 * (v : Int)) = 256 ^ v := by
      unfold shl
      have : (8 * (v : Int)).toNat = 8 * v := by omega
      rw [this, Nat.min_eq_left (by simp [IntKind.bits]; omega), Int.pow_mul]
      have e : (1 : Int) * (2 ^ 8) ^ v = 256 ^ v := by rw [Int.one_mul, show ((2 : Int) ^ 8) = 256 from by decide]
      rw [e, IntKind.wrap_i64]; omega
    have hw2 : wrap64 ((256 : Int) ^ v - 1) = 256 ^ v - 1 := wrap64_id (by omega) (by omega)
    have hw3 : wrap64 ((v : Int) - 1) = (v : Int) - 1 := wrap64_id (by omega) (by omega)
    rw [decide_eq_true hw, hw8, if_pos h8, hsh, hw2]; simp only [if_true, Option.bind_some]
    by_cases h0 : n < 0
    · have h1 : ¬ (0 ≤ n ∧ n ≤ 256 ^ v - 1) := by omega
      rw [decide_eq_true h0, decide_eq_false h1]; simp [spec_Fixed.j0, impl_Fixed.j0]
    · rw [decide_eq_false h0]
      have hs := spec_loop v (by omega) v k n [] 0 (by omega) (by omega) (by omega) (by simp) (by omega)
      have hi := impl_loop v k n [] (by omega) (by omega) (by simp; omega) (by omega)
      have e0 : strOfNums [] = (⟨#[]⟩ : ByteArray) := rfl
      rw [e0, show ((0 : Nat) : Int) = 0 from rfl] at hs
      simp only [spec_Fixed.j0, Bool.false_eq_true, if_false]; rw [hs]; simp only [Option.bind_some]
      by_cases h1 : n ≤ 256 ^ v - 1
      · have hd : n / 256 ^ v = 0 := Int.ediv_eq_zero_of_lt (by omega) (by omega)
        rw [decide_eq_true (show 0 ≤ n ∧ n ≤ 256 ^ v - 1 by omega)]
        simp only [impl_Fixed.j0, Bool.not_true, Bool.false_eq_true, if_false, hw3]; rw [hi, hd]; simp
      · have hd : n / 256 ^ v > 0 := by
          have := Int.le_ediv_of_mul_le (c := (256 : Int) ^ v) (a := 1) (b := n) (by omega) (by omega)
          omega
        rw [decide_eq_false (show ¬ (0 ≤ n ∧ n ≤ 256 ^ v - 1) by omega), if_pos hd]
        simp [impl_Fixed.j0]
  · rw [decide_eq_false hw]; simp [spec_Fixed.j0, impl_Fixed.j0]

end Go.Proofs.Ytpkaggjbphafeaa.Pure
