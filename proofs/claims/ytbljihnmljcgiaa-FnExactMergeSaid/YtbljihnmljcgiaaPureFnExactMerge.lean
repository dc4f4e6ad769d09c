/- The program's Merge answers as the reference's, for every four ints. -/
import Derived.Test.YtbljihnmljcgiaaMFnExactMergex
namespace Go.Proofs.Ytbljihnmljcgiaa.Pure
open Go.RowKit Go.Proofs.Ytbljihnmljcgiaa.MFnExactMerge Go.Proofs.YtbljihnmljcgiaaW.PrintWords Go.Proofs.YtbljihnmljcgiaaW.PrintLast Go.Proofs.YtbljihnmljcgiaaW.PrintMore
set_option linter.unusedVariables false
set_option linter.unusedSimpArgs false

/-- How many bytes a size has. -/
def bytesM (s : Int) : Int := if s = 0 then 1 else if s = 1 then 2 else if s = 2 then 4 else 0
theorem bytesM_cases (s : Int) : (s = 0 ∧ bytesM s = 1) ∨ (s = 1 ∧ bytesM s = 2) ∨ (s = 2 ∧ bytesM s = 4) ∨ (¬ (0 ≤ s ∧ s ≤ 2) ∧ bytesM s = 0) := by
  unfold bytesM; split
  · left; omega
  · split
    · right; left; omega
    · split
      · right; right; left; omega
      · right; right; right; omega
theorem shl_1_0 : shl .i64 1 0 = 1 := by decide
theorem shl_1_1 : shl .i64 1 1 = 2 := by decide
theorem shl_1_2 : shl .i64 1 2 = 4 := by decide

/-- An address fits a size. -/
def alignedM (a s : Int) : Bool := decide (0 ≤ a ∧ 0 ≤ s ∧ s ≤ 2 ∧ a % bytesM s = 0)
theorem tmod_pos {a b : Int} (h : 0 ≤ a) : Int.tmod a b = a % b := Int.tmod_eq_emod_of_nonneg h

/-- How many numbers a size has. -/
def limitM (s : Int) : Int := if s = 0 then 256 else if s = 1 then 65536 else if s = 2 then 4294967296 else 0
theorem limitM_cases (s : Int) : (s = 0 ∧ bytesM s = 1 ∧ limitM s = 256) ∨ (s = 1 ∧ bytesM s = 2 ∧ limitM s = 65536) ∨ (s = 2 ∧ bytesM s = 4 ∧ limitM s = 4294967296) ∨ (¬ (0 ≤ s ∧ s ≤ 2) ∧ bytesM s = 0 ∧ limitM s = 0) := by
  unfold limitM bytesM; split
  · left; omega
  · split
    · right; left; omega
    · split
      · right; right; left; omega
      · right; right; right; omega
theorem shl_1_8 : shl .i64 1 8 = 256 := by decide
theorem shl_1_16 : shl .i64 1 16 = 65536 := by decide
theorem shl_1_32 : shl .i64 1 32 = 4294967296 := by decide
theorem wrap64_8_1 : wrap64 8 = 8 := by unfold wrap64; omega
theorem wrap64_8_2 : wrap64 16 = 16 := by unfold wrap64; omega
theorem wrap64_8_4 : wrap64 32 = 32 := by unfold wrap64; omega

/-- A number with another one stored in the used lanes. -/
def mergeM (old v a s : Int) : Int :=
  if alignedM a s = true ∧ 0 ≤ old ∧ old < 4294967296 ∧ 0 ≤ v ∧ v < limitM s then old - (old / 256 ^ (a % 4).toNat % limitM s) * 256 ^ (a % 4).toNat + v * 256 ^ (a % 4).toNat else old
theorem lanes (a s : Int) (h : alignedM a s = true) : a % 4 = 0 ∧ s = 0 ∨ a % 4 = 1 ∧ s = 0 ∨ a % 4 = 2 ∧ s = 0 ∨ a % 4 = 3 ∧ s = 0 ∨ a % 4 = 0 ∧ s = 1 ∨ a % 4 = 2 ∧ s = 1 ∨ a % 4 = 0 ∧ s = 2 := by
  simp [alignedM] at h
  obtain ⟨h0, _, _, h1⟩ := h
  rcases bytesM_cases s with ⟨rfl, h⟩ | ⟨rfl, h⟩ | ⟨rfl, h⟩ | ⟨h', h⟩ <;> rw [h] at h1 <;> omega
theorem limit0 : limitM 0 = 256 := rfl
theorem limit1 : limitM 1 = 65536 := rfl
theorem limit2 : limitM 2 = 4294967296 := rfl
theorem shl_at (x n : Int) (h0 : 0 ≤ n) (h1 : n ≤ 24) : shl .i64 x n = wrap64 (x * 2 ^ n.toNat) := by
  unfold shl; rw [Nat.min_eq_left (by simp [IntKind.bits]; omega), i64_w]
theorem shr_at (x n : Int) (h0 : 0 ≤ n) (h1 : n ≤ 24) : shr .i64 x n = x / 2 ^ n.toNat := by
  unfold shr; rw [Nat.min_eq_left (by simp [IntKind.bits]; omega)]

theorem spec_in (a b c : Int) : spec_l1In.f a b c = some (decide (b ≤ a ∧ a ≤ c)) := by
  unfold spec_l1In.f; by_cases h : b ≤ a
  · rw [if_pos h]; simp [h]
  · rw [if_neg h]; simp [h]

theorem spec_bytes (s : Int) : spec_BytesOf.f s = some (bytesM s) := by
  unfold spec_BytesOf.f; rw [spec_in]
  rcases bytesM_cases s with ⟨rfl, h⟩ | ⟨rfl, h⟩ | ⟨rfl, h⟩ | ⟨h0, h⟩
  · rfl
  · rfl
  · rfl
  · rw [h]; simp [h0]

theorem spec_aligned (a s : Int) : spec_Aligned.f a s = some (alignedM a s) := by
  unfold spec_Aligned.f alignedM; rw [spec_bytes]
  by_cases ha : 0 ≤ a
  · rcases bytesM_cases s with ⟨rfl, h⟩ | ⟨rfl, h⟩ | ⟨rfl, h⟩ | ⟨h0, h⟩
    · rw [h]; simp [ha]
    · rw [h]; simp [ha, tmod_pos ha]; rfl
    · rw [h]; simp [ha, tmod_pos ha]; rfl
    · rw [h]; simp; intros; omega
  · rcases bytesM_cases s with ⟨rfl, h⟩ | ⟨rfl, h⟩ | ⟨rfl, h⟩ | ⟨h0, h⟩ <;> rw [h] <;> simp [ha]

theorem spec_limit (s : Int) : spec_LimitOf.f s = some (limitM s) := by
  unfold spec_LimitOf.f; rw [spec_bytes]
  rcases limitM_cases s with ⟨rfl, h, k⟩ | ⟨rfl, h, k⟩ | ⟨rfl, h, k⟩ | ⟨h0, h, k⟩
  · rw [h, k]; simp [wrap64_8_1, shl_1_8]
  · rw [h, k]; simp [wrap64_8_2, shl_1_16]
  · rw [h, k]; simp [wrap64_8_4, shl_1_32]
  · rw [h, k]; rfl

theorem wf_of {a : Int} (h : (Lit.int .i64 a).wf = true) : -9223372036854775808 ≤ a ∧ a ≤ 9223372036854775807 := by
  simp [Lit.wf, IntKind.min, IntKind.max, IntKind.signed, IntKind.bits] at h; omega
theorem pow_le_i (b i j : Nat) (h0 : 0 < b) (h : i ≤ j) : (b : Int) ^ i ≤ (b : Int) ^ j := by
  have h1 := Nat.pow_le_pow_right h0 h
  have h2 : ((b ^ i : Nat) : Int) ≤ ((b ^ j : Nat) : Int) := Int.ofNat_le.2 h1
  rwa [Int.natCast_pow, Int.natCast_pow] at h2
theorem wrap64_id {a : Int} (h0 : -9223372036854775808 ≤ a) (h1 : a ≤ 9223372036854775807) : wrap64 a = a := by unfold wrap64; omega

theorem spec_merge_at (old v L : Int) (q : Nat) (hq : q = 0 ∨ q = 8 ∨ q = 16 ∨ q = 24) (hL : L = 256 ∨ L = 65536 ∨ L = 4294967296) (ho : 0 ≤ old ∧ old < 4294967296) (hv : 0 ≤ v ∧ v < 4294967296) :
    wrap64 (wrap64 (old - shl .i64 (Int.tmod (shr .i64 old (q : Int)) L) (q : Int)) + shl .i64 v (q : Int)) = old - (old / 2 ^ q % L) * 2 ^ q + v * 2 ^ q := by
  have e1 : shr .i64 old (q : Int) = old / 2 ^ q := by rw [shr_at _ _ (by omega) (by omega), Int.toNat_natCast]
  have hnn : 0 ≤ old / 2 ^ q := Int.ediv_nonneg ho.1 (Int.le_of_lt (Int.pow_pos (by decide)))
  rw [e1, shl_at _ _ (by omega) (by omega), shl_at _ _ (by omega) (by omega), Int.toNat_natCast, Int.tmod_eq_emod_of_nonneg hnn]
  rcases hq with rfl | rfl | rfl | rfl <;> rcases hL with rfl | rfl | rfl <;> simp only [Int.pow_zero, show (2 : Int) ^ 8 = 256 from by decide, show (2 : Int) ^ 16 = 65536 from by decide, show (2 : Int) ^ 24 = 16777216 from by decide] <;> (unfold wrap64; omega)
theorem spec_merge (old v a s : Int) : spec_Merge.f old v a s = some (mergeM old v a s) := by
  have hw1 : wrap64 (4294967296 - 1) = 4294967295 := by unfold wrap64; omega
  unfold spec_Merge.f mergeM; simp only [spec_aligned, spec_limit, spec_in, Option.bind_some, limit2, hw1]
  by_cases h : alignedM a s = true
  · rw [if_pos h]
    have ha : 0 ≤ a := by simp [alignedM] at h; omega
    by_cases h1 : 0 ≤ old ∧ old ≤ 4294967295
    · rw [decide_eq_true h1]; simp only [if_true]
      have hL : limitM s = 256 ∨ limitM s = 65536 ∨ limitM s = 4294967296 := by
        rcases lanes a s h with ⟨_, rfl⟩ | ⟨_, rfl⟩ | ⟨_, rfl⟩ | ⟨_, rfl⟩ | ⟨_, rfl⟩ | ⟨_, rfl⟩ | ⟨_, rfl⟩ <;> simp [limit0, limit1, limit2]
      have hw2 : wrap64 (limitM s - 1) = limitM s - 1 := wrap64_id (by omega) (by omega)
      rw [hw2]
      by_cases h2 : 0 ≤ v ∧ v ≤ limitM s - 1
      · rw [decide_eq_true h2]; simp only [if_true]
        have hm : Int.tmod a 4 = a % 4 := tmod_pos ha
        have hw3 : wrap64 (8 * (a % 4)) = ((8 * (a % 4).toNat : Nat) : Int) := by unfold wrap64; omega
        have hq : (8 * (a % 4).toNat) = 0 ∨ (8 * (a % 4).toNat) = 8 ∨ (8 * (a % 4).toNat) = 16 ∨ (8 * (a % 4).toNat) = 24 := by omega
        have hne : ¬ limitM s = 0 := by omega
        rw [hm, hw3, if_pos (Int.natCast_nonneg _), if_neg hne, if_pos ⟨h, h1.1, by omega, h2.1, by omega⟩, spec_merge_at _ _ _ _ hq hL (by omega) (by omega), Int.pow_mul, show (2 : Int) ^ 8 = 256 from by decide]
      · rw [decide_eq_false h2, if_neg (show ¬ (alignedM a s = true ∧ 0 ≤ old ∧ old < 4294967296 ∧ 0 ≤ v ∧ v < limitM s) from fun hh => h2 ⟨hh.2.2.2.1, by have := hh.2.2.2.2; omega⟩)]; simp only [Bool.false_eq_true, if_false]
    · rw [decide_eq_false h1, if_neg (show ¬ (alignedM a s = true ∧ 0 ≤ old ∧ old < 4294967296 ∧ 0 ≤ v ∧ v < limitM s) from fun hh => h1 ⟨hh.2.1, by have := hh.2.2.1; omega⟩)]; simp only [Bool.false_eq_true, if_false]
  · rw [if_neg h, if_neg (by simp [h])]

theorem impl_in (a b c : Int) : impl_within.f a b c = some (decide (b ≤ a ∧ a ≤ c)) := by
  unfold impl_within.f; by_cases h : b ≤ a
  · rw [if_pos h]; simp [h]
  · rw [if_neg h]; simp [h]

theorem impl_bytes (s : Int) : impl_BytesOf.f s = some (bytesM s) := by
  unfold impl_BytesOf.f; rw [impl_in]
  rcases bytesM_cases s with ⟨rfl, h⟩ | ⟨rfl, h⟩ | ⟨rfl, h⟩ | ⟨h0, h⟩
  · rfl
  · rfl
  · rfl
  · rw [h]; simp [h0]

theorem impl_aligned (a s : Int) : impl_Aligned.f a s = some (alignedM a s) := by
  unfold impl_Aligned.f alignedM; rw [impl_in, impl_bytes]
  by_cases ha : 0 ≤ a
  · rcases bytesM_cases s with ⟨rfl, h⟩ | ⟨rfl, h⟩ | ⟨rfl, h⟩ | ⟨h0, h⟩
    · rw [h]; simp [ha]
    · rw [h]; simp [ha, tmod_pos ha]; rfl
    · rw [h]; simp [ha, tmod_pos ha]; rfl
    · rw [h]; simp [h0]; intros; omega
  · rcases bytesM_cases s with ⟨rfl, h⟩ | ⟨rfl, h⟩ | ⟨rfl, h⟩ | ⟨h0, h⟩ <;> rw [h] <;> simp [ha]

theorem impl_limit (s : Int) : impl_LimitOf.f s = some (limitM s) := by
  unfold impl_LimitOf.f; rw [impl_bytes]
  rcases limitM_cases s with ⟨rfl, h, k⟩ | ⟨rfl, h, k⟩ | ⟨rfl, h, k⟩ | ⟨h0, h, k⟩
  · rw [h, k]; simp [wrap64_8_1, shl_1_8]
  · rw [h, k]; simp [wrap64_8_2, shl_1_16]
  · rw [h, k]; simp [wrap64_8_4, shl_1_32]
  · rw [h, k]; rfl

theorem wraps_i64 (n : Int) (h₀ : 0 ≤ n) (h₁ : n < 2 ^ 63) : IntKind.i64.wrap n = n := by rw [IntKind.wrap_i64]; omega
theorem and_mask (i : Nat) (hi : i ≤ 63) (x : Int) (h₀ : 0 ≤ x) (h₁ : x ≤ 9223372036854775807) : Go.bits .and .i64 x (2 ^ i - 1) = x % 2 ^ i :=
  bits_mask .i64 63 (by decide) wraps_i64 i hi x h₀ (by omega)
theorem or_join (i : Nat) (x y : Int) (hx₀ : 0 ≤ x) (hx : x % 2 ^ i = 0) (hx₁ : x ≤ 9223372036854775807) (hy₀ : 0 ≤ y) (hy : y < 2 ^ i) (hy₁ : y ≤ 9223372036854775807) : Go.bits .or .i64 x y = x + y :=
  bits_join .i64 63 (by decide) wraps_i64 i x y hx₀ hx (by omega) hy₀ hy (by omega)
theorem i64wrap_id {a : Int} (h0 : -9223372036854775808 ≤ a) (h1 : a ≤ 9223372036854775807) : IntKind.i64.wrap a = a := by rw [IntKind.wrap_i64]; omega
theorem and255 {x : Int} (h₀ : 0 ≤ x) (h₁ : x ≤ 9223372036854775807) : Go.bits .and .i64 x 255 = x % 256 := and_mask 8 (by decide) x h₀ h₁
theorem and127 {x : Int} (h₀ : 0 ≤ x) (h₁ : x ≤ 9223372036854775807) : Go.bits .and .i64 x 127 = x % 128 := and_mask 7 (by decide) x h₀ h₁
theorem or_comm_i64 (x y : Int) : Go.bits .or .i64 x y = Go.bits .or .i64 y x := by
  simp only [Go.bits, BitVec.or_comm]

theorem nat_mask (x p q : Nat) : x &&& ((2 ^ p - 1) * 2 ^ q) = ((x / 2 ^ q) % 2 ^ p) * 2 ^ q := by
  apply Nat.eq_of_testBit_eq
  intro i
  rw [← Nat.shiftLeft_eq, ← Nat.shiftLeft_eq, ← Nat.shiftRight_eq_div_pow]
  simp only [Nat.testBit_and, Nat.testBit_shiftLeft, Nat.testBit_two_pow_sub_one, Nat.testBit_mod_two_pow, Nat.testBit_shiftRight]
  by_cases h : q ≤ i
  · rw [show q + (i - q) = i by omega]
    cases x.testBit i <;> simp [h]
  · simp [h]
theorem andNot_mask (x p q : Nat) (hx : x < 2 ^ 63) (hpq : p + q ≤ 63) : Go.bits .andNot .i64 (x : Int) (((2 ^ p - 1) * 2 ^ q : Nat) : Int) = ((x - ((x / 2 ^ q) % 2 ^ p) * 2 ^ q : Nat) : Int) := by
  have hm : (2 ^ p - 1) * 2 ^ q < 2 ^ 64 := by
    have h1 : 2 ^ p * 2 ^ q ≤ 2 ^ 63 := by rw [← Nat.pow_add]; exact Nat.pow_le_pow_right (by decide) hpq
    have h2 : (2 ^ p - 1) * 2 ^ q ≤ 2 ^ p * 2 ^ q := Nat.mul_le_mul_right _ (Nat.sub_le _ _)
    exact Nat.lt_of_le_of_lt (Nat.le_trans h2 h1) (by decide)
  have hle : ((x / 2 ^ q) % 2 ^ p) * 2 ^ q ≤ x := by
    have h1 : (x / 2 ^ q) % 2 ^ p ≤ x / 2 ^ q := Nat.mod_le _ _
    exact Nat.le_trans (Nat.mul_le_mul_right _ h1) (Nat.div_mul_le_self _ _)
  have e : ((BitVec.ofInt 64 (x : Int)) &&& ~~~(BitVec.ofInt 64 (((2 ^ p - 1) * 2 ^ q : Nat) : Int))).toNat = x - ((x / 2 ^ q) % 2 ^ p) * 2 ^ q := by
    rw [BitVec.ofInt_natCast, BitVec.ofInt_natCast]
    generalize ha : BitVec.ofNat 64 x = a
    generalize hb : BitVec.ofNat 64 ((2 ^ p - 1) * 2 ^ q) = b
    have hat : a.toNat = x := by rw [← ha, BitVec.toNat_ofNat]; omega
    have hbt : b.toNat = (2 ^ p - 1) * 2 ^ q := by rw [← hb, BitVec.toNat_ofNat]; omega
    have hd : (a &&& b) &&& (a &&& ~~~b) = 0#64 := by
      ext i hi
      simp only [BitVec.getElem_and, BitVec.getElem_not, BitVec.getElem_zero]
      cases a[i] <;> cases b[i] <;> rfl
    have ho : (a &&& b) ||| (a &&& ~~~b) = a := by
      ext i hi
      simp only [BitVec.getElem_and, BitVec.getElem_not, BitVec.getElem_or]
      cases a[i] <;> cases b[i] <;> rfl
    have hs := BitVec.add_eq_or_of_and_eq_zero _ _ hd
    rw [ho] at hs
    have ht := congrArg BitVec.toNat hs
    rw [BitVec.toNat_add, BitVec.toNat_and, hat, hbt, nat_mask] at ht
    have hlt := (a &&& ~~~b).isLt
    omega
  unfold Go.bits
  simp only []
  rw [show IntKind.i64.bits = 64 from rfl, e]
  exact wraps_i64 _ (by omega) (by omega)
theorem or_fill (h v lo p q : Nat) (hv : v < 2 ^ p) (hlo : lo < 2 ^ q) : (h * 2 ^ (p + q) + lo) ||| (v * 2 ^ q) = h * 2 ^ (p + q) + v * 2 ^ q + lo := by
  have hvq : v * 2 ^ q + lo < 2 ^ (p + q) := by
    rw [Nat.pow_add]
    have : (v + 1) * 2 ^ q ≤ 2 ^ p * 2 ^ q := Nat.mul_le_mul_right _ hv
    rw [Nat.add_mul] at this; omega
  have hlo' : lo < 2 ^ (p + q) := by omega
  have hvq' : v * 2 ^ q < 2 ^ (p + q) := by omega
  rw [Nat.mul_comm h, Nat.mul_comm v] at *
  rw [Nat.add_assoc, Nat.two_pow_add_eq_or_of_lt (b := lo) hlo', Nat.two_pow_add_eq_or_of_lt (b := 2 ^ q * v + lo) (by omega), Nat.two_pow_add_eq_or_of_lt (b := lo) hlo]
  rw [Nat.or_assoc, Nat.or_comm lo]
theorem bits_or_nat (a b : Nat) (ha : a < 2 ^ 63) (hb : b < 2 ^ 63) : Go.bits .or .i64 (a : Int) (b : Int) = ((a ||| b : Nat) : Int) := (bits_nat .i64 63 (by decide) wraps_i64 a b ha hb).2
/-- Merging, at powers of two. -/
theorem merge_pow (old v p q : Nat) (ho : old < 2 ^ 32) (hv : v < 2 ^ p) (hpq : p + q ≤ 32) :
    Go.bits .or .i64 (Go.bits .andNot .i64 (old : Int) (((2 ^ p - 1) * 2 ^ q : Nat) : Int)) ((v * 2 ^ q : Nat) : Int) = (old : Int) - ((((old / 2 ^ q) % 2 ^ p) * 2 ^ q : Nat) : Int) + ((v * 2 ^ q : Nat) : Int) := by
  have h63 : (2 : Nat) ^ 32 ≤ 2 ^ 63 := Nat.pow_le_pow_right (by decide) (by decide)
  have hle : ((old / 2 ^ q) % 2 ^ p) * 2 ^ q ≤ old := by
    have h1 : (old / 2 ^ q) % 2 ^ p ≤ old / 2 ^ q := Nat.mod_le _ _
    exact Nat.le_trans (Nat.mul_le_mul_right _ h1) (Nat.div_mul_le_self _ _)
  have hvq : v * 2 ^ q < 2 ^ 32 := by
    have h1 : (v + 1) * 2 ^ q ≤ 2 ^ p * 2 ^ q := Nat.mul_le_mul_right _ hv
    have h2 : 2 ^ p * 2 ^ q ≤ 2 ^ 32 := by rw [← Nat.pow_add]; exact Nat.pow_le_pow_right (by decide) hpq
    have h3 : 0 < 2 ^ q := Nat.two_pow_pos q
    rw [Nat.add_mul] at h1; omega
  rw [andNot_mask old p q (by omega) (by omega), bits_or_nat _ _ (by omega) (by omega)]
  have hdm := Nat.div_add_mod old (2 ^ q)
  have hdm2 := Nat.div_add_mod (old / 2 ^ q) (2 ^ p)
  have hy : old - ((old / 2 ^ q) % 2 ^ p) * 2 ^ q = (old / 2 ^ q / 2 ^ p) * 2 ^ (p + q) + old % 2 ^ q := by
    have e : old = ((old / 2 ^ q / 2 ^ p) * 2 ^ p + (old / 2 ^ q) % 2 ^ p) * 2 ^ q + old % 2 ^ q := by
      rw [Nat.mul_comm _ (2 ^ p), hdm2, Nat.mul_comm _ (2 ^ q), hdm]
    rw [Nat.add_mul, Nat.mul_assoc, ← Nat.pow_add] at e
    omega
  rw [hy, or_fill _ _ _ _ _ hv (Nat.mod_lt _ (Nat.two_pow_pos q))]
  omega

theorem impl_isnum (v s : Int) : impl_isNum.f v s = some (decide (0 ≤ v ∧ v < limitM s)) := by
  unfold impl_isNum.f; rw [impl_limit]; simp only [Option.bind_some]
  have hw : wrap64 (limitM s - 1) = limitM s - 1 := by
    rcases limitM_cases s with ⟨_, _, h⟩ | ⟨_, _, h⟩ | ⟨_, _, h⟩ | ⟨_, _, h⟩ <;> rw [h] <;> unfold wrap64 <;> omega
  rw [hw, impl_in]; simp only [Option.bind_some]
  congr 1; rw [decide_eq_decide]; omega
theorem wrap64_nat (n : Nat) (h : n ≤ 4294967296) : wrap64 (n : Int) = n := wrap64_id (by omega) (by omega)
theorem impl_merge_at (old v L : Int) (p q : Nat) (hpq : p + q ≤ 32) (hL : L = 2 ^ p) (hp : p ≤ 32) (hq : q ≤ 24) (ho : 0 ≤ old ∧ old < 4294967296) (hv : 0 ≤ v ∧ v < L) :
    Go.bits .or .i64 (Go.bits .andNot .i64 old (shl .i64 (wrap64 (L - 1)) (q : Int))) (shl .i64 v (q : Int)) = old - (old / 2 ^ q % L) * 2 ^ q + v * 2 ^ q := by
  obtain ⟨o, rfl⟩ := Int.eq_ofNat_of_zero_le ho.1
  obtain ⟨u, rfl⟩ := Int.eq_ofNat_of_zero_le hv.1
  have hpp : (2 : Nat) ^ p ≤ 2 ^ 32 := Nat.pow_le_pow_right (by decide) hp
  have hp1 : 1 ≤ (2 : Nat) ^ p := Nat.one_le_two_pow
  have hLn : L = ((2 ^ p : Nat) : Int) := by rw [hL, Int.natCast_pow]; rfl
  have hu : u < 2 ^ p := by have h := hv.2; rw [hLn] at h; exact Int.ofNat_lt.1 h
  have hqq : (2 : Nat) ^ p * 2 ^ q ≤ 2 ^ 32 := by rw [← Nat.pow_add]; exact Nat.pow_le_pow_right (by decide) hpq
  have hm1 : (2 ^ p - 1) * 2 ^ q ≤ 2 ^ p * 2 ^ q := Nat.mul_le_mul_right _ (Nat.sub_le _ _)
  have hLb : 1 ≤ L ∧ L ≤ 4294967296 := by rw [hLn]; generalize (2 : Nat) ^ p = P at hpp hp1 ⊢; omega
  have hM1 : (2 ^ p - 1) * 2 ^ q ≤ 4294967296 := Nat.le_trans hm1 hqq
  have hM2 : u * 2 ^ q ≤ 4294967296 := Nat.le_trans (Nat.mul_le_mul_right _ (Nat.le_of_lt hu)) hqq
  have c2 : (2 : Int) ^ q = ((2 ^ q : Nat) : Int) := by rw [Int.natCast_pow]; rfl
  have e1 : shl .i64 (wrap64 (L - 1)) (q : Int) = (((2 ^ p - 1) * 2 ^ q : Nat) : Int) := by
    rw [shl_at _ _ (by omega) (by omega), Int.toNat_natCast, wrap64_id (a := L - 1) (by omega) (by omega), hLn, c2, show (((2 ^ p : Nat) : Int) - 1) = ((2 ^ p - 1 : Nat) : Int) by generalize (2 : Nat) ^ p = P at hp1 ⊢; omega, ← Int.natCast_mul]
    exact wrap64_nat _ hM1
  have e2 : shl .i64 (u : Int) (q : Int) = ((u * 2 ^ q : Nat) : Int) := by
    rw [shl_at _ _ (by omega) (by omega), Int.toNat_natCast, c2, ← Int.natCast_mul]
    exact wrap64_nat _ hM2
  rw [e1, e2, merge_pow o u p q (by omega) hu hpq, hLn, c2]
  simp only [Int.natCast_mul, Int.natCast_emod, Int.natCast_ediv]
theorem impl_isnum2 (v : Int) : impl_isNum.f v 2 = some (decide (0 ≤ v ∧ v < 4294967296)) := impl_isnum v 2
theorem impl_merge (old v a s : Int) : impl_Merge.f old v a s = some (mergeM old v a s) := by
  unfold impl_Merge.f mergeM; rw [impl_isnum2, impl_isnum, impl_aligned, impl_limit]; simp only [Option.bind_some]
  by_cases h : alignedM a s = true
  · rw [if_pos h]
    have ha : 0 ≤ a := by simp [alignedM] at h; omega
    by_cases h1 : 0 ≤ old ∧ old < 4294967296
    · rw [decide_eq_true h1]; simp only [if_true]
      by_cases h2 : 0 ≤ v ∧ v < limitM s
      · rw [decide_eq_true h2]; simp only [if_true]
        have hm : Int.tmod a 4 = a % 4 := tmod_pos ha
        have hw3 : wrap64 (8 * (a % 4)) = ((8 * (a % 4).toNat : Nat) : Int) := by unfold wrap64; omega
        have hl := lanes a s h
        rw [hm, hw3, if_pos (Int.natCast_nonneg _), if_pos ⟨h, h1.1, h1.2, h2⟩]
        have key : ∃ p : Nat, limitM s = 2 ^ p ∧ p + 8 * (a % 4).toNat ≤ 32 := by
          rcases hl with ⟨e, rfl⟩ | ⟨e, rfl⟩ | ⟨e, rfl⟩ | ⟨e, rfl⟩ | ⟨e, rfl⟩ | ⟨e, rfl⟩ | ⟨e, rfl⟩ <;> rw [e]
          · exact ⟨8, by rw [limit0]; decide, by omega⟩
          · exact ⟨8, by rw [limit0]; decide, by omega⟩
          · exact ⟨8, by rw [limit0]; decide, by omega⟩
          · exact ⟨8, by rw [limit0]; decide, by omega⟩
          · exact ⟨16, by rw [limit1]; decide, by omega⟩
          · exact ⟨16, by rw [limit1]; decide, by omega⟩
          · exact ⟨32, by rw [limit2]; decide, by omega⟩
        obtain ⟨p, hp, hpq⟩ := key
        rw [impl_merge_at old v (limitM s) p _ hpq hp (by omega) (by omega) h1 h2, Int.pow_mul, show (2 : Int) ^ 8 = 256 from by decide]
      · rw [decide_eq_false h2, if_neg (show ¬ (alignedM a s = true ∧ 0 ≤ old ∧ old < 4294967296 ∧ 0 ≤ v ∧ v < limitM s) from fun hh => h2 ⟨hh.2.2.2.1, by have := hh.2.2.2.2; omega⟩)]; simp only [Bool.false_eq_true, if_false]
    · rw [decide_eq_false h1, if_neg (show ¬ (alignedM a s = true ∧ 0 ≤ old ∧ old < 4294967296 ∧ 0 ≤ v ∧ v < limitM s) from fun hh => h1 ⟨hh.2.1, by have := hh.2.2.1; omega⟩)]; simp only [Bool.false_eq_true, if_false]
  · rw [if_neg h, if_neg (by simp [h])]

theorem FnExactMerge : laws_FnExactMerge.Pure := by
  intro old v a s _ _ _ _
  unfold laws_FnExactMerge.f; rw [spec_merge, impl_merge]; simp

end Go.Proofs.Ytbljihnmljcgiaa.Pure
