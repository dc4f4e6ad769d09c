/- Merging into lanes changes exactly these lanes, for every code. -/
import Derived.Test.YtbljihnmljcgiaaMFnMergedx
namespace Go.Proofs.Ytbljihnmljcgiaa.Pure
open Go.RowKit Go.Proofs.Ytbljihnmljcgiaa.MFnMerged Go.Proofs.YtbljihnmljcgiaaW.PrintWords Go.Proofs.YtbljihnmljcgiaaW.PrintLast Go.Proofs.YtbljihnmljcgiaaW.PrintMore
set_option linter.unusedVariables false
set_option linter.unusedSimpArgs false
set_option maxHeartbeats 4000000

/-- How many bytes a size has. -/
def bytesM (s : Int) : Int := if s = 0 then 1 else if s = 1 then 2 else if s = 2 then 4 else 0
theorem bytesM_cases (s : Int) : (s = 0 ∧ bytesM s = 1) ∨ (s = 1 ∧ bytesM s = 2) ∨ (s = 2 ∧ bytesM s = 4) ∨ (¬ (0 ≤ s ∧ s ≤ 2) ∧ bytesM s = 0) := by
  unfold bytesM; split
  · left; omega
  · split
    · right; left; omega
    · split
      · right; right; left; omega
      · right; right; right; omega
theorem shl_1_0 : shl .i64 1 0 = 1 := by decide
theorem shl_1_1 : shl .i64 1 1 = 2 := by decide
theorem shl_1_2 : shl .i64 1 2 = 4 := by decide

/-- An address fits a size. -/
def alignedM (a s : Int) : Bool := decide (0 ≤ a ∧ 0 ≤ s ∧ s ≤ 2 ∧ a % bytesM s = 0)
theorem tmod_pos {a b : Int} (h : 0 ≤ a) : Int.tmod a b = a % b := Int.tmod_eq_emod_of_nonneg h

theorem lanes (a s : Int) (h : alignedM a s = true) : a % 4 = 0 ∧ s = 0 ∨ a % 4 = 1 ∧ s = 0 ∨ a % 4 = 2 ∧ s = 0 ∨ a % 4 = 3 ∧ s = 0 ∨ a % 4 = 0 ∧ s = 1 ∨ a % 4 = 2 ∧ s = 1 ∨ a % 4 = 0 ∧ s = 2 := by
  simp [alignedM] at h
  obtain ⟨h0, _, _, h1⟩ := h
  rcases bytesM_cases s with ⟨rfl, h⟩ | ⟨rfl, h⟩ | ⟨rfl, h⟩ | ⟨h', h⟩ <;> rw [h] at h1 <;> omega

/-- How many numbers a size has. -/
def limitM (s : Int) : Int := if s = 0 then 256 else if s = 1 then 65536 else if s = 2 then 4294967296 else 0
theorem limitM_cases (s : Int) : (s = 0 ∧ bytesM s = 1 ∧ limitM s = 256) ∨ (s = 1 ∧ bytesM s = 2 ∧ limitM s = 65536) ∨ (s = 2 ∧ bytesM s = 4 ∧ limitM s = 4294967296) ∨ (¬ (0 ≤ s ∧ s ≤ 2) ∧ bytesM s = 0 ∧ limitM s = 0) := by
  unfold limitM bytesM; split
  · left; omega
  · split
    · right; left; omega
    · split
      · right; right; left; omega
      · right; right; right; omega
theorem shl_1_8 : shl .i64 1 8 = 256 := by decide
theorem shl_1_16 : shl .i64 1 16 = 65536 := by decide
theorem shl_1_32 : shl .i64 1 32 = 4294967296 := by decide
theorem wrap64_8_1 : wrap64 8 = 8 := by unfold wrap64; omega
theorem wrap64_8_2 : wrap64 16 = 16 := by unfold wrap64; omega
theorem wrap64_8_4 : wrap64 32 = 32 := by unfold wrap64; omega

/-- A number with another one stored in the used lanes. -/
def mergeM (old v a s : Int) : Int :=
  if alignedM a s = true ∧ 0 ≤ old ∧ old < 4294967296 ∧ 0 ≤ v ∧ v < limitM s then old - (old / 256 ^ (a % 4).toNat % limitM s) * 256 ^ (a % 4).toNat + v * 256 ^ (a % 4).toNat else old
theorem limit0 : limitM 0 = 256 := rfl
theorem limit1 : limitM 1 = 65536 := rfl
theorem limit2 : limitM 2 = 4294967296 := rfl
theorem shl_at (x n : Int) (h0 : 0 ≤ n) (h1 : n ≤ 24) : shl .i64 x n = wrap64 (x * 2 ^ n.toNat) := by
  unfold shl; rw [Nat.min_eq_left (by simp [IntKind.bits]; omega), i64_w]
theorem shr_at (x n : Int) (h0 : 0 ≤ n) (h1 : n ≤ 24) : shr .i64 x n = x / 2 ^ n.toNat := by
  unfold shr; rw [Nat.min_eq_left (by simp [IntKind.bits]; omega)]

theorem spec_in (a b c : Int) : spec_l1In.f a b c = some (decide (b ≤ a ∧ a ≤ c)) := by
  unfold spec_l1In.f; by_cases h : b ≤ a
  · rw [if_pos h]; simp [h]
  · rw [if_neg h]; simp [h]

theorem spec_bytes (s : Int) : spec_BytesOf.f s = some (bytesM s) := by
  unfold spec_BytesOf.f; rw [spec_in]
  rcases bytesM_cases s with ⟨rfl, h⟩ | ⟨rfl, h⟩ | ⟨rfl, h⟩ | ⟨h0, h⟩
  · rfl
  · rfl
  · rfl
  · rw [h]; simp [h0]

theorem spec_aligned (a s : Int) : spec_Aligned.f a s = some (alignedM a s) := by
  unfold spec_Aligned.f alignedM; rw [spec_bytes]
  by_cases ha : 0 ≤ a
  · rcases bytesM_cases s with ⟨rfl, h⟩ | ⟨rfl, h⟩ | ⟨rfl, h⟩ | ⟨h0, h⟩
    · rw [h]; simp [ha]
    · rw [h]; simp [ha, tmod_pos ha]; rfl
    · rw [h]; simp [ha, tmod_pos ha]; rfl
    · rw [h]; simp; intros; omega
  · rcases bytesM_cases s with ⟨rfl, h⟩ | ⟨rfl, h⟩ | ⟨rfl, h⟩ | ⟨h0, h⟩ <;> rw [h] <;> simp [ha]

theorem spec_limit (s : Int) : spec_LimitOf.f s = some (limitM s) := by
  unfold spec_LimitOf.f; rw [spec_bytes]
  rcases limitM_cases s with ⟨rfl, h, k⟩ | ⟨rfl, h, k⟩ | ⟨rfl, h, k⟩ | ⟨h0, h, k⟩
  · rw [h, k]; simp [wrap64_8_1, shl_1_8]
  · rw [h, k]; simp [wrap64_8_2, shl_1_16]
  · rw [h, k]; simp [wrap64_8_4, shl_1_32]
  · rw [h, k]; rfl

theorem wf_of {a : Int} (h : (Lit.int .i64 a).wf = true) : -9223372036854775808 ≤ a ∧ a ≤ 9223372036854775807 := by
  simp [Lit.wf, IntKind.min, IntKind.max, IntKind.signed, IntKind.bits] at h; omega
theorem pow_le_i (b i j : Nat) (h0 : 0 < b) (h : i ≤ j) : (b : Int) ^ i ≤ (b : Int) ^ j := by
  have h1 := Nat.pow_le_pow_right h0 h
  have h2 : ((b ^ i : Nat) : Int) ≤ ((b ^ j : Nat) : Int) := Int.ofNat_le.2 h1
  rwa [Int.natCast_pow, Int.natCast_pow] at h2
theorem wrap64_id {a : Int} (h0 : -9223372036854775808 ≤ a) (h1 : a ≤ 9223372036854775807) : wrap64 a = a := by unfold wrap64; omega

theorem spec_merge_at (old v L : Int) (q : Nat) (hq : q = 0 ∨ q = 8 ∨ q = 16 ∨ q = 24) (hL : L = 256 ∨ L = 65536 ∨ L = 4294967296) (ho : 0 ≤ old ∧ old < 4294967296) (hv : 0 ≤ v ∧ v < 4294967296) :
    wrap64 (wrap64 (old - shl .i64 (Int.tmod (shr .i64 old (q : Int)) L) (q : Int)) + shl .i64 v (q : Int)) = old - (old / 2 ^ q % L) * 2 ^ q + v * 2 ^ q := by
  have e1 : shr .i64 old (q : Int) = old / 2 ^ q := by rw [shr_at _ _ (by omega) (by omega), Int.toNat_natCast]
  have hnn : 0 ≤ old / 2 ^ q := Int.ediv_nonneg ho.1 (Int.le_of_lt (Int.pow_pos (by decide)))
  rw [e1, shl_at _ _ (by omega) (by omega), shl_at _ _ (by omega) (by omega), Int.toNat_natCast, Int.tmod_eq_emod_of_nonneg hnn]
  rcases hq with rfl | rfl | rfl | rfl <;> rcases hL with rfl | rfl | rfl <;> simp only [Int.pow_zero, show (2 : Int) ^ 8 = 256 from by decide, show (2 : Int) ^ 16 = 65536 from by decide, show (2 : Int) ^ 24 = 16777216 from by decide] <;> (unfold wrap64; omega)
theorem spec_merge (old v a s : Int) : spec_Merge.f old v a s = some (mergeM old v a s) := by
  have hw1 : wrap64 (4294967296 - 1) = 4294967295 := by unfold wrap64; omega
  unfold spec_Merge.f mergeM; simp only [spec_aligned, spec_limit, spec_in, Option.bind_some, limit2, hw1]
  by_cases h : alignedM a s = true
  · rw [if_pos h]
    have ha : 0 ≤ a := by simp [alignedM] at h; omega
    by_cases h1 : 0 ≤ old ∧ old ≤ 4294967295
    · rw [decide_eq_true h1]; simp only [if_true]
      have hL : limitM s = 256 ∨ limitM s = 65536 ∨ limitM s = 4294967296 := by
        rcases lanes a s h with ⟨_, rfl⟩ | ⟨_, rfl⟩ | ⟨_, rfl⟩ | ⟨_, rfl⟩ | ⟨_, rfl⟩ | ⟨_, rfl⟩ | ⟨_, rfl⟩ <;> simp [limit0, limit1, limit2]
      have hw2 : wrap64 (limitM s - 1) = limitM s - 1 := wrap64_id (by omega) (by omega)
      rw [hw2]
      by_cases h2 : 0 ≤ v ∧ v ≤ limitM s - 1
      · rw [decide_eq_true h2]; simp only [if_true]
        have hm : Int.tmod a 4 = a % 4 := tmod_pos ha
        have hw3 : wrap64 (8 * (a % 4)) = ((8 * (a % 4).toNat : Nat) : Int) := by unfold wrap64; omega
        have hq : (8 * (a % 4).toNat) = 0 ∨ (8 * (a % 4).toNat) = 8 ∨ (8 * (a % 4).toNat) = 16 ∨ (8 * (a % 4).toNat) = 24 := by omega
        have hne : ¬ limitM s = 0 := by omega
        rw [hm, hw3, if_pos (Int.natCast_nonneg _), if_neg hne, if_pos ⟨h, h1.1, by omega, h2.1, by omega⟩, spec_merge_at _ _ _ _ hq hL (by omega) (by omega), Int.pow_mul, show (2 : Int) ^ 8 = 256 from by decide]
      · rw [decide_eq_false h2, if_neg (show ¬ (alignedM a s = true ∧ 0 ≤ old ∧ old < 4294967296 ∧ 0 ≤ v ∧ v < limitM s) from fun hh => h2 ⟨hh.2.2.2.1, by have := hh.2.2.2.2; omega⟩)]; simp only [Bool.false_eq_true, if_false]
    · rw [decide_eq_false h1, if_neg (show ¬ (alignedM a s = true ∧ 0 ≤ old ∧ old < 4294967296 ∧ 0 ≤ v ∧ v < limitM s) from fun hh => h1 ⟨hh.2.1, by have := hh.2.2.1; omega⟩)]; simp only [Bool.false_eq_true, if_false]
  · rw [if_neg h, if_neg (by simp [h])]

theorem impl_in (a b c : Int) : impl_within.f a b c = some (decide (b ≤ a ∧ a ≤ c)) := by
  unfold impl_within.f; by_cases h : b ≤ a
  · rw [if_pos h]; simp [h]
  · rw [if_neg h]; simp [h]

theorem impl_bytes (s : Int) : impl_BytesOf.f s = some (bytesM s) := by
  unfold impl_BytesOf.f; rw [impl_in]
  rcases bytesM_cases s with ⟨rfl, h⟩ | ⟨rfl, h⟩ | ⟨rfl, h⟩ | ⟨h0, h⟩
  · rfl
  · rfl
  · rfl
  · rw [h]; simp [h0]

theorem impl_aligned (a s : Int) : impl_Aligned.f a s = some (alignedM a s) := by
  unfold impl_Aligned.f alignedM; rw [impl_in, impl_bytes]
  by_cases ha : 0 ≤ a
  · rcases bytesM_cases s with ⟨rfl, h⟩ | ⟨rfl, h⟩ | ⟨rfl, h⟩ | ⟨h0, h⟩
    · rw [h]; simp [ha]
    · rw [h]; simp [ha, tmod_pos ha]; rfl
    · rw [h]; simp [ha, tmod_pos ha]; rfl
    · rw [h]; simp [h0]; intros; omega
  · rcases bytesM_cases s with ⟨rfl, h⟩ | ⟨rfl, h⟩ | ⟨rfl, h⟩ | ⟨h0, h⟩ <;> rw [h] <;> simp [ha]

theorem impl_limit (s : Int) : impl_LimitOf.f s = some (limitM s) := by
  unfold impl_LimitOf.f; rw [impl_bytes]
  rcases limitM_cases s with ⟨rfl, h, k⟩ | ⟨rfl, h, k⟩ | ⟨rfl, h, k⟩ | ⟨h0, h, k⟩
  · rw [h, k]; simp [wrap64_8_1, shl_1_8]
  · rw [h, k]; simp [wrap64_8_2, shl_1_16]
  · rw [h, k]; simp [wrap64_8_4, shl_1_32]
  · rw [h, k]; rfl

theorem impl_isnum (v s : Int) : impl_isNum.f v s = some (decide (0 ≤ v ∧ v < limitM s)) := by
  unfold impl_isNum.f; rw [impl_limit]; simp only [Option.bind_some]
  have hw : wrap64 (limitM s - 1) = limitM s - 1 := by
    rcases limitM_cases s with ⟨_, _, h⟩ | ⟨_, _, h⟩ | ⟨_, _, h⟩ | ⟨_, _, h⟩ <;> rw [h] <;> unfold wrap64 <;> omega
  rw [hw, impl_in]; simp only [Option.bind_some]
  congr 1; rw [decide_eq_decide]; omega

theorem wraps_i64 (n : Int) (h₀ : 0 ≤ n) (h₁ : n < 2 ^ 63) : IntKind.i64.wrap n = n := by rw [IntKind.wrap_i64]; omega
theorem and_mask (i : Nat) (hi : i ≤ 63) (x : Int) (h₀ : 0 ≤ x) (h₁ : x ≤ 9223372036854775807) : Go.bits .and .i64 x (2 ^ i - 1) = x % 2 ^ i :=
  bits_mask .i64 63 (by decide) wraps_i64 i hi x h₀ (by omega)
theorem or_join (i : Nat) (x y : Int) (hx₀ : 0 ≤ x) (hx : x % 2 ^ i = 0) (hx₁ : x ≤ 9223372036854775807) (hy₀ : 0 ≤ y) (hy : y < 2 ^ i) (hy₁ : y ≤ 9223372036854775807) : Go.bits .or .i64 x y = x + y :=
  bits_join .i64 63 (by decide) wraps_i64 i x y hx₀ hx (by omega) hy₀ hy (by omega)
theorem i64wrap_id {a : Int} (h0 : -9223372036854775808 ≤ a) (h1 : a ≤ 9223372036854775807) : IntKind.i64.wrap a = a := by rw [IntKind.wrap_i64]; omega
theorem and255 {x : Int} (h₀ : 0 ≤ x) (h₁ : x ≤ 9223372036854775807) : Go.bits .and .i64 x 255 = x % 256 := and_mask 8 (by decide) x h₀ h₁
theorem and127 {x : Int} (h₀ : 0 ≤ x) (h₁ : x ≤ 9223372036854775807) : Go.bits .and .i64 x 127 = x % 128 := and_mask 7 (by decide) x h₀ h₁
theorem or_comm_i64 (x y : Int) : Go.bits .or .i64 x y = Go.bits .or .i64 y x := by
  simp only [Go.bits, BitVec.or_comm]

theorem nat_mask (x p q : Nat) : x &&& ((2 ^ p - 1) * 2 ^ q) = ((x / 2 ^ q) % 2 ^ p) * 2 ^ q := by
  apply Nat.eq_of_testBit_eq
  intro i
  rw [← Nat.shiftLeft_eq, ← Nat.shiftLeft_eq, ← Nat.shiftRight_eq_div_pow]
  simp only [Nat.testBit_and, Nat.testBit_shiftLeft, Nat.testBit_two_pow_sub_one, Nat.testBit_mod_two_pow, Nat.testBit_shiftRight]
  by_cases h : q ≤ i
  · rw [show q + (i - q) = i by omega]
    cases x.testBit i <;> simp [h]
  · simp [h]
theorem andNot_mask (x p q : Nat) (hx : x < 2 ^ 63) (hpq : p + q ≤ 63) : Go.bits .andNot .i64 (x : Int) (((2 ^ p - 1) * 2 ^ q : Nat) : Int) = ((x - ((x / 2 ^ q) % 2 ^ p) * 2 ^ q : Nat) : Int) := by
  have hm : (2 ^ p - 1) * 2 ^ q < 2 ^ 64 := by
    have h1 : 2 ^ p * 2 ^ q ≤ 2 ^ 63 := by rw [← Nat.pow_add]; exact Nat.pow_le_pow_right (by decide) hpq
    have h2 : (2 ^ p - 1) * 2 ^ q ≤ 2 ^ p * 2 ^ q := Nat.mul_le_mul_right _ (Nat.sub_le _ _)
    exact Nat.lt_of_le_of_lt (Nat.le_trans h2 h1) (by decide)
  have hle : ((x / 2 ^ q) % 2 ^ p) * 2 ^ q ≤ x := by
    have h1 : (x / 2 ^ q) % 2 ^ p ≤ x / 2 ^ q := Nat.mod_le _ _
    exact Nat.le_trans (Nat.mul_le_mul_right _ h1) (Nat.div_mul_le_self _ _)
  have e : ((BitVec.ofInt 64 (x : Int)) &&& ~~~(BitVec.ofInt 64 (((2 ^ p - 1) * 2 ^ q : Nat) : Int))).toNat = x - ((x / 2 ^ q) % 2 ^ p) * 2 ^ q := by
    rw [BitVec.ofInt_natCast, BitVec.ofInt_natCast]
    generalize ha : BitVec.ofNat 64 x = a
    generalize hb : BitVec.ofNat 64 ((2 ^ p - 1) * 2 ^ q) = b
    have hat : a.toNat = x := by rw [← ha, BitVec.toNat_ofNat]; omega
    have hbt : b.toNat = (2 ^ p - 1) * 2 ^ q := by rw [← hb, BitVec.toNat_ofNat]; omega
    have hd : (a &&& b) &&& (a &&& ~~~b) = 0#64 := by
      ext i hi
      simp only [BitVec.getElem_and, BitVec.getElem_not, BitVec.getElem_zero]
      cases a[i] <;> cases b[i] <;> rfl
    have ho : (a &&& b) ||| (a &&& ~~~b) = a := by
      ext i hi
      simp only [BitVec.getElem_and, BitVec.getElem_not, BitVec.getElem_or]
      cases a[i] <;> cases b[i] <;> rfl
    have hs := BitVec.add_eq_or_of_and_eq_zero _ _ hd
    rw [ho] at hs
    have ht := congrArg BitVec.toNat hs
    rw [BitVec.toNat_add, BitVec.toNat_and, hat, hbt, nat_mask] at ht
    have hlt := (a &&& ~~~b).isLt
    omega
  unfold Go.bits
  simp only []
  rw [show IntKind.i64.bits = 64 from rfl, e]
  exact wraps_i64 _ (by omega) (by omega)
theorem or_fill (h v lo p q : Nat) (hv : v < 2 ^ p) (hlo : lo < 2 ^ q) : (h * 2 ^ (p + q) + lo) ||| (v * 2 ^ q) = h * 2 ^ (p + q) + v * 2 ^ q + lo := by
  have hvq : v * 2 ^ q + lo < 2 ^ (p + q) := by
    rw [Nat.pow_add]
    have : (v + 1) * 2 ^ q ≤ 2 ^ p * 2 ^ q := Nat.mul_le_mul_right _ hv
    rw [Nat.add_mul] at this; omega
  have hlo' : lo < 2 ^ (p + q) := by omega
  have hvq' : v * 2 ^ q < 2 ^ (p + q) := by omega
  rw [Nat.mul_comm h, Nat.mul_comm v] at *
  rw [Nat.add_assoc, Nat.two_pow_add_eq_or_of_lt (b := lo) hlo', Nat.two_pow_add_eq_or_of_lt (b := 2 ^ q * v + lo) (by omega), Nat.two_pow_add_eq_or_of_lt (b := lo) hlo]
  rw [Nat.or_assoc, Nat.or_comm lo]
theorem bits_or_nat (a b : Nat) (ha : a < 2 ^ 63) (hb : b < 2 ^ 63) : Go.bits .or .i64 (a : Int) (b : Int) = ((a ||| b : Nat) : Int) := (bits_nat .i64 63 (by decide) wraps_i64 a b ha hb).2
/-- Merging, at powers of two. -/
theorem merge_pow (old v p q : Nat) (ho : old < 2 ^ 32) (hv : v < 2 ^ p) (hpq : p + q ≤ 32) :
    Go.bits .or .i64 (Go.bits .andNot .i64 (old : Int) (((2 ^ p - 1) * 2 ^ q : Nat) : Int)) ((v * 2 ^ q : Nat) : Int) = (old : Int) - ((((old / 2 ^ q) % 2 ^ p) * 2 ^ q : Nat) : Int) + ((v * 2 ^ q : Nat) : Int) := by
  have h63 : (2 : Nat) ^ 32 ≤ 2 ^ 63 := Nat.pow_le_pow_right (by decide) (by decide)
  have hle : ((old / 2 ^ q) % 2 ^ p) * 2 ^ q ≤ old := by
    have h1 : (old / 2 ^ q) % 2 ^ p ≤ old / 2 ^ q := Nat.mod_le _ _
    exact Nat.le_trans (Nat.mul_le_mul_right _ h1) (Nat.div_mul_le_self _ _)
  have hvq : v * 2 ^ q < 2 ^ 32 := by
    have h1 : (v + 1) * 2 ^ q ≤ 2 ^ p * 2 ^ q := Nat.mul_le_mul_right _ hv
    have h2 : 2 ^ p * 2 ^ q ≤ 2 ^ 32 := by rw [← Nat.pow_add]; exact Nat.pow_le_pow_right (by decide) hpq
    have h3 : 0 < 2 ^ q := Nat.two_pow_pos q
    rw [Nat.add_mul] at h1; omega
  rw [andNot_mask old p q (by omega) (by omega), bits_or_nat _ _ (by omega) (by omega)]
  have hdm := Nat.div_add_mod old (2 ^ q)
  have hdm2 := Nat.div_add_mod (old / 2 ^ q) (2 ^ p)
  have hy : old - ((old / 2 ^ q) % 2 ^ p) * 2 ^ q = (old / 2 ^ q / 2 ^ p) * 2 ^ (p + q) + old % 2 ^ q := by
    have e : old = ((old / 2 ^ q / 2 ^ p) * 2 ^ p + (old / 2 ^ q) % 2 ^ p) * 2 ^ q + old % 2 ^ q := by
      rw [Nat.mul_comm _ (2 ^ p), hdm2, Nat.mul_comm _ (2 ^ q), hdm]
    rw [Nat.add_mul, Nat.mul_assoc, ← Nat.pow_add] at e
    omega
  rw [hy, or_fill _ _ _ _ _ hv (Nat.mod_lt _ (Nat.two_pow_pos q))]
  omega

theorem wrap64_nat (n : Nat) (h : n ≤ 4294967296) : wrap64 (n : Int) = n := wrap64_id (by omega) (by omega)
theorem impl_merge_at (old v L : Int) (p q : Nat) (hpq : p + q ≤ 32) (hL : L = 2 ^ p) (hp : p ≤ 32) (hq : q ≤ 24) (ho : 0 ≤ old ∧ old < 4294967296) (hv : 0 ≤ v ∧ v < L) :
    Go.bits .or .i64 (Go.bits .andNot .i64 old (shl .i64 (wrap64 (L - 1)) (q : Int))) (shl .i64 v (q : Int)) = old - (old / 2 ^ q % L) * 2 ^ q + v * 2 ^ q := by
  obtain ⟨o, rfl⟩ := Int.eq_ofNat_of_zero_le ho.1
  obtain ⟨u, rfl⟩ := Int.eq_ofNat_of_zero_le hv.1
  have hpp : (2 : Nat) ^ p ≤ 2 ^ 32 := Nat.pow_le_pow_right (by decide) hp
  have hp1 : 1 ≤ (2 : Nat) ^ p := Nat.one_le_two_pow
  have hLn : L = ((2 ^ p : Nat) : Int) := by rw [hL, Int.natCast_pow]; rfl
  have hu : u < 2 ^ p := by have h := hv.2; rw [hLn] at h; exact Int.ofNat_lt.1 h
  have hqq : (2 : Nat) ^ p * 2 ^ q ≤ 2 ^ 32 := by rw [← Nat.pow_add]; exact Nat.pow_le_pow_right (by decide) hpq
  have hm1 : (2 ^ p - 1) * 2 ^ q ≤ 2 ^ p * 2 ^ q := Nat.mul_le_mul_right _ (Nat.sub_le _ _)
  have hLb : 1 ≤ L ∧ L ≤ 4294967296 := by rw [hLn]; generalize (2 : Nat) ^ p = P at hpp hp1 ⊢; omega
  have hM1 : (2 ^ p - 1) * 2 ^ q ≤ 4294967296 := Nat.le_trans hm1 hqq
  have hM2 : u * 2 ^ q ≤ 4294967296 := Nat.le_trans (Nat.mul_le_mul_right _ (Nat.le_of_lt hu)) hqq
  have c2 : (2 : Int) ^ q = ((2 ^ q : Nat) : Int) := by rw [Int.natCast_pow]; rfl
  have e1 : shl .i64 (wrap64 (L - 1)) (q : Int) = (((2 ^ p - 1) * 2 ^ q : Nat) : Int) := by
    rw [shl_at _ _ (by omega) (by omega), Int.toNat_natCast, wrap64_id (a := L - 1) (by omega) (by omega), hLn, c2, show (((2 ^ p : Nat) : Int) - 1) = ((2 ^ p - 1 : Nat) : Int) by generalize (2 : Nat) ^ p = P at hp1 ⊢; omega, ← Int.natCast_mul]
    exact wrap64_nat _ hM1
  have e2 : shl .i64 (u : Int) (q : Int) = ((u * 2 ^ q : Nat) : Int) := by
    rw [shl_at _ _ (by omega) (by omega), Int.toNat_natCast, c2, ← Int.natCast_mul]
    exact wrap64_nat _ hM2
  rw [e1, e2, merge_pow o u p q (by omega) hu hpq, hLn, c2]
  simp only [Int.natCast_mul, Int.natCast_emod, Int.natCast_ediv]
theorem impl_isnum2 (v : Int) : impl_isNum.f v 2 = some (decide (0 ≤ v ∧ v < 4294967296)) := impl_isnum v 2
theorem impl_merge (old v a s : Int) : impl_Merge.f old v a s = some (mergeM old v a s) := by
  unfold impl_Merge.f mergeM; rw [impl_isnum2, impl_isnum, impl_aligned, impl_limit]; simp only [Option.bind_some]
  by_cases h : alignedM a s = true
  · rw [if_pos h]
    have ha : 0 ≤ a := by simp [alignedM] at h; omega
    by_cases h1 : 0 ≤ old ∧ old < 4294967296
    · rw [decide_eq_true h1]; simp only [if_true]
      by_cases h2 : 0 ≤ v ∧ v < limitM s
      · rw [decide_eq_true h2]; simp only [if_true]
        have hm : Int.tmod a 4 = a % 4 := tmod_pos ha
        have hw3 : wrap64 (8 * (a % 4)) = ((8 * (a % 4).toNat : Nat) : Int) := by unfold wrap64; omega
        have hl := lanes a s h
        rw [hm, hw3, if_pos (Int.natCast_nonneg _), if_pos ⟨h, h1.1, h1.2, h2⟩]
        have key : ∃ p : Nat, limitM s = 2 ^ p ∧ p + 8 * (a % 4).toNat ≤ 32 := by
          rcases hl with ⟨e, rfl⟩ | ⟨e, rfl⟩ | ⟨e, rfl⟩ | ⟨e, rfl⟩ | ⟨e, rfl⟩ | ⟨e, rfl⟩ | ⟨e, rfl⟩ <;> rw [e]
          · exact ⟨8, by rw [limit0]; decide, by omega⟩
          · exact ⟨8, by rw [limit0]; decide, by omega⟩
          · exact ⟨8, by rw [limit0]; decide, by omega⟩
          · exact ⟨8, by rw [limit0]; decide, by omega⟩
          · exact ⟨16, by rw [limit1]; decide, by omega⟩
          · exact ⟨16, by rw [limit1]; decide, by omega⟩
          · exact ⟨32, by rw [limit2]; decide, by omega⟩
        obtain ⟨p, hp, hpq⟩ := key
        rw [impl_merge_at old v (limitM s) p _ hpq hp (by omega) (by omega) h1 h2, Int.pow_mul, show (2 : Int) ^ 8 = 256 from by decide]
      · rw [decide_eq_false h2, if_neg (show ¬ (alignedM a s = true ∧ 0 ≤ old ∧ old < 4294967296 ∧ 0 ≤ v ∧ v < limitM s) from fun hh => h2 ⟨hh.2.2.2.1, by have := hh.2.2.2.2; omega⟩)]; simp only [Bool.false_eq_true, if_false]
    · rw [decide_eq_false h1, if_neg (show ¬ (alignedM a s = true ∧ 0 ≤ old ∧ old < 4294967296 ∧ 0 ≤ v ∧ v < limitM s) from fun hh => h1 ⟨hh.2.1, by have := hh.2.2.1; omega⟩)]; simp only [Bool.false_eq_true, if_false]
  · rw [if_neg h, if_neg (by simp [h])]

/-- The lanes that are used. -/
def strobesM (a s : Int) : List Bool :=
  if alignedM a s = true then (List.range 4).map fun (j : Nat) => decide (a % 4 ≤ (j : Int) ∧ (j : Int) ≤ a % 4 + bytesM s - 1) else []
theorem strobesM_length (a s : Int) : (strobesM a s).length ≤ 4 := by unfold strobesM; split <;> simp

theorem spec_strobes_at (k : Nat) (a s m : Int) (hm : Int.tmod a 4 = m) (h : m = 0 ∧ s = 0 ∨ m = 1 ∧ s = 0 ∨ m = 2 ∧ s = 0 ∨ m = 3 ∧ s = 0 ∨ m = 0 ∧ s = 1 ∨ m = 2 ∧ s = 1 ∨ m = 0 ∧ s = 2) :
    spec_Strobes.l0 (k + 5) a s (List.replicate 4 false) 0 = some ((List.range 4).map fun (j : Nat) => decide (m ≤ (j : Int) ∧ (j : Int) ≤ m + bytesM s - 1)) := by
  have b0 : bytesM 0 = 1 := rfl
  have b1 : bytesM 1 = 2 := rfl
  have b2 : bytesM 2 = 4 := rfl
  rcases h with ⟨rfl, rfl⟩ | ⟨rfl, rfl⟩ | ⟨rfl, rfl⟩ | ⟨rfl, rfl⟩ | ⟨rfl, rfl⟩ | ⟨rfl, rfl⟩ | ⟨rfl, rfl⟩ <;>
    simp [spec_Strobes.l0, spec_bytes, hm, wrap64, b0, b1, b2, List.range, List.range.loop, List.replicate]
theorem spec_strobes (k : Nat) (a s : Int) : spec_Strobes.f (k + 5) a s = some (strobesM a s) := by
  unfold spec_Strobes.f strobesM; rw [spec_aligned]; simp only [Option.bind_some]
  by_cases h : alignedM a s = true
  · have h0 : 0 ≤ a := by simp [alignedM] at h; omega
    rw [if_pos h, if_pos h, if_pos (by omega), spec_strobes_at k a s (a % 4) (tmod_pos h0) (lanes a s h)]
  · rw [if_neg h, if_neg h]

theorem impl_strobes_at (k : Nat) (a s m : Int) (hm : Int.tmod a 4 = m) (h : m = 0 ∧ s = 0 ∨ m = 1 ∧ s = 0 ∨ m = 2 ∧ s = 0 ∨ m = 3 ∧ s = 0 ∨ m = 0 ∧ s = 1 ∨ m = 2 ∧ s = 1 ∨ m = 0 ∧ s = 2) :
    impl_Strobes.l0 (k + 5) a s [] 0 = some ((List.range 4).map fun (j : Nat) => decide (m ≤ (j : Int) ∧ (j : Int) ≤ m + bytesM s - 1)) := by
  have b0 : bytesM 0 = 1 := rfl
  have b1 : bytesM 1 = 2 := rfl
  have b2 : bytesM 2 = 4 := rfl
  rcases h with ⟨rfl, rfl⟩ | ⟨rfl, rfl⟩ | ⟨rfl, rfl⟩ | ⟨rfl, rfl⟩ | ⟨rfl, rfl⟩ | ⟨rfl, rfl⟩ | ⟨rfl, rfl⟩ <;>
    simp [impl_Strobes.l0, impl_bytes, impl_in, hm, wrap64, b0, b1, b2, List.range, List.range.loop]
theorem impl_strobes (k : Nat) (a s : Int) : impl_Strobes.f (k + 5) a s = some (strobesM a s) := by
  unfold impl_Strobes.f strobesM; rw [impl_aligned]; simp only [Option.bind_some]
  by_cases h : alignedM a s = true
  · have h0 : 0 ≤ a := by simp [alignedM] at h; omega
    rw [if_pos h, if_pos h, impl_strobes_at k a s (a % 4) (tmod_pos h0) (lanes a s h)]
  · rw [if_neg h, if_neg h]

theorem and255_any (y : Int) : 0 ≤ Go.bits .and .i64 y 255 ∧ Go.bits .and .i64 y 255 ≤ 255 := by
  have e : ((BitVec.ofInt 64 y) &&& (BitVec.ofInt 64 255)).toNat ≤ 255 := by
    rw [BitVec.toNat_and]; exact Nat.and_le_right
  have h : Go.bits .and .i64 y 255 = ((((BitVec.ofInt 64 y) &&& (BitVec.ofInt 64 255)).toNat : Nat) : Int) := by
    unfold Go.bits; simp only []
    have e2 : (((BitVec.ofInt IntKind.i64.bits y &&& BitVec.ofInt IntKind.i64.bits 255).toNat : Nat) : Int) ≤ 255 := Int.ofNat_le.2 e
    exact wraps_i64 _ (Int.natCast_nonneg _) (Int.lt_of_le_of_lt e2 (by decide))
  rw [h]; omega
theorem byte_ok (b : List Int) (i h : Int) (hb : b.length ≤ 1048576) (hi : 0 ≤ i) : ∃ x i' h', spec_l1Byte.f b i h = some (x, i', h') ∧ 0 ≤ x ∧ x ≤ 255 ∧ 0 ≤ i' := by
  unfold spec_l1Byte.f
  by_cases hl : i < (b.length : Int)
  · rw [if_pos hl, if_pos hi]
    exact ⟨_, _, _, rfl, (and255_any _).1, (and255_any _).2, by rw [wrap64_id (by omega) (by omega)]; omega⟩
  · rw [if_neg hl]
    exact ⟨_, _, _, rfl, (and255_any _).1, (and255_any _).2, hi⟩
theorem four_ok (x y z w : Int) (hx : 0 ≤ x ∧ x ≤ 255) (hy : 0 ≤ y ∧ y ≤ 255) (hz : 0 ≤ z ∧ z ≤ 255) (hw : 0 ≤ w ∧ w ≤ 255) :
    wrap64 (wrap64 (wrap64 (wrap64 (x * 16777216) + wrap64 (y * 65536)) + wrap64 (z * 256)) + w) = x * 16777216 + y * 65536 + z * 256 + w := by
  have e1 : wrap64 (x * 16777216) = x * 16777216 := wrap64_id (by omega) (by omega)
  have e2 : wrap64 (y * 65536) = y * 65536 := wrap64_id (by clear e1; omega) (by clear e1; omega)
  have e3 : wrap64 (z * 256) = z * 256 := wrap64_id (by clear e1 e2; omega) (by clear e1 e2; omega)
  rw [e1, e2, e3]; clear e1 e2 e3
  have e4 : wrap64 (x * 16777216 + y * 65536) = x * 16777216 + y * 65536 := wrap64_id (by omega) (by omega)
  rw [e4]; clear e4
  have e5 : wrap64 (x * 16777216 + y * 65536 + z * 256) = x * 16777216 + y * 65536 + z * 256 := wrap64_id (by omega) (by omega)
  rw [e5]; clear e5
  exact wrap64_id (by omega) (by omega)
theorem tmod_in (x n : Int) (hx : 0 ≤ x) (hn : 0 < n) : 0 ≤ Int.tmod x n ∧ Int.tmod x n < n := by
  rw [Int.tmod_eq_emod_of_nonneg hx]; exact ⟨Int.emod_nonneg _ (by omega), Int.emod_lt_of_pos _ hn⟩
theorem below_ok (b : List Int) (i h n : Int) (hb : b.length ≤ 1048576) (hi : 0 ≤ i) : ∃ x i' h', spec_l1Below.f b i h n = some (x, i', h') ∧ 0 ≤ x ∧ (0 < n → x < n) ∧ 0 ≤ i' := by
  unfold spec_l1Below.f
  by_cases h0 : n ≤ 0
  · rw [if_pos h0]; exact ⟨_, _, _, rfl, by omega, by omega, hi⟩
  · rw [if_neg h0]
    obtain ⟨x1, i1, h1, e1, a1, b1, c1⟩ := byte_ok b i h hb hi
    have hn : ¬ n = 0 := by omega
    by_cases h2 : n ≤ 256
    · rw [if_pos h2, e1]; simp only [Option.bind_some]; rw [if_neg hn]
      have := tmod_in x1 n a1 (by omega)
      exact ⟨_, _, _, rfl, this.1, fun _ => this.2, c1⟩
    · rw [if_neg h2]
      obtain ⟨x2, i2, h2, e2, a2, b2, c2⟩ := byte_ok b i1 h1 hb c1
      obtain ⟨x3, i3, h3, e3, a3, b3, c3⟩ := byte_ok b i2 h2 hb c2
      obtain ⟨x4, i4, h4, e4, a4, b4, c4⟩ := byte_ok b i3 h3 hb c3
      rw [e1]; simp only [Option.bind_some]; rw [e2]; simp only [Option.bind_some]; rw [e3]; simp only [Option.bind_some]; rw [e4]; simp only [Option.bind_some]
      rw [if_neg hn, four_ok x1 x2 x3 x4 ⟨a1, b1⟩ ⟨a2, b2⟩ ⟨a3, b3⟩ ⟨a4, b4⟩]
      have := tmod_in (x1 * 16777216 + x2 * 65536 + x3 * 256 + x4) n (by omega) (by omega)
      exact ⟨_, _, _, rfl, this.1, fun _ => this.2, c4⟩

theorem new_loop (b : List Int) (hb : b.length ≤ 1048576) (d : Nat) : ∀ (k i : Nat) (h : Int), i + d = b.length → d < k → ∃ h', spec_l1New.l0 k b h i = some (b, 0, h') := by
  induction d with
  | zero =>
    intro k i h hi hk
    obtain ⟨k, rfl⟩ : ∃ m, k = m + 1 := ⟨k - 1, by omega⟩
    have hl : ¬ (i : Int) < (b.length : Int) := by omega
    exact ⟨h, by simp only [spec_l1New.l0]; rw [if_neg hl]⟩
  | succ d ih =>
    intro k i h hi hk
    obtain ⟨k, rfl⟩ : ∃ m, k = m + 1 := ⟨k - 1, by omega⟩
    have hl : (i : Int) < (b.length : Int) := by omega
    have hw : wrap64 ((i : Int) + 1) = ((i + 1 : Nat) : Int) := by unfold wrap64; omega
    simp only [spec_l1New.l0]; rw [if_pos hl]
    by_cases h4 : (i : Int) < 4000
    · rw [if_pos h4, if_pos (Int.natCast_nonneg _), hw]
      exact ih k (i + 1) _ (by clear hw; omega) (by clear hw; omega)
    · rw [if_neg h4]; exact ⟨_, rfl⟩
theorem new_ok (k : Nat) (b : List Int) (hb : b.length ≤ 1048576) (hk : b.length < k) : ∃ h, spec_l1New.f k b = some (b, 0, h) := by
  unfold spec_l1New.f
  exact new_loop b hb b.length k 0 _ (by omega) hk

theorem pick_ok (b : List Int) (i h : Int) (l : List Int) (hb : b.length ≤ 1048576) (hi : 0 ≤ i) (hl : 0 < l.length) : ∃ x i' h', spec_l1PickInt.f b i h l = some (x, i', h') ∧ x ∈ l ∧ 0 ≤ i' := by
  unfold spec_l1PickInt.f
  obtain ⟨x, i', h', e, h0, h1, h2⟩ := below_ok b i h (l.length : Int) hb hi
  have h1' := h1 (by omega)
  rw [e]; simp only [Option.bind_some]; rw [if_pos h0, if_pos h1']
  refine ⟨_, _, _, rfl, ?_, h2⟩
  unfold rd
  rw [List.getD_eq_getElem?_getD, List.getElem?_eq_getElem (show x.toNat < l.length by omega)]
  exact List.getElem_mem _

theorem value_ok (b : List Int) (i h s : Int) (hb : b.length ≤ 1048576) (hi : 0 ≤ i) : ∃ x i' h', spec_l4Value.f b i h s = some (x, i', h') ∧ -1 ≤ x ∧ x ≤ 4294967296 ∧ 0 ≤ i' := by
  have hL : 0 ≤ limitM s ∧ limitM s ≤ 4294967296 := by
    rcases limitM_cases s with ⟨_, _, h⟩ | ⟨_, _, h⟩ | ⟨_, _, h⟩ | ⟨_, _, h⟩ <;> omega
  have hw : wrap64 (limitM s - 1) = limitM s - 1 := wrap64_id (by omega) (by omega)
  have hm : 0 < mx 1 (limitM s) ∧ mx 1 (limitM s) ≤ 4294967296 := by unfold mx; split <;> omega
  unfold spec_l4Value.f
  obtain ⟨x1, i1, h1, e1, a1, b1, c1⟩ := below_ok b i h 256 hb hi
  have b1' := b1 (by omega)
  rw [e1]; simp only [Option.bind_some, spec_limit]
  obtain ⟨x2, i2, h2, e2, a2, b2, c2⟩ := below_ok b i1 h1 (mx 1 (limitM s)) hb c1
  have b2' := b2 hm.1
  rw [e2]; simp only [Option.bind_some]
  rw [hw]; clear hw
  obtain ⟨x, i', h', e, hx, c⟩ := pick_ok b i2 h2 [x1, x2, limitM s - 1, limitM s, 0, -1] hb c2 (by simp)
  rw [e]; simp only [Option.bind_some]
  refine ⟨x, i', h', rfl, ?_, ?_, c⟩ <;>
    · simp only [List.mem_cons, List.not_mem_nil, or_false] at hx
      rcases hx with rfl | rfl | rfl | rfl | rfl | rfl <;> omega

theorem wrap_succ {i n : Nat} (h : i < n) (hn : n ≤ 1099511627776) : wrap64 ((i : Int) + 1) = ((i + 1 : Nat) : Int) := by unfold wrap64; omega
theorem rd_nat (l : List Int) (i : Nat) (h : i < l.length) : rd l (i : Int) = l[i] := by
  unfold rd; simp [List.getD_eq_getElem?_getD, List.getElem?_eq_getElem h]
theorem rdOf_nat {α : Type} (d : α) (l : List α) (i : Nat) (h : i < l.length) : rdOf d l (i : Int) = l[i] := by
  unfold rdOf; simp [List.getD_eq_getElem?_getD, List.getElem?_eq_getElem h]
theorem set_take {α : Type} (l : List α) (i : Nat) (x : α) (h : i < l.length) : (l.set i x).take (i + 1) = l.take i ++ [x] := by
  rw [List.take_succ_eq_append_getElem (by simpa using h), List.take_set, List.set_eq_of_length_le (by simp; omega)]; simp
theorem set_drop {α : Type} (l : List α) (i : Nat) (x : α) : (l.set i x).drop (i + 1) = l.drop (i + 1) := by
  rw [List.drop_set]; simp

theorem draw_merge (k : Nat) (b : List Int) (hb : b.length ≤ 1048576) (hk : b.length < k) :
    ∃ old v a s, spec_DrawMerge.f k b = some (old, v, a, s) ∧ -1 ≤ old ∧ old ≤ 4294967296 ∧ -1 ≤ v ∧ v ≤ 4294967296 := by
  unfold spec_DrawMerge.f
  obtain ⟨h0, e0⟩ := new_ok k b hb hk
  rw [e0]; simp only [Option.bind_some]
  obtain ⟨s, i1, h1, e1, m1, c1⟩ := pick_ok b 0 h0 [0, 1, 2, 3] hb (by omega) (by simp)
  rw [e1]; simp only [Option.bind_some]
  obtain ⟨old, i2, h2, e2, a2, b2, c2⟩ := value_ok b i1 h1 2 hb c1
  rw [e2]; simp only [Option.bind_some]
  obtain ⟨v, i3, h3, e3, a3, b3, c3⟩ := value_ok b i2 h2 s hb c2
  rw [e3]; simp only [Option.bind_some]
  obtain ⟨a, i4, h4, e4, a4, b4, c4⟩ := below_ok b i3 h3 9 hb c3
  rw [e4]; simp only [Option.bind_some]
  exact ⟨_, _, _, _, rfl, a2, b2, a3, b3⟩
theorem strobes_four (a s : Int) (h : alignedM a s = true) : (strobesM a s).length = 4 := by unfold strobesM; rw [if_pos h]; simp
theorem strobes_none (a s : Int) (h : ¬ alignedM a s = true) : strobesM a s = [] := by unfold strobesM; rw [if_neg h]
theorem lane_used (k : Nat) (x3 x4 x5 x6 x7 : Int) (l : List Bool) (c i : Nat) (h4 : l.length = 4) (hi : i < 4) (hc : c ≤ 10) (hb : l[i]'(by omega) = true) :
    laws_FnMerged.l0 (k + 2) x3 x4 x5 x6 x7 l c i = laws_FnMerged.l0 k x3 x4 x5 x6 x7 l ((c + 1 : Nat) : Int) ((i + 1 : Nat) : Int) := by
  have e4 : (l.length : Int) = 4 := by omega
  have hr : rdOf false l (i : Int) = true := by rw [rdOf_nat _ _ _ (by omega)]; exact hb
  have w1 : wrap64 ((c : Int) + 1) = ((c + 1 : Nat) : Int) := by unfold wrap64; omega
  have w2 : wrap64 ((i : Int) + 1) = ((i + 1 : Nat) : Int) := by unfold wrap64; clear w1; omega
  rw [laws_FnMerged.l0, if_pos (show (i : Int) < 4 by clear w1 w2; omega), if_pos e4, if_pos (Int.natCast_nonneg _), e4, if_pos (show (i : Int) < 4 by clear w1 w2; omega), if_pos hr, laws_FnMerged.j2]
  simp only [Bool.false_eq_true, if_false]
  rw [if_pos (Int.natCast_nonneg _), e4, if_pos (show (i : Int) < 4 by clear w1 w2; omega), if_pos hr, w1, w2]
theorem lane_free (k : Nat) (x3 x4 x5 x6 x7 : Int) (l : List Bool) (c i : Nat) (h4 : l.length = 4) (hi : i < 4) (hb : l[i]'(by omega) = false)
    (he : Int.tmod (shr .i64 x7 ((8 * i : Nat) : Int)) 256 = Int.tmod (shr .i64 x3 ((8 * i : Nat) : Int)) 256) :
    laws_FnMerged.l0 (k + 2) x3 x4 x5 x6 x7 l c i = laws_FnMerged.l0 k x3 x4 x5 x6 x7 l c ((i + 1 : Nat) : Int) := by
  have e4 : (l.length : Int) = 4 := by omega
  have hr : ¬ rdOf false l (i : Int) = true := by rw [rdOf_nat _ _ _ (by omega), hb]; decide
  have w2 : wrap64 ((i : Int) + 1) = ((i + 1 : Nat) : Int) := by unfold wrap64; omega
  have w3 : wrap64 (8 * (i : Int)) = ((8 * i : Nat) : Int) := by unfold wrap64; clear w2; omega
  rw [laws_FnMerged.l0, if_pos (show (i : Int) < 4 by clear w2 w3; omega), if_pos e4, if_pos (Int.natCast_nonneg _), e4, if_pos (show (i : Int) < 4 by clear w2 w3; omega), if_neg hr, w3, if_pos (Int.natCast_nonneg _), he, laws_FnMerged.j2]
  simp only [bne_self_eq_false, Bool.false_eq_true, if_false]
  rw [if_pos (Int.natCast_nonneg _), e4, if_pos (show (i : Int) < 4 by clear w2 w3; omega), if_neg hr, w2]
theorem lanes_end (k : Nat) (x3 x4 a s x7 : Int) (l : List Bool) (c : Nat) (hc : (c : Int) = bytesM s) (ha : alignedM a s = true) (hv : Int.tmod (shr .i64 x7 ((8 * (a % 4).toNat : Nat) : Int)) (limitM s) = x4) :
    laws_FnMerged.l0 (k + 1) x3 x4 a s x7 l c ((4 : Nat) : Int) = some true := by
  have h0 : 0 ≤ a := by simp [alignedM] at ha; omega
  have hw3 : wrap64 (8 * (a % 4)) = ((8 * (a % 4).toNat : Nat) : Int) := by unfold wrap64; omega
  have hL : ¬ limitM s = 0 := by
    rcases lanes a s ha with ⟨_, rfl⟩ | ⟨_, rfl⟩ | ⟨_, rfl⟩ | ⟨_, rfl⟩ | ⟨_, rfl⟩ | ⟨_, rfl⟩ | ⟨_, rfl⟩ <;> simp [limit0, limit1, limit2]
  rw [laws_FnMerged.l0, if_neg (by decide), impl_bytes]; simp only [Option.bind_some]
  rw [if_pos hc, show Int.tmod a 4 = a % 4 from tmod_pos h0, hw3, if_pos (Int.natCast_nonneg _), impl_limit]; simp only [Option.bind_some]
  rw [if_neg hL, hv]; simp
theorem shr_nat (x : Int) (n : Nat) (h : n ≤ 24) : shr .i64 x (n : Int) = x / 2 ^ n := by rw [shr_at _ _ (by omega) (by omega), Int.toNat_natCast]
theorem merged_at (k : Nat) (old v a s m : Int) (ha : alignedM a s = true) (hm : a % 4 = m) (ho : 0 ≤ old ∧ old < 4294967296) (hv : 0 ≤ v ∧ v < limitM s) :
    laws_FnMerged.l0 (k + 9) old v a s (mergeM old v a s) (strobesM a s) 0 0 = some true := by
  have hM : mergeM old v a s = old - (old / 256 ^ (a % 4).toNat % limitM s) * 256 ^ (a % 4).toNat + v * 256 ^ (a % 4).toNat := by
    unfold mergeM; rw [if_pos ⟨ha, ho.1, ho.2, hv⟩]
  have hS : strobesM a s = (List.range 4).map fun (j : Nat) => decide (a % 4 ≤ (j : Int) ∧ (j : Int) ≤ a % 4 + bytesM s - 1) := by unfold strobesM; rw [if_pos ha]
  have p0 : (2 : Int) ^ (8 * 0) = 1 := by decide
  have p1 : (2 : Int) ^ (8 * 1) = 256 := by decide
  have p2 : (2 : Int) ^ (8 * 2) = 65536 := by decide
  have p3 : (2 : Int) ^ (8 * 3) = 16777216 := by decide
  have q0 : (256 : Int) ^ 0 = 1 := by decide
  have q1 : (256 : Int) ^ 1 = 256 := by decide
  have q2 : (256 : Int) ^ 2 = 65536 := by decide
  have q3 : (256 : Int) ^ 3 = 16777216 := by decide
  have hl := lanes a s ha
  rw [hm] at hl hM hS
  have key : ∀ (x : Int) (l : List Bool) (_ : mergeM old v a s = x) (_ : strobesM a s = l) (h4 : l.length = 4) (n0 n1 n2 n3 : Nat)
      (_ : (l[0]'(by omega) = true ∧ n0 = 1) ∨ (l[0]'(by omega) = false ∧ n0 = 0 ∧ x / 1 % 256 = old / 1 % 256)) (_ : (l[1]'(by omega) = true ∧ n1 = 1) ∨ (l[1]'(by omega) = false ∧ n1 = 0 ∧ x / 256 % 256 = old / 256 % 256))
      (_ : (l[2]'(by omega) = true ∧ n2 = 1) ∨ (l[2]'(by omega) = false ∧ n2 = 0 ∧ x / 65536 % 256 = old / 65536 % 256)) (_ : (l[3]'(by omega) = true ∧ n3 = 1) ∨ (l[3]'(by omega) = false ∧ n3 = 0 ∧ x / 16777216 % 256 = old / 16777216 % 256))
      (_ : 0 ≤ x) (_ : ((n0 + n1 + n2 + n3 : Nat) : Int) = bytesM s) (_ : x / 2 ^ (8 * m.toNat) % limitM s = v) (_ : 8 * m.toNat ≤ 24),
      laws_FnMerged.l0 (k + 9) old v a s (mergeM old v a s) (strobesM a s) 0 0 = some true := by
    intro x l hx hll h4 n0 n1 n2 n3 g0 g1 g2 g3 hx0 hc hvv hm24
    rw [hx, hll]
    have nn : ∀ (n : Nat), 0 ≤ x / 2 ^ n := fun n => Int.ediv_nonneg hx0 (Int.le_of_lt (Int.pow_pos (by decide)))
    have nn' : ∀ (n : Nat), 0 ≤ old / 2 ^ n := fun n => Int.ediv_nonneg ho.1 (Int.le_of_lt (Int.pow_pos (by decide)))
    have step : ∀ (k c i n : Nat) (hi : i < 4) (hc : c ≤ 10), ((l[i]'(by omega) = true ∧ n = 1) ∨ (l[i]'(by omega) = false ∧ n = 0 ∧ x / 2 ^ (8 * i) % 256 = old / 2 ^ (8 * i) % 256)) →
        laws_FnMerged.l0 (k + 2) old v a s x l (c : Int) (i : Int) = laws_FnMerged.l0 k old v a s x l ((c + n : Nat) : Int) ((i + 1 : Nat) : Int) := by
      intro k c i n hi hc g
      rcases g with ⟨g, rfl⟩ | ⟨g, rfl, ge⟩
      · exact lane_used k old v a s x l c i h4 hi hc g
      · exact lane_free k old v a s x l c i h4 hi g (by rw [shr_nat _ _ (by omega), shr_nat _ _ (by omega), Int.tmod_eq_emod_of_nonneg (nn _), Int.tmod_eq_emod_of_nonneg (nn' _)]; exact ge)
    have s0 := step (k + 7) 0 0 n0 (by omega) (by omega) (by rw [p0]; exact g0)
    have s1 := step (k + 5) (0 + n0) 1 n1 (by omega) (by omega) (by rw [p1]; exact g1)
    have s2 := step (k + 3) (0 + n0 + n1) 2 n2 (by omega) (by omega) (by rw [p2]; exact g2)
    have s3 := step (k + 1) (0 + n0 + n1 + n2) 3 n3 (by omega) (by omega) (by rw [p3]; exact g3)
    have fin := lanes_end k old v a s x l (0 + n0 + n1 + n2 + n3) (by rw [← hc]; congr 1; omega) ha (by rw [hm, shr_nat _ _ hm24, Int.tmod_eq_emod_of_nonneg (nn _)]; exact hvv)
    exact s0.trans (s1.trans (s2.trans (s3.trans fin)))
  have b0 : bytesM 0 = 1 := rfl
  have b1 : bytesM 1 = 2 := rfl
  have b2 : bytesM 2 = 4 := rfl
  have l0 := limit0
  have l1 := limit1
  have l2 := limit2
  rcases hl with ⟨rfl, rfl⟩ | ⟨rfl, rfl⟩ | ⟨rfl, rfl⟩ | ⟨rfl, rfl⟩ | ⟨rfl, rfl⟩ | ⟨rfl, rfl⟩ | ⟨rfl, rfl⟩
  · rw [l0] at hv hM
    simp only [Int.toNat_zero, q0] at hM
    exact key _ _ hM hS (by simp) 1 0 0 0 (.inl ⟨by simp [b0], rfl⟩) (.inr ⟨by simp [b0], rfl, by omega⟩) (.inr ⟨by simp [b0], rfl, by omega⟩) (.inr ⟨by simp [b0], rfl, by omega⟩) (by omega) (by rw [b0]; rfl) (by rw [l0, Int.toNat_zero, p0]; omega) (by decide)
  · rw [l0] at hv hM
    simp only [show (1 : Int).toNat = 1 from rfl, q1] at hM
    exact key _ _ hM hS (by simp) 0 1 0 0 (.inr ⟨by simp [b0], rfl, by omega⟩) (.inl ⟨by simp [b0], rfl⟩) (.inr ⟨by simp [b0], rfl, by omega⟩) (.inr ⟨by simp [b0], rfl, by omega⟩) (by omega) (by rw [b0]; rfl) (by rw [l0, show (1 : Int).toNat = 1 from rfl, p1]; omega) (by decide)
  · rw [l0] at hv hM
    simp only [show (2 : Int).toNat = 2 from rfl, q2] at hM
    exact key _ _ hM hS (by simp) 0 0 1 0 (.inr ⟨by simp [b0], rfl, by omega⟩) (.inr ⟨by simp [b0], rfl, by omega⟩) (.inl ⟨by simp [b0], rfl⟩) (.inr ⟨by simp [b0], rfl, by omega⟩) (by omega) (by rw [b0]; rfl) (by rw [l0, show (2 : Int).toNat = 2 from rfl, p2]; omega) (by decide)
  · rw [l0] at hv hM
    simp only [show (3 : Int).toNat = 3 from rfl, q3] at hM
    exact key _ _ hM hS (by simp) 0 0 0 1 (.inr ⟨by simp [b0], rfl, by omega⟩) (.inr ⟨by simp [b0], rfl, by omega⟩) (.inr ⟨by simp [b0], rfl, by omega⟩) (.inl ⟨by simp [b0], rfl⟩) (by omega) (by rw [b0]; rfl) (by rw [l0, show (3 : Int).toNat = 3 from rfl, p3]; omega) (by decide)
  · rw [l1] at hv hM
    simp only [Int.toNat_zero, q0] at hM
    exact key _ _ hM hS (by simp) 1 1 0 0 (.inl ⟨by simp [b1], rfl⟩) (.inl ⟨by simp [b1], rfl⟩) (.inr ⟨by simp [b1], rfl, by omega⟩) (.inr ⟨by simp [b1], rfl, by omega⟩) (by omega) (by rw [b1]; rfl) (by rw [l1, Int.toNat_zero, p0]; omega) (by decide)
  · rw [l1] at hv hM
    simp only [show (2 : Int).toNat = 2 from rfl, q2] at hM
    exact key _ _ hM hS (by simp) 0 0 1 1 (.inr ⟨by simp [b1], rfl, by omega⟩) (.inr ⟨by simp [b1], rfl, by omega⟩) (.inl ⟨by simp [b1], rfl⟩) (.inl ⟨by simp [b1], rfl⟩) (by omega) (by rw [b1]; rfl) (by rw [l1, show (2 : Int).toNat = 2 from rfl, p2]; omega) (by decide)
  · rw [l2] at hv hM
    simp only [Int.toNat_zero, q0] at hM
    exact key _ _ hM hS (by simp) 1 1 1 1 (.inl ⟨by simp [b2], rfl⟩) (.inl ⟨by simp [b2], rfl⟩) (.inl ⟨by simp [b2], rfl⟩) (.inl ⟨by simp [b2], rfl⟩) (by omega) (by rw [b2]; rfl) (by rw [l2, Int.toNat_zero, p0]; omega) (by decide)
theorem FnMerged : laws_FnMerged.Pure := by
  intro b _ _ _
  refine ⟨1048600 + 20, ?_⟩
  generalize hk : 1048600 = k
  unfold laws_FnMerged.f laws_big.f; simp only [Option.bind_some]
  by_cases hb : (b.length : Int) > 1048576
  · rw [decide_eq_true hb]; simp
  · rw [decide_eq_false hb]; simp only [Bool.false_eq_true, if_false]
    obtain ⟨old, v, a, s, e, o1, o2, v1, v2⟩ := draw_merge (k + 20) b (by omega) (by omega)
    rw [e]; simp only [Option.bind_some]
    rw [impl_merge, spec_merge]; simp only [Option.bind_some, if_true]
    rw [impl_strobes (k + 15) a s]; simp only [Option.bind_some]
    have bad : mergeM old v a s = old → laws_FnMerged.j0 (k + 19 + 1) old v a s (mergeM old v a s) (strobesM a s) true = some true := by
      intro hm
      rw [laws_FnMerged.j0]; simp only [if_true]; rw [if_pos hm]
      by_cases ha : alignedM a s = true
      · rw [if_pos (by rw [strobes_four a s ha]; rfl)]
      · rw [if_neg (by rw [strobes_none a s ha]; decide), spec_strobes (k + 14) a s]; simp only [Option.bind_some]
        rw [strobes_none a s ha]; rfl
    by_cases ha : alignedM a s = true
    · have hlen := strobes_four a s ha
      rw [if_neg (by rw [hlen]; decide)]
      by_cases h1 : old < 0
      · rw [if_pos h1]; exact bad (by unfold mergeM; rw [if_neg (fun hh => by have := hh.2.1; omega)])
      · rw [if_neg h1, impl_limit]; simp only [Option.bind_some]
        by_cases h2 : old ≥ limitM 2
        · rw [if_pos h2]; exact bad (by unfold mergeM; rw [if_neg (fun hh => by have := hh.2.2.1; rw [limit2] at h2; omega)])
        · rw [if_neg h2]; rw [limit2] at h2
          by_cases h3 : v < 0
          · rw [if_pos h3]; exact bad (by unfold mergeM; rw [if_neg (fun hh => by have := hh.2.2.2.1; omega)])
          · rw [if_neg h3, impl_limit]; simp only [Option.bind_some]
            by_cases h4 : v ≥ limitM s
            · rw [decide_eq_true h4]; exact bad (by unfold mergeM; rw [if_neg (fun hh => by have := hh.2.2.2.2; omega)])
            · rw [decide_eq_false h4, laws_FnMerged.j0]; simp only [Bool.false_eq_true, if_false]
              exact merged_at (k + 10) old v a s _ ha rfl (by omega) (by omega)
    · rw [if_pos (by rw [strobes_none a s ha]; rfl)]
      exact bad (by unfold mergeM; rw [if_neg (fun hh => ha hh.1)])

end Go.Proofs.Ytbljihnmljcgiaa.Pure
