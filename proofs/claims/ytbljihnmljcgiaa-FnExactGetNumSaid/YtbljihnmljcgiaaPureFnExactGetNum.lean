/- The program's GetNum answers as the reference's and leaves its argument alone, for every memory and two ints. -/
import Derived.Test.YtbljihnmljcgiaaMFnExactGetNumx
namespace Go.Proofs.Ytbljihnmljcgiaa.Pure
open Go.RowKit Go.Proofs.Ytbljihnmljcgiaa.MFnExactGetNum Go.Proofs.YtbljihnmljcgiaaW.PrintWords Go.Proofs.YtbljihnmljcgiaaW.PrintLast Go.Proofs.YtbljihnmljcgiaaW.PrintMore
set_option linter.unusedVariables false
set_option linter.unusedSimpArgs false
set_option maxHeartbeats 4000000

/-- How many bytes a size has. -/
def bytesM (s : Int) : Int := if s = 0 then 1 else if s = 1 then 2 else if s = 2 then 4 else 0
theorem bytesM_cases (s : Int) : (s = 0 ∧ bytesM s = 1) ∨ (s = 1 ∧ bytesM s = 2) ∨ (s = 2 ∧ bytesM s = 4) ∨ (¬ (0 ≤ s ∧ s ≤ 2) ∧ bytesM s = 0) := by
  unfold bytesM; split
  · left; omega
  · split
    · right; left; omega
    · split
      · right; right; left; omega
      · right; right; right; omega
theorem shl_1_0 : shl .i64 1 0 = 1 := by decide
theorem shl_1_1 : shl .i64 1 1 = 2 := by decide
theorem shl_1_2 : shl .i64 1 2 = 4 := by decide

/-- An address fits a size. -/
def alignedM (a s : Int) : Bool := decide (0 ≤ a ∧ 0 ≤ s ∧ s ≤ 2 ∧ a % bytesM s = 0)
theorem tmod_pos {a b : Int} (h : 0 ≤ a) : Int.tmod a b = a % b := Int.tmod_eq_emod_of_nonneg h

/-- How many numbers a size has. -/
def limitM (s : Int) : Int := if s = 0 then 256 else if s = 1 then 65536 else if s = 2 then 4294967296 else 0
theorem limitM_cases (s : Int) : (s = 0 ∧ bytesM s = 1 ∧ limitM s = 256) ∨ (s = 1 ∧ bytesM s = 2 ∧ limitM s = 65536) ∨ (s = 2 ∧ bytesM s = 4 ∧ limitM s = 4294967296) ∨ (¬ (0 ≤ s ∧ s ≤ 2) ∧ bytesM s = 0 ∧ limitM s = 0) := by
  unfold limitM bytesM; split
  · left; omega
  · split
    · right; left; omega
    · split
      · right; right; left; omega
      · right; right; right; omega
theorem shl_1_8 : shl .i64 1 8 = 256 := by decide
theorem shl_1_16 : shl .i64 1 16 = 65536 := by decide
theorem shl_1_32 : shl .i64 1 32 = 4294967296 := by decide
theorem wrap64_8_1 : wrap64 8 = 8 := by unfold wrap64; omega
theorem wrap64_8_2 : wrap64 16 = 16 := by unfold wrap64; omega
theorem wrap64_8_4 : wrap64 32 = 32 := by unfold wrap64; omega

theorem wf_of {a : Int} (h : (Lit.int .i64 a).wf = true) : -9223372036854775808 ≤ a ∧ a ≤ 9223372036854775807 := by
  simp [Lit.wf, IntKind.min, IntKind.max, IntKind.signed, IntKind.bits] at h; omega
theorem pow_le_i (b i j : Nat) (h0 : 0 < b) (h : i ≤ j) : (b : Int) ^ i ≤ (b : Int) ^ j := by
  have h1 := Nat.pow_le_pow_right h0 h
  have h2 : ((b ^ i : Nat) : Int) ≤ ((b ^ j : Nat) : Int) := Int.ofNat_le.2 h1
  rwa [Int.natCast_pow, Int.natCast_pow] at h2
theorem wrap64_id {a : Int} (h0 : -9223372036854775808 ≤ a) (h1 : a ≤ 9223372036854775807) : wrap64 a = a := by unfold wrap64; omega

theorem wrap_succ {i n : Nat} (h : i < n) (hn : n ≤ 1099511627776) : wrap64 ((i : Int) + 1) = ((i + 1 : Nat) : Int) := by unfold wrap64; omega
theorem rd_nat (l : List Int) (i : Nat) (h : i < l.length) : rd l (i : Int) = l[i] := by
  unfold rd; simp [List.getD_eq_getElem?_getD, List.getElem?_eq_getElem h]
theorem rdOf_nat {α : Type} (d : α) (l : List α) (i : Nat) (h : i < l.length) : rdOf d l (i : Int) = l[i] := by
  unfold rdOf; simp [List.getD_eq_getElem?_getD, List.getElem?_eq_getElem h]
theorem set_take {α : Type} (l : List α) (i : Nat) (x : α) (h : i < l.length) : (l.set i x).take (i + 1) = l.take i ++ [x] := by
  rw [List.take_succ_eq_append_getElem (by simpa using h), List.take_set, List.set_eq_of_length_le (by simp; omega)]; simp
theorem set_drop {α : Type} (l : List α) (i : Nat) (x : α) : (l.set i x).drop (i + 1) = l.drop (i + 1) := by
  rw [List.drop_set]; simp

def byteM (x : Int) : Bool := decide (0 ≤ x ∧ x ≤ 255)
/-- A memory is valid and a number fits at an address. -/
def fitsM (l : List Int) (a s : Int) : Bool := decide ((l.length : Int) ≤ 512) && l.all byteM && alignedM a s && decide (a ≤ (l.length : Int) - bytesM s)
theorem fitsM_iff (l : List Int) (a s : Int) : fitsM l a s = true ↔ l.length ≤ 512 ∧ (∀ x ∈ l, 0 ≤ x ∧ x ≤ 255) ∧ alignedM a s = true ∧ a + bytesM s ≤ l.length := by
  unfold fitsM; simp [byteM]; constructor
  · rintro ⟨⟨⟨h1, h2⟩, h3⟩, h4⟩; exact ⟨by omega, h2, h3, by omega⟩
  · rintro ⟨h1, h2, h3, h4⟩; exact ⟨⟨⟨by omega, h2⟩, h3⟩, by omega⟩
theorem bytesM_le4 (s : Int) : 0 ≤ bytesM s ∧ bytesM s ≤ 4 := by
  rcases bytesM_cases s with ⟨_, h⟩ | ⟨_, h⟩ | ⟨_, h⟩ | ⟨h', h⟩ <;> omega
/-- The number of so many bytes from a place on, the least significant first. -/
def leM (l : List Int) (a : Nat) : Nat → Int
  | 0 => 0
  | n + 1 => leM l a n + rd l ((a + n : Nat) : Int) * 256 ^ n
theorem rd_byte (l : List Int) (h : ∀ x ∈ l, 0 ≤ x ∧ x ≤ 255) (i : Nat) (hi : i < l.length) : 0 ≤ rd l (i : Int) ∧ rd l (i : Int) ≤ 255 := by
  rw [rd_nat _ _ hi]; exact h _ (List.getElem_mem hi)
theorem leM_bound (l : List Int) (h : ∀ x ∈ l, 0 ≤ x ∧ x ≤ 255) (a n : Nat) (hn : a + n ≤ l.length) : 0 ≤ leM l a n ∧ leM l a n < 256 ^ n := by
  induction n with
  | zero => exact ⟨Int.le_refl _, by simp [leM]⟩
  | succ n ih =>
    have hi := ih (by omega)
    have hb := rd_byte l h (a + n) (by omega)
    have hp : (0 : Int) < 256 ^ n := Int.pow_pos (by decide)
    have h1 : 0 ≤ rd l ((a + n : Nat) : Int) * 256 ^ n := Int.mul_nonneg hb.1 (Int.le_of_lt hp)
    have h2 : rd l ((a + n : Nat) : Int) * 256 ^ n ≤ 255 * 256 ^ n := Int.mul_le_mul_of_nonneg_right hb.2 (Int.le_of_lt hp)
    simp only [leM, Int.pow_succ]; omega
/-- So many bytes of a number, laid from a place on. -/
def putM (l : List Int) (a : Nat) (v : Int) : Nat → List Int
  | 0 => l
  | n + 1 => (putM l a v n).set (a + n) (v / 256 ^ n % 256)
theorem putM_length (l : List Int) (a : Nat) (v : Int) (n : Nat) : (putM l a v n).length = l.length := by
  induction n with
  | zero => rfl
  | succ n ih => simp [putM, ih]

theorem spec_in (a b c : Int) : spec_l1In.f a b c = some (decide (b ≤ a ∧ a ≤ c)) := by
  unfold spec_l1In.f; by_cases h : b ≤ a
  · rw [if_pos h]; simp [h]
  · rw [if_neg h]; simp [h]

theorem spec_bytes_loop (l : List Int) (hl : l.length ≤ 1099511627776) (d : Nat) : ∀ (k i : Nat), i + d = l.length → d < k →
    spec_l4Bytes.l0 k l i = some ((l.drop i).all byteM && decide ((l.length : Int) ≤ 512)) := by
  induction d with
  | zero =>
    intro k i hi hk
    obtain ⟨k, rfl⟩ : ∃ m, k = m + 1 := ⟨k - 1, by omega⟩
    have h : ¬ (i : Int) < (l.length : Int) := by omega
    simp only [spec_l4Bytes.l0]; rw [if_neg h, List.drop_eq_nil_of_le (by omega)]; simp
  | succ d ih =>
    intro k i hi hk
    obtain ⟨k, rfl⟩ : ∃ m, k = m + 1 := ⟨k - 1, by omega⟩
    have h : (i : Int) < (l.length : Int) := by omega
    have h0 : (0 : Int) ≤ (i : Int) := by omega
    have hil : i < l.length := by omega
    simp only [spec_l4Bytes.l0]; rw [if_pos h, if_pos h0, spec_in, wrap_succ (n := l.length) (by omega) hl, ih k (i + 1) (by omega) (by omega), rd_nat _ _ hil, List.drop_eq_getElem_cons hil]
    simp only [List.all_cons, Option.bind_some]
    cases e : byteM l[i] with
    | true => have e' : decide (0 ≤ l[i] ∧ l[i] ≤ 255) = true := e; rw [if_pos e']; simp
    | false => have e' : decide (0 ≤ l[i] ∧ l[i] ≤ 255) = false := e; rw [e']; simp
theorem spec_bytes_all (k : Nat) (l : List Int) (hl : l.length ≤ 1099511627776) (hk : l.length < k) : spec_l4Bytes.f k l = some (l.all byteM && decide ((l.length : Int) ≤ 512)) := by
  unfold spec_l4Bytes.f
  have := spec_bytes_loop l hl l.length k 0 (by omega) hk
  simpa using this
theorem wrap_len (l : List Int) (hl : l.length ≤ 1099511627776) (s : Int) : wrap64 ((l.length : Int) - bytesM s) = (l.length : Int) - bytesM s := by
  have := bytesM_le4 s; unfold wrap64; omega

theorem spec_bytes (s : Int) : spec_BytesOf.f s = some (bytesM s) := by
  unfold spec_BytesOf.f; rw [spec_in]
  rcases bytesM_cases s with ⟨rfl, h⟩ | ⟨rfl, h⟩ | ⟨rfl, h⟩ | ⟨h0, h⟩
  · rfl
  · rfl
  · rfl
  · rw [h]; simp [h0]

theorem spec_aligned (a s : Int) : spec_Aligned.f a s = some (alignedM a s) := by
  unfold spec_Aligned.f alignedM; rw [spec_bytes]
  by_cases ha : 0 ≤ a
  · rcases bytesM_cases s with ⟨rfl, h⟩ | ⟨rfl, h⟩ | ⟨rfl, h⟩ | ⟨h0, h⟩
    · rw [h]; simp [ha]
    · rw [h]; simp [ha, tmod_pos ha]; rfl
    · rw [h]; simp [ha, tmod_pos ha]; rfl
    · rw [h]; simp; intros; omega
  · rcases bytesM_cases s with ⟨rfl, h⟩ | ⟨rfl, h⟩ | ⟨rfl, h⟩ | ⟨h0, h⟩ <;> rw [h] <;> simp [ha]

theorem spec_fits (k : Nat) (l : List Int) (a s : Int) (hl : l.length ≤ 1099511627776) (hk : l.length < k) : spec_l4Fits.f k l a s = some (fitsM l a s) := by
  unfold spec_l4Fits.f fitsM; rw [spec_bytes_all k l hl hk, spec_aligned, spec_bytes]; simp only [Option.bind_some]
  rw [wrap_len l hl]
  cases l.all byteM <;> cases alignedM a s <;> by_cases h : (l.length : Int) ≤ 512 <;> simp [h]

theorem spec_get_loop (l : List Int) (hb : ∀ x ∈ l, 0 ≤ x ∧ x ≤ 255) (hl : l.length ≤ 512) (a : Nat) (d : Nat) : ∀ (k : Nat) (v : Int), d ≤ 4 → a + d ≤ l.length → 0 ≤ v → v < 256 ^ (4 - d) → d < k →
    spec_GetNum.l0 k l (a : Int) v ((d : Int) - 1) = some (v * 256 ^ d + leM l a d, true) := by
  induction d with
  | zero =>
    intro k v _ _ h0 h1 hk
    obtain ⟨k, rfl⟩ : ∃ m, k = m + 1 := ⟨k - 1, by omega⟩
    simp only [spec_GetNum.l0]; rw [if_neg (by omega)]; simp [leM]
  | succ d ih =>
    intro k v hd ha h0 h1 hk
    obtain ⟨k, rfl⟩ : ∃ m, k = m + 1 := ⟨k - 1, by omega⟩
    have e : ((d + 1 : Nat) : Int) - 1 = (d : Int) := by omega
    have hr := rd_byte l hb (a + d) (by omega)
    have hw1 : wrap64 ((a : Int) + (d : Int)) = ((a + d : Nat) : Int) := by unfold wrap64; omega
    have hp : (256 : Int) ^ (4 - (d + 1)) ≤ 256 ^ 3 := pow_le_i 256 (4 - (d + 1)) 3 (by decide) (by omega)
    have hp3 : (256 : Int) ^ 3 = 16777216 := by decide
    have hw2 : wrap64 (v * 256) = v * 256 := wrap64_id (by omega) (by omega)
    have hw3 : wrap64 (v * 256 + rd l ((a + d : Nat) : Int)) = v * 256 + rd l ((a + d : Nat) : Int) := wrap64_id (by omega) (by omega)
    have hw4 : wrap64 ((d : Int) - 1) = (d : Int) - 1 := wrap64_id (by omega) (by omega)
    have hps : (256 : Int) ^ (4 - d) = 256 ^ (4 - (d + 1)) * 256 := by rw [← Int.pow_succ]; congr 1; omega
    rw [e]; simp only [spec_GetNum.l0]
    rw [if_pos (show (d : Int) ≥ 0 by omega), hw1, if_pos (by omega), if_pos (by omega), hw2, hw3, hw4, ih k _ (by omega) (by omega) (by omega) (by rw [hps]; omega) (by omega)]
    congr 2
    simp only [leM, Int.pow_succ, Int.add_mul]
    rw [Int.mul_assoc v 256, Int.mul_comm 256 (256 ^ d)]; omega
theorem spec_get (k : Nat) (l : List Int) (a s : Int) (hl : l.length ≤ 1099511627776) (hk : l.length < k) (hk5 : 5 < k) :
    spec_GetNum.f k l a s = some (if fitsM l a s = true then (leM l a.toNat (bytesM s).toNat, true) else (0, false)) := by
  unfold spec_GetNum.f; rw [spec_fits k l a s hl hk, spec_bytes]; simp only [Option.bind_some]
  by_cases h : fitsM l a s = true
  · obtain ⟨h1, h2, h3, h4⟩ := (fitsM_iff l a s).1 h
    have ha : 0 ≤ a := by simp [alignedM] at h3; omega
    have hb := bytesM_le4 s
    have hw : wrap64 (bytesM s - 1) = ((bytesM s).toNat : Int) - 1 := by unfold wrap64; omega
    rw [if_pos h, if_pos h, hw]
    have := spec_get_loop l h2 h1 a.toNat (bytesM s).toNat k 0 (by omega) (by omega) (by omega) (Int.pow_pos (by decide)) (by omega)
    rw [show ((a.toNat : Nat) : Int) = a by omega] at this
    rw [this]; simp
  · rw [if_neg h, if_neg h]

theorem impl_in (a b c : Int) : impl_within.f a b c = some (decide (b ≤ a ∧ a ≤ c)) := by
  unfold impl_within.f; by_cases h : b ≤ a
  · rw [if_pos h]; simp [h]
  · rw [if_neg h]; simp [h]

theorem impl_fits_one (x : Int) : impl_fits_1.f x = some (!byteM x) := by unfold impl_fits_1.f; rw [impl_in]; rfl
theorem impl_idx_loop (l : List Int) (hl : l.length ≤ 1099511627776) (d : Nat) : ∀ (k i : Nat), i + d = l.length → d < k →
    ∃ r, slices_IndexFunc_at_impl_fits_1.l0 k l (l.length : Int) i = some r ∧ decide (r ≥ 0) = !(l.drop i).all byteM := by
  induction d with
  | zero =>
    intro k i hi hk
    obtain ⟨k, rfl⟩ : ∃ m, k = m + 1 := ⟨k - 1, by omega⟩
    have h : ¬ (i : Int) < (l.length : Int) := by omega
    exact ⟨-1, by simp only [slices_IndexFunc_at_impl_fits_1.l0]; rw [if_neg h], by rw [List.drop_eq_nil_of_le (by omega)]; rfl⟩
  | succ d ih =>
    intro k i hi hk
    obtain ⟨k, rfl⟩ : ∃ m, k = m + 1 := ⟨k - 1, by omega⟩
    have h : (i : Int) < (l.length : Int) := by omega
    have h0 : (0 : Int) ≤ (i : Int) := by omega
    have hil : i < l.length := by omega
    obtain ⟨r, h1, h2⟩ := ih k (i + 1) (by omega) (by omega)
    simp only [slices_IndexFunc_at_impl_fits_1.l0]; rw [if_pos h, if_pos h0, if_pos h, impl_fits_one, wrap_succ (n := l.length) (by omega) hl, rd_nat _ _ hil, List.drop_eq_getElem_cons hil]
    simp only [List.all_cons, Option.bind_some]
    cases e : byteM l[i] with
    | true => exact ⟨r, by simpa using h1, by simpa using h2⟩
    | false => exact ⟨(i : Int), by simp, by simp⟩
theorem impl_contains (k : Nat) (l : List Int) (hl : l.length ≤ 1099511627776) (hk : l.length < k) : slices_ContainsFunc_at_impl_fits_1.f k l = some (!l.all byteM) := by
  unfold slices_ContainsFunc_at_impl_fits_1.f slices_IndexFunc_at_impl_fits_1.f
  obtain ⟨r, h1, h2⟩ := impl_idx_loop l hl l.length k 0 (by omega) hk
  rw [show ((0 : Nat) : Int) = 0 from rfl] at h1
  rw [h1]; simp only [Option.bind_some]; rw [h2]; simp

theorem impl_bytes (s : Int) : impl_BytesOf.f s = some (bytesM s) := by
  unfold impl_BytesOf.f; rw [impl_in]
  rcases bytesM_cases s with ⟨rfl, h⟩ | ⟨rfl, h⟩ | ⟨rfl, h⟩ | ⟨h0, h⟩
  · rfl
  · rfl
  · rfl
  · rw [h]; simp [h0]

theorem impl_aligned (a s : Int) : impl_Aligned.f a s = some (alignedM a s) := by
  unfold impl_Aligned.f alignedM; rw [impl_in, impl_bytes]
  by_cases ha : 0 ≤ a
  · rcases bytesM_cases s with ⟨rfl, h⟩ | ⟨rfl, h⟩ | ⟨rfl, h⟩ | ⟨h0, h⟩
    · rw [h]; simp [ha]
    · rw [h]; simp [ha, tmod_pos ha]; rfl
    · rw [h]; simp [ha, tmod_pos ha]; rfl
    · rw [h]; simp [h0]; intros; omega
  · rcases bytesM_cases s with ⟨rfl, h⟩ | ⟨rfl, h⟩ | ⟨rfl, h⟩ | ⟨h0, h⟩ <;> rw [h] <;> simp [ha]

theorem impl_fits_is (k : Nat) (l : List Int) (a s : Int) (hl : l.length ≤ 1099511627776) (hk : l.length < k) : impl_fits.f k l a s = some (fitsM l a s) := by
  have hw : wrap64 ((l.length : Int) - bytesM s) = (l.length : Int) - bytesM s := by have := bytesM_le4 s; unfold wrap64; omega
  unfold impl_fits.f fitsM
  by_cases h : (l.length : Int) ≤ 512
  · rw [if_pos h, impl_contains k l hl hk, impl_aligned, impl_bytes]; simp only [Option.bind_some]
    rw [hw]
    cases l.all byteM <;> cases alignedM a s <;> simp [h]
  · rw [if_neg h]; simp [h]

theorem wraps_i64 (n : Int) (h₀ : 0 ≤ n) (h₁ : n < 2 ^ 63) : IntKind.i64.wrap n = n := by rw [IntKind.wrap_i64]; omega
theorem and_mask (i : Nat) (hi : i ≤ 63) (x : Int) (h₀ : 0 ≤ x) (h₁ : x ≤ 9223372036854775807) : Go.bits .and .i64 x (2 ^ i - 1) = x % 2 ^ i :=
  bits_mask .i64 63 (by decide) wraps_i64 i hi x h₀ (by omega)
theorem or_join (i : Nat) (x y : Int) (hx₀ : 0 ≤ x) (hx : x % 2 ^ i = 0) (hx₁ : x ≤ 9223372036854775807) (hy₀ : 0 ≤ y) (hy : y < 2 ^ i) (hy₁ : y ≤ 9223372036854775807) : Go.bits .or .i64 x y = x + y :=
  bits_join .i64 63 (by decide) wraps_i64 i x y hx₀ hx (by omega) hy₀ hy (by omega)
theorem i64wrap_id {a : Int} (h0 : -9223372036854775808 ≤ a) (h1 : a ≤ 9223372036854775807) : IntKind.i64.wrap a = a := by rw [IntKind.wrap_i64]; omega
theorem and255 {x : Int} (h₀ : 0 ≤ x) (h₁ : x ≤ 9223372036854775807) : Go.bits .and .i64 x 255 = x % 256 := and_mask 8 (by decide) x h₀ h₁
theorem and127 {x : Int} (h₀ : 0 ≤ x) (h₁ : x ≤ 9223372036854775807) : Go.bits .and .i64 x 127 = x % 128 := and_mask 7 (by decide) x h₀ h₁
theorem or_comm_i64 (x y : Int) : Go.bits .or .i64 x y = Go.bits .or .i64 y x := by
  simp only [Go.bits, BitVec.or_comm]

theorem wrap_small (x : Int) (n : Nat) (h : x = n) (hn : n ≤ 4294967296) : wrap64 x = (n : Int) := by subst h; exact wrap64_id (by omega) (by omega)
theorem impl_get_loop (l : List Int) (hb : ∀ x ∈ l, 0 ≤ x ∧ x ≤ 255) (hl : l.length ≤ 512) (a n : Nat) (hn : n ≤ 4) (ha : a + n ≤ l.length) (d : Nat) : ∀ (k i : Nat), i + d = n → d < k →
    impl_GetNum.l0 k l (a : Int) (leM l a i) (n : Int) i = some (leM l a n, true) := by
  induction d with
  | zero =>
    intro k i hi hk
    obtain ⟨k, rfl⟩ : ∃ m, k = m + 1 := ⟨k - 1, by omega⟩
    obtain rfl : i = n := by omega
    simp only [impl_GetNum.l0]; rw [if_neg (by omega)]
  | succ d ih =>
    intro k i hi hk
    obtain ⟨k, rfl⟩ : ∃ m, k = m + 1 := ⟨k - 1, by omega⟩
    have hi3 : i ≤ 3 := by omega
    have ha5 : a ≤ 512 := by omega
    have hin : (i : Int) < (n : Int) := by omega
    have hal : ((a + i : Nat) : Int) < (l.length : Int) := by omega
    have hnx : i + 1 + d = n := by omega
    have hkd : d < k := by omega
    have h8 : 8 * i ≤ 64 := by omega
    have hw1 : wrap64 ((a : Int) + (i : Int)) = ((a + i : Nat) : Int) := wrap_small _ _ (by omega) (by omega)
    have hw2 : wrap64 (8 * (i : Int)) = ((8 * i : Nat) : Int) := wrap_small _ _ (by clear hw1; omega) (by clear hw1; omega)
    have hw3 : wrap64 ((i : Int) + 1) = ((i + 1 : Nat) : Int) := wrap_small _ _ (by clear hw1 hw2; omega) (by clear hw1 hw2; omega)
    have hr := rd_byte l hb (a + i) (by clear hw1 hw2 hw3; omega)
    have hle := leM_bound l hb a i (by clear hw1 hw2 hw3 hr; omega)
    have hp : (256 : Int) ^ i ≤ 256 ^ 3 := pow_le_i 256 i 3 (by decide) hi3
    have hp1 : (0 : Int) < 256 ^ i := Int.pow_pos (by decide)
    have hp3 : (256 : Int) ^ 3 = 16777216 := by decide
    have hm1 : 0 ≤ rd l ((a + i : Nat) : Int) * 256 ^ i := Int.mul_nonneg hr.1 (Int.le_of_lt hp1)
    have hm2 : rd l ((a + i : Nat) : Int) * 256 ^ i ≤ 255 * 256 ^ i := Int.mul_le_mul_of_nonneg_right hr.2 (Int.le_of_lt hp1)
    have hmb : rd l ((a + i : Nat) : Int) * 256 ^ i ≤ 4278190080 := by rw [hp3] at hp; clear hw1 hw2 hw3; omega
    have hlb : leM l a i ≤ 4278190080 := by rw [hp3] at hp; clear hw1 hw2 hw3 hmb hm1 hm2; omega
    clear hp hp3 hm2
    have h2 : (2 : Int) ^ (8 * i) = 256 ^ i := by rw [Int.pow_mul, show (2 : Int) ^ 8 = 256 from by decide]
    have hs : shl .i64 (rd l ((a + i : Nat) : Int)) ((8 * i : Nat) : Int) = rd l ((a + i : Nat) : Int) * 256 ^ i := by
      unfold shl; rw [Int.toNat_natCast, Nat.min_eq_left (show 8 * i ≤ IntKind.i64.bits from h8), h2]
      exact i64wrap_id (Int.le_trans (by decide) hm1) (Int.le_trans hmb (by decide))
    have ho : Go.bits .or .i64 (leM l a i) (rd l ((a + i : Nat) : Int) * 256 ^ i) = leM l a (i + 1) := by
      rw [or_comm_i64, or_join (8 * i) _ _ hm1 (by rw [h2]; exact Int.mul_emod_left _ _) (Int.le_trans hmb (by decide)) hle.1 (by rw [h2]; exact hle.2) (Int.le_trans hlb (by decide))]
      simp only [leM]; exact Int.add_comm _ _
    simp only [impl_GetNum.l0]
    rw [if_pos hin, hw1, if_pos (Int.natCast_nonneg _), if_pos hal, hw2, if_pos (Int.natCast_nonneg _), hs, ho, hw3]
    exact ih k (i + 1) hnx hkd
theorem impl_get (k : Nat) (l : List Int) (a s : Int) (hl : l.length ≤ 1099511627776) (hk : l.length < k) (hk5 : 5 < k) :
    impl_GetNum.f k l a s = some (if fitsM l a s = true then (leM l a.toNat (bytesM s).toNat, true) else (0, false)) := by
  unfold impl_GetNum.f; rw [impl_fits_is k l a s hl hk, impl_bytes]; simp only [Option.bind_some]
  by_cases h : fitsM l a s = true
  · obtain ⟨h1, h2, h3, h4⟩ := (fitsM_iff l a s).1 h
    have ha : 0 ≤ a := by simp [alignedM] at h3; omega
    have hb := bytesM_le4 s
    rw [if_pos h, if_pos h]
    have := impl_get_loop l h2 h1 a.toNat (bytesM s).toNat (by omega) (by omega) (bytesM s).toNat k 0 (by omega) (by omega)
    rw [show ((a.toNat : Nat) : Int) = a by omega, show (((bytesM s).toNat : Nat) : Int) = bytesM s by omega] at this
    exact this
  · rw [if_neg h, if_neg h]

theorem toIntS_loop (l : List Int) (hl : l.length ≤ 1099511627776) (d : Nat) : ∀ (k : Nat) (o : List Int) (i : Nat), o.length = l.length → i + d = l.length → o.take i = l.take i → d < k → laws_toIntS.l0 k l o i = some l := by
  induction d with
  | zero =>
    intro k o i ho hi he hk
    obtain ⟨k, rfl⟩ : ∃ m, k = m + 1 := ⟨k - 1, by omega⟩
    have h : ¬ (i : Int) < (l.length : Int) := by omega
    simp only [laws_toIntS.l0]; rw [if_neg h]
    rw [List.take_of_length_le (by omega), List.take_of_length_le (by omega)] at he
    rw [he]
  | succ d ih =>
    intro k o i ho hi he hk
    obtain ⟨k, rfl⟩ : ∃ m, k = m + 1 := ⟨k - 1, by omega⟩
    have h : (i : Int) < (l.length : Int) := by omega
    have h' : (i : Int) < (o.length : Int) := by omega
    have h0 : (0 : Int) ≤ (i : Int) := by omega
    have hil : i < l.length := by omega
    simp only [laws_toIntS.l0]; rw [if_pos h, if_pos h0, if_pos h', wrap_succ (n := l.length) (by omega) hl, Int.toNat_natCast, rd_nat _ _ hil]
    refine ih k _ (i + 1) (by simpa using ho) (by omega) ?_ (by omega)
    rw [set_take _ _ _ (by omega), he, List.take_succ_eq_append_getElem hil]
theorem toIntS_all (k : Nat) (l : List Int) (hl : l.length ≤ 1099511627776) (hk : l.length < k) : laws_toIntS.f k l = some l := by
  unfold laws_toIntS.f
  have h0 : (0 : Int) ≤ (l.length : Int) := by omega
  have h1 : ((l.length : Int)).toNat ≤ 35184372088832 := by omega
  rw [if_pos h0, if_pos h1]
  exact toIntS_loop l hl l.length k _ 0 (by simp) (by omega) (by simp) hk

theorem eqIntS_loop (l : List Int) (hl : l.length ≤ 1099511627776) (d : Nat) : ∀ (k i : Nat), i + d = l.length → d < k → laws_eqIntS.l0 k l l i = some true := by
  induction d with
  | zero =>
    intro k i hi hk
    obtain ⟨k, rfl⟩ : ∃ m, k = m + 1 := ⟨k - 1, by omega⟩
    have h : ¬ (i : Int) < (l.length : Int) := by omega
    simp only [laws_eqIntS.l0]; rw [if_neg h]
  | succ d ih =>
    intro k i hi hk
    obtain ⟨k, rfl⟩ : ∃ m, k = m + 1 := ⟨k - 1, by omega⟩
    have h : (i : Int) < (l.length : Int) := by omega
    have h0 : (0 : Int) ≤ (i : Int) := by omega
    have e := ih k (i + 1) (by omega) (by omega)
    simp only [laws_eqIntS.l0]; rw [if_pos h, if_pos h0, if_pos h, wrap_succ (n := l.length) (by omega) hl]
    simp only [if_true]; exact e
theorem eqIntS_refl (l : List Int) (hl : l.length ≤ 1099511627776) (k : Nat) (hk : l.length < k) : laws_eqIntS.f k l l = some true := by
  unfold laws_eqIntS.f; rw [if_pos rfl]; exact eqIntS_loop l hl l.length k 0 (by omega) hk

theorem FnExactGetNum : laws_FnExactGetNum.Pure := by
  intro l a s _ _ _ _ _
  refine ⟨1048600, ?_⟩
  generalize hk : 1048600 = k
  unfold laws_FnExactGetNum.f
  by_cases h : (l.length : Int) > 1048576
  · rw [if_pos h]
  · rw [if_neg h, toIntS_all k l (by omega) (by omega)]; simp only [Option.bind_some]
    rw [spec_get k l a s (by omega) (by omega) (by omega)]; simp only [Option.bind_some]
    rw [impl_get k l a s (by omega) (by omega) (by omega)]; simp only [Option.bind_some, if_true]
    obtain ⟨k, rfl⟩ : ∃ m, k = m + 1 := ⟨k - 1, by omega⟩
    simp only [laws_FnExactGetNum.j0, bne_self_eq_false, Bool.false_eq_true, if_false]
    rw [toIntS_all k l (by omega) (by omega)]; simp only [Option.bind_some]
    rw [eqIntS_refl l (by omega) k (by omega)]; simp

end Go.Proofs.Ytbljihnmljcgiaa.Pure
