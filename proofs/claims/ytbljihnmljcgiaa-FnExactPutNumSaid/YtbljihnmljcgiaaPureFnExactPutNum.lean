/- The program's PutNum answers as the reference's, in memory of its own, and leaves its argument alone, for every memory and three ints. -/
import Derived.Test.YtbljihnmljcgiaaMFnExactPutNumx
namespace Go.Proofs.Ytbljihnmljcgiaa.Pure
open Go.RowKit Go.Proofs.Ytbljihnmljcgiaa.MFnExactPutNum Go.Proofs.YtbljihnmljcgiaaW.PrintWords Go.Proofs.YtbljihnmljcgiaaW.PrintLast Go.Proofs.YtbljihnmljcgiaaW.PrintMore
set_option linter.unusedVariables false
set_option linter.unusedSimpArgs false
set_option maxHeartbeats 4000000

/-- How many bytes a size has. -/
def bytesM (s : Int) : Int := if s = 0 then 1 else if s = 1 then 2 else if s = 2 then 4 else 0
theorem bytesM_cases (s : Int) : (s = 0 ∧ bytesM s = 1) ∨ (s = 1 ∧ bytesM s = 2) ∨ (s = 2 ∧ bytesM s = 4) ∨ (¬ (0 ≤ s ∧ s ≤ 2) ∧ bytesM s = 0) := by
  unfold bytesM; split
  · left; omega
  · split
    · right; left; omega
    · split
      · right; right; left; omega
      · right; right; right; omega
theorem shl_1_0 : shl .i64 1 0 = 1 := by decide
theorem shl_1_1 : shl .i64 1 1 = 2 := by decide
theorem shl_1_2 : shl .i64 1 2 = 4 := by decide

/-- An address fits a size. -/
def alignedM (a s : Int) : Bool := decide (0 ≤ a ∧ 0 ≤ s ∧ s ≤ 2 ∧ a % bytesM s = 0)
theorem tmod_pos {a b : Int} (h : 0 ≤ a) : Int.tmod a b = a % b := Int.tmod_eq_emod_of_nonneg h

/-- How many numbers a size has. -/
def limitM (s : Int) : Int := if s = 0 then 256 else if s = 1 then 65536 else if s = 2 then 4294967296 else 0
theorem limitM_cases (s : Int) : (s = 0 ∧ bytesM s = 1 ∧ limitM s = 256) ∨ (s = 1 ∧ bytesM s = 2 ∧ limitM s = 65536) ∨ (s = 2 ∧ bytesM s = 4 ∧ limitM s = 4294967296) ∨ (¬ (0 ≤ s ∧ s ≤ 2) ∧ bytesM s = 0 ∧ limitM s = 0) := by
  unfold limitM bytesM; split
  · left; omega
  · split
    · right; left; omega
    · split
      · right; right; left; omega
      · right; right; right; omega
theorem shl_1_8 : shl .i64 1 8 = 256 := by decide
theorem shl_1_16 : shl .i64 1 16 = 65536 := by decide
theorem shl_1_32 : shl .i64 1 32 = 4294967296 := by decide
theorem wrap64_8_1 : wrap64 8 = 8 := by unfold wrap64; omega
theorem wrap64_8_2 : wrap64 16 = 16 := by unfold wrap64; omega
theorem wrap64_8_4 : wrap64 32 = 32 := by unfold wrap64; omega

theorem wf_of {a : Int} (h : (Lit.int .i64 a).wf = true) : -9223372036854775808 ≤ a ∧ a ≤ 9223372036854775807 := by
  simp [Lit.wf, IntKind.min, IntKind.max, IntKind.signed, IntKind.bits] at h; omega
theorem pow_le_i (b i j : Nat) (h0 : 0 < b) (h : i ≤ j) : (b : Int) ^ i ≤ (b : Int) ^ j := by
  have h1 := Nat.pow_le_pow_right h0 h
  have h2 : ((b ^ i : Nat) : Int) ≤ ((b ^ j : Nat) : Int) := Int.ofNat_le.2 h1
  rwa [Int.natCast_pow, Int.natCast_pow] at h2
theorem wrap64_id {a : Int} (h0 : -9223372036854775808 ≤ a) (h1 : a ≤ 9223372036854775807) : wrap64 a = a := by unfold wrap64; omega

theorem wrap_succ {i n : Nat} (h : i < n) (hn : n ≤ 1099511627776) : wrap64 ((i : Int) + 1) = ((i + 1 : Nat) : Int) := by unfold wrap64; omega
theorem rd_nat (l : List Int) (i : Nat) (h : i < l.length) : rd l (i : Int) = l[i] := by
  unfold rd; simp [List.getD_eq_getElem?_getD, List.getElem?_eq_getElem h]
theorem rdOf_nat {α : Type} (d : α) (l : List α) (i : Nat) (h : i < l.length) : rdOf d l (i : Int) = l[i] := by
  unfold rdOf; simp [List.getD_eq_getElem?_getD, List.getElem?_eq_getElem h]
theorem set_take {α : Type} (l : List α) (i : Nat) (x : α) (h : i < l.length) : (l.set i x).take (i + 1) = l.take i ++ [x] := by
  rw [List.take_succ_eq_append_getElem (by simpa using h), List.take_set, List.set_eq_of_length_le (by simp; omega)]; simp
theorem set_drop {α : Type} (l : List α) (i : Nat) (x : α) : (l.set i x).drop (i + 1) = l.drop (i + 1) := by
  rw [List.drop_set]; simp

def byteM (x : Int) : Bool := decide (0 ≤ x ∧ x ≤ 255)
/-- A memory is valid and a number fits at an address. -/
def fitsM (l : List Int) (a s : Int) : Bool := decide ((l.length : Int) ≤ 512) && l.all byteM && alignedM a s && decide (a ≤ (l.length : Int) - bytesM s)
theorem fitsM_iff (l : List Int) (a s : Int) : fitsM l a s = true ↔ l.length ≤ 512 ∧ (∀ x ∈ l, 0 ≤ x ∧ x ≤ 255) ∧ alignedM a s = true ∧ a + bytesM s ≤ l.length := by
  unfold fitsM; simp [byteM]; constructor
  · rintro ⟨⟨⟨h1, h2⟩, h3⟩, h4⟩; exact ⟨by omega, h2, h3, by omega⟩
  · rintro ⟨h1, h2, h3, h4⟩; exact ⟨⟨⟨by omega, h2⟩, h3⟩, by omega⟩
theorem bytesM_le4 (s : Int) : 0 ≤ bytesM s ∧ bytesM s ≤ 4 := by
  rcases bytesM_cases s with ⟨_, h⟩ | ⟨_, h⟩ | ⟨_, h⟩ | ⟨h', h⟩ <;> omega
/-- The number of so many bytes from a place on, the least significant first. -/
def leM (l : List Int) (a : Nat) : Nat → Int
  | 0 => 0
  | n + 1 => leM l a n + rd l ((a + n : Nat) : Int) * 256 ^ n
theorem rd_byte (l : List Int) (h : ∀ x ∈ l, 0 ≤ x ∧ x ≤ 255) (i : Nat) (hi : i < l.length) : 0 ≤ rd l (i : Int) ∧ rd l (i : Int) ≤ 255 := by
  rw [rd_nat _ _ hi]; exact h _ (List.getElem_mem hi)
theorem leM_bound (l : List Int) (h : ∀ x ∈ l, 0 ≤ x ∧ x ≤ 255) (a n : Nat) (hn : a + n ≤ l.length) : 0 ≤ leM l a n ∧ leM l a n < 256 ^ n := by
  induction n with
  | zero => exact ⟨Int.le_refl _, by simp [leM]⟩
  | succ n ih =>
    have hi := ih (by omega)
    have hb := rd_byte l h (a + n) (by omega)
    have hp : (0 : Int) < 256 ^ n := Int.pow_pos (by decide)
    have h1 : 0 ≤ rd l ((a + n : Nat) : Int) * 256 ^ n := Int.mul_nonneg hb.1 (Int.le_of_lt hp)
    have h2 : rd l ((a + n : Nat) : Int) * 256 ^ n ≤ 255 * 256 ^ n := Int.mul_le_mul_of_nonneg_right hb.2 (Int.le_of_lt hp)
    simp only [leM, Int.pow_succ]; omega
/-- So many bytes of a number, laid from a place on. -/
def putM (l : List Int) (a : Nat) (v : Int) : Nat → List Int
  | 0 => l
  | n + 1 => (putM l a v n).set (a + n) (v / 256 ^ n % 256)
theorem putM_length (l : List Int) (a : Nat) (v : Int) (n : Nat) : (putM l a v n).length = l.length := by
  induction n with
  | zero => rfl
  | succ n ih => simp [putM, ih]

/-- A number can be laid. -/
def putOkM (l : List Int) (a s v : Int) : Bool := fitsM l a s && decide (0 ≤ v ∧ v < limitM s)
def putResM (l : List Int) (a s v : Int) : List Int × Bool := if putOkM l a s v = true then (putM l a.toNat v (bytesM s).toNat, true) else (l, false)
theorem limitM_le (s : Int) : 0 ≤ limitM s ∧ limitM s ≤ 4294967296 := by
  rcases limitM_cases s with ⟨_, _, h⟩ | ⟨_, _, h⟩ | ⟨_, _, h⟩ | ⟨_, _, h⟩ <;> omega

theorem spec_in (a b c : Int) : spec_l1In.f a b c = some (decide (b ≤ a ∧ a ≤ c)) := by
  unfold spec_l1In.f; by_cases h : b ≤ a
  · rw [if_pos h]; simp [h]
  · rw [if_neg h]; simp [h]

theorem spec_bytes (s : Int) : spec_BytesOf.f s = some (bytesM s) := by
  unfold spec_BytesOf.f; rw [spec_in]
  rcases bytesM_cases s with ⟨rfl, h⟩ | ⟨rfl, h⟩ | ⟨rfl, h⟩ | ⟨h0, h⟩
  · rfl
  · rfl
  · rfl
  · rw [h]; simp [h0]

theorem spec_aligned (a s : Int) : spec_Aligned.f a s = some (alignedM a s) := by
  unfold spec_Aligned.f alignedM; rw [spec_bytes]
  by_cases ha : 0 ≤ a
  · rcases bytesM_cases s with ⟨rfl, h⟩ | ⟨rfl, h⟩ | ⟨rfl, h⟩ | ⟨h0, h⟩
    · rw [h]; simp [ha]
    · rw [h]; simp [ha, tmod_pos ha]; rfl
    · rw [h]; simp [ha, tmod_pos ha]; rfl
    · rw [h]; simp; intros; omega
  · rcases bytesM_cases s with ⟨rfl, h⟩ | ⟨rfl, h⟩ | ⟨rfl, h⟩ | ⟨h0, h⟩ <;> rw [h] <;> simp [ha]

theorem spec_bytes_loop (l : List Int) (hl : l.length ≤ 1099511627776) (d : Nat) : ∀ (k i : Nat), i + d = l.length → d < k →
    spec_l4Bytes.l0 k l i = some ((l.drop i).all byteM && decide ((l.length : Int) ≤ 512)) := by
  induction d with
  | zero =>
    intro k i hi hk
    obtain ⟨k, rfl⟩ : ∃ m, k = m + 1 := ⟨k - 1, by omega⟩
    have h : ¬ (i : Int) < (l.length : Int) := by omega
    simp only [spec_l4Bytes.l0]; rw [if_neg h, List.drop_eq_nil_of_le (by omega)]; simp
  | succ d ih =>
    intro k i hi hk
    obtain ⟨k, rfl⟩ : ∃ m, k = m + 1 := ⟨k - 1, by omega⟩
    have h : (i : Int) < (l.length : Int) := by omega
    have h0 : (0 : Int) ≤ (i : Int) := by omega
    have hil : i < l.length := by omega
    simp only [spec_l4Bytes.l0]; rw [if_pos h, if_pos h0, spec_in, wrap_succ (n := l.length) (by omega) hl, ih k (i + 1) (by omega) (by omega), rd_nat _ _ hil, List.drop_eq_getElem_cons hil]
    simp only [List.all_cons, Option.bind_some]
    cases e : byteM l[i] with
    | true => have e' : decide (0 ≤ l[i] ∧ l[i] ≤ 255) = true := e; rw [if_pos e']; simp
    | false => have e' : decide (0 ≤ l[i] ∧ l[i] ≤ 255) = false := e; rw [e']; simp
theorem spec_bytes_all (k : Nat) (l : List Int) (hl : l.length ≤ 1099511627776) (hk : l.length < k) : spec_l4Bytes.f k l = some (l.all byteM && decide ((l.length : Int) ≤ 512)) := by
  unfold spec_l4Bytes.f
  have := spec_bytes_loop l hl l.length k 0 (by omega) hk
  simpa using this
theorem wrap_len (l : List Int) (hl : l.length ≤ 1099511627776) (s : Int) : wrap64 ((l.length : Int) - bytesM s) = (l.length : Int) - bytesM s := by
  have := bytesM_le4 s; unfold wrap64; omega

theorem spec_fits (k : Nat) (l : List Int) (a s : Int) (hl : l.length ≤ 1099511627776) (hk : l.length < k) : spec_l4Fits.f k l a s = some (fitsM l a s) := by
  unfold spec_l4Fits.f fitsM; rw [spec_bytes_all k l hl hk, spec_aligned, spec_bytes]; simp only [Option.bind_some]
  rw [wrap_len l hl]
  cases l.all byteM <;> cases alignedM a s <;> by_cases h : (l.length : Int) ≤ 512 <;> simp [h]

theorem spec_limit (s : Int) : spec_LimitOf.f s = some (limitM s) := by
  unfold spec_LimitOf.f; rw [spec_bytes]
  rcases limitM_cases s with ⟨rfl, h, k⟩ | ⟨rfl, h, k⟩ | ⟨rfl, h, k⟩ | ⟨h0, h, k⟩
  · rw [h, k]; simp [wrap64_8_1, shl_1_8]
  · rw [h, k]; simp [wrap64_8_2, shl_1_16]
  · rw [h, k]; simp [wrap64_8_4, shl_1_32]
  · rw [h, k]; rfl

theorem spec_put_loop (l : List Int) (s : Int) (hl : l.length ≤ 512) (a : Nat) (v : Int) (hv0 : 0 ≤ v) (hv : v ≤ 4294967295) (ha : a + (bytesM s).toNat ≤ l.length) (d : Nat) : ∀ (k i : Nat), i + d = (bytesM s).toNat → d < k →
    spec_PutNum.l0 k (a : Int) s (v / 256 ^ i) (putM l a v i) i = some (putM l a v (bytesM s).toNat, true) := by
  have hb := bytesM_le4 s
  induction d with
  | zero =>
    intro k i hi hk
    obtain ⟨k, rfl⟩ : ∃ m, k = m + 1 := ⟨k - 1, by omega⟩
    obtain rfl : i = (bytesM s).toNat := by omega
    simp only [spec_PutNum.l0, spec_bytes, Option.bind_some]; rw [if_neg (by omega)]
  | succ d ih =>
    intro k i hi hk
    obtain ⟨k, rfl⟩ : ∃ m, k = m + 1 := ⟨k - 1, by omega⟩
    have hw1 : wrap64 ((a : Int) + (i : Int)) = ((a + i : Nat) : Int) := by unfold wrap64; omega
    have hw3 : wrap64 ((i : Int) + 1) = ((i + 1 : Nat) : Int) := by unfold wrap64; omega
    have hp1 : (0 : Int) < 256 ^ i := Int.pow_pos (by decide)
    have hq0 : 0 ≤ v / 256 ^ i := Int.ediv_nonneg hv0 (Int.le_of_lt hp1)
    have hq1 : v / 256 ^ i ≤ v := Int.ediv_le_self _ hv0
    have hd : Int.tdiv (v / 256 ^ i) 256 = v / 256 ^ (i + 1) := by
      rw [Int.tdiv_eq_ediv_of_nonneg hq0, Int.ediv_ediv_of_nonneg (Int.le_of_lt hp1), Int.pow_succ]
    have hm : Int.tmod (v / 256 ^ i) 256 = v / 256 ^ i % 256 := Int.tmod_eq_emod_of_nonneg hq0
    have hp2 : (0 : Int) < 256 ^ (i + 1) := Int.pow_pos (by decide)
    have hq2 : 0 ≤ v / 256 ^ (i + 1) := Int.ediv_nonneg hv0 (Int.le_of_lt hp2)
    have hq3 : v / 256 ^ (i + 1) ≤ v := Int.ediv_le_self _ hv0
    have hw4 : wrap64 (v / 256 ^ (i + 1)) = v / 256 ^ (i + 1) := wrap64_id (by omega) (by omega)
    have hlen := putM_length l a v i
    simp only [spec_PutNum.l0, spec_bytes, Option.bind_some]
    rw [if_pos (show (i : Int) < bytesM s by omega), hw1, if_pos (by omega), if_pos (by omega), hd, hm, hw3, hw4, Int.toNat_natCast]
    exact ih k (i + 1) (by omega) (by omega)
theorem spec_put (k : Nat) (l : List Int) (a s v : Int) (hl : l.length ≤ 1099511627776) (hk : l.length + 10 < k) : spec_PutNum.f k l a s v = some (putResM l a s v) := by
  have hll := limitM_le s
  have hw : wrap64 (limitM s - 1) = limitM s - 1 := wrap64_id (by omega) (by omega)
  unfold spec_PutNum.f putResM putOkM
  simp only [Option.bind_some, List.length_nil, List.nil_append, Nat.zero_add]
  rw [if_pos (by omega), spec_fits k l a s hl (by omega), spec_limit]; simp only [Option.bind_some]
  rw [hw, spec_in]; simp only [Option.bind_some]
  obtain ⟨k, rfl⟩ : ∃ m, k = m + 1 := ⟨k - 1, by omega⟩
  by_cases h : fitsM l a s = true
  · obtain ⟨h1, h2, h3, h4⟩ := (fitsM_iff l a s).1 h
    have ha : 0 ≤ a := by simp [alignedM] at h3; omega
    have hb := bytesM_le4 s
    rw [if_pos h]; simp only [spec_PutNum.j0]
    by_cases hv : 0 ≤ v ∧ v < limitM s
    · have hv' : 0 ≤ v ∧ v ≤ limitM s - 1 := by omega
      rw [decide_eq_true hv', decide_eq_true hv, h]
      have := spec_put_loop l s h1 a.toNat v hv.1 (by omega) (by omega) (bytesM s).toNat k 0 (by omega) (by omega)
      rw [show ((a.toNat : Nat) : Int) = a by omega] at this
      simpa [putM] using this
    · have hv' : ¬ (0 ≤ v ∧ v ≤ limitM s - 1) := by omega
      rw [decide_eq_false hv', decide_eq_false hv]; simp
  · rw [if_neg h]; simp only [spec_PutNum.j0]; simp [h]

theorem impl_in (a b c : Int) : impl_within.f a b c = some (decide (b ≤ a ∧ a ≤ c)) := by
  unfold impl_within.f; by_cases h : b ≤ a
  · rw [if_pos h]; simp [h]
  · rw [if_neg h]; simp [h]

theorem impl_fits_one (x : Int) : impl_fits_1.f x = some (!byteM x) := by unfold impl_fits_1.f; rw [impl_in]; rfl
theorem impl_idx_loop (l : List Int) (hl : l.length ≤ 1099511627776) (d : Nat) : ∀ (k i : Nat), i + d = l.length → d < k →
    ∃ r, slices_IndexFunc_at_impl_fits_1.l0 k l (l.length : Int) i = some r ∧ decide (r ≥ 0) = !(l.drop i).all byteM := by
  induction d with
  | zero =>
    intro k i hi hk
    obtain ⟨k, rfl⟩ : ∃ m, k = m + 1 := ⟨k - 1, by omega⟩
    have h : ¬ (i : Int) < (l.length : Int) := by omega
    exact ⟨-1, by simp only [slices_IndexFunc_at_impl_fits_1.l0]; rw [if_neg h], by rw [List.drop_eq_nil_of_le (by omega)]; rfl⟩
  | succ d ih =>
    intro k i hi hk
    obtain ⟨k, rfl⟩ : ∃ m, k = m + 1 := ⟨k - 1, by omega⟩
    have h : (i : Int) < (l.length : Int) := by omega
    have h0 : (0 : Int) ≤ (i : Int) := by omega
    have hil : i < l.length := by omega
    obtain ⟨r, h1, h2⟩ := ih k (i + 1) (by omega) (by omega)
    simp only [slices_IndexFunc_at_impl_fits_1.l0]; rw [if_pos h, if_pos h0, if_pos h, impl_fits_one, wrap_succ (n := l.length) (by omega) hl, rd_nat _ _ hil, List.drop_eq_getElem_cons hil]
    simp only [List.all_cons, Option.bind_some]
    cases e : byteM l[i] with
    | true => exact ⟨r, by simpa using h1, by simpa using h2⟩
    | false => exact ⟨(i : Int), by simp, by simp⟩
theorem impl_contains (k : Nat) (l : List Int) (hl : l.length ≤ 1099511627776) (hk : l.length < k) : slices_ContainsFunc_at_impl_fits_1.f k l = some (!l.all byteM) := by
  unfold slices_ContainsFunc_at_impl_fits_1.f slices_IndexFunc_at_impl_fits_1.f
  obtain ⟨r, h1, h2⟩ := impl_idx_loop l hl l.length k 0 (by omega) hk
  rw [show ((0 : Nat) : Int) = 0 from rfl] at h1
  rw [h1]; simp only [Option.bind_some]; rw [h2]; simp

theorem impl_bytes (s : Int) : impl_BytesOf.f s = some (bytesM s) := by
  unfold impl_BytesOf.f; rw [impl_in]
  rcases bytesM_cases s with ⟨rfl, h⟩ | ⟨rfl, h⟩ | ⟨rfl, h⟩ | ⟨h0, h⟩
  · rfl
  · rfl
  · rfl
  · rw [h]; simp [h0]

theorem impl_aligned (a s : Int) : impl_Aligned.f a s = some (alignedM a s) := by
  unfold impl_Aligned.f alignedM; rw [impl_in, impl_bytes]
  by_cases ha : 0 ≤ a
  · rcases bytesM_cases s with ⟨rfl, h⟩ | ⟨rfl, h⟩ | ⟨rfl, h⟩ | ⟨h0, h⟩
    · rw [h]; simp [ha]
    · rw [h]; simp [ha, tmod_pos ha]; rfl
    · rw [h]; simp [ha, tmod_pos ha]; rfl
    · rw [h]; simp [h0]; intros; omega
  · rcases bytesM_cases s with ⟨rfl, h⟩ | ⟨rfl, h⟩ | ⟨rfl, h⟩ | ⟨h0, h⟩ <;> rw [h] <;> simp [ha]

theorem impl_fits_is (k : Nat) (l : List Int) (a s : Int) (hl : l.length ≤ 1099511627776) (hk : l.length < k) : impl_fits.f k l a s = some (fitsM l a s) := by
  have hw : wrap64 ((l.length : Int) - bytesM s) = (l.length : Int) - bytesM s := by have := bytesM_le4 s; unfold wrap64; omega
  unfold impl_fits.f fitsM
  by_cases h : (l.length : Int) ≤ 512
  · rw [if_pos h, impl_contains k l hl hk, impl_aligned, impl_bytes]; simp only [Option.bind_some]
    rw [hw]
    cases l.all byteM <;> cases alignedM a s <;> simp [h]
  · rw [if_neg h]; simp [h]

theorem impl_limit (s : Int) : impl_LimitOf.f s = some (limitM s) := by
  unfold impl_LimitOf.f; rw [impl_bytes]
  rcases limitM_cases s with ⟨rfl, h, k⟩ | ⟨rfl, h, k⟩ | ⟨rfl, h, k⟩ | ⟨h0, h, k⟩
  · rw [h, k]; simp [wrap64_8_1, shl_1_8]
  · rw [h, k]; simp [wrap64_8_2, shl_1_16]
  · rw [h, k]; simp [wrap64_8_4, shl_1_32]
  · rw [h, k]; rfl

theorem impl_isnum (v s : Int) : impl_isNum.f v s = some (decide (0 ≤ v ∧ v < limitM s)) := by
  unfold impl_isNum.f; rw [impl_limit]; simp only [Option.bind_some]
  have hw : wrap64 (limitM s - 1) = limitM s - 1 := by
    rcases limitM_cases s with ⟨_, _, h⟩ | ⟨_, _, h⟩ | ⟨_, _, h⟩ | ⟨_, _, h⟩ <;> rw [h] <;> unfold wrap64 <;> omega
  rw [hw, impl_in]; simp only [Option.bind_some]
  congr 1; rw [decide_eq_decide]; omega

theorem wraps_i64 (n : Int) (h₀ : 0 ≤ n) (h₁ : n < 2 ^ 63) : IntKind.i64.wrap n = n := by rw [IntKind.wrap_i64]; omega
theorem and_mask (i : Nat) (hi : i ≤ 63) (x : Int) (h₀ : 0 ≤ x) (h₁ : x ≤ 9223372036854775807) : Go.bits .and .i64 x (2 ^ i - 1) = x % 2 ^ i :=
  bits_mask .i64 63 (by decide) wraps_i64 i hi x h₀ (by omega)
theorem or_join (i : Nat) (x y : Int) (hx₀ : 0 ≤ x) (hx : x % 2 ^ i = 0) (hx₁ : x ≤ 9223372036854775807) (hy₀ : 0 ≤ y) (hy : y < 2 ^ i) (hy₁ : y ≤ 9223372036854775807) : Go.bits .or .i64 x y = x + y :=
  bits_join .i64 63 (by decide) wraps_i64 i x y hx₀ hx (by omega) hy₀ hy (by omega)
theorem i64wrap_id {a : Int} (h0 : -9223372036854775808 ≤ a) (h1 : a ≤ 9223372036854775807) : IntKind.i64.wrap a = a := by rw [IntKind.wrap_i64]; omega
theorem and255 {x : Int} (h₀ : 0 ≤ x) (h₁ : x ≤ 9223372036854775807) : Go.bits .and .i64 x 255 = x % 256 := and_mask 8 (by decide) x h₀ h₁
theorem and127 {x : Int} (h₀ : 0 ≤ x) (h₁ : x ≤ 9223372036854775807) : Go.bits .and .i64 x 127 = x % 128 := and_mask 7 (by decide) x h₀ h₁
theorem or_comm_i64 (x y : Int) : Go.bits .or .i64 x y = Go.bits .or .i64 y x := by
  simp only [Go.bits, BitVec.or_comm]

theorem impl_put_loop (l : List Int) (hl : l.length ≤ 512) (a n : Nat) (hn : n ≤ 4) (v : Int) (hv0 : 0 ≤ v) (hv : v ≤ 4294967295) (ha : a + n ≤ l.length) (d : Nat) : ∀ (k i : Nat), i + d = n → d < k →
    impl_PutNum.l0 k (a : Int) v (putM l a v i) (n : Int) i = some (putM l a v n, true) := by
  induction d with
  | zero =>
    intro k i hi hk
    obtain ⟨k, rfl⟩ : ∃ m, k = m + 1 := ⟨k - 1, by omega⟩
    obtain rfl : i = n := by omega
    simp only [impl_PutNum.l0]; rw [if_neg (by omega)]
  | succ d ih =>
    intro k i hi hk
    obtain ⟨k, rfl⟩ : ∃ m, k = m + 1 := ⟨k - 1, by omega⟩
    have hw1 : wrap64 ((a : Int) + (i : Int)) = ((a + i : Nat) : Int) := by unfold wrap64; omega
    have hw2 : wrap64 (8 * (i : Int)) = ((8 * i : Nat) : Int) := by unfold wrap64; omega
    have hw3 : wrap64 ((i : Int) + 1) = ((i + 1 : Nat) : Int) := by unfold wrap64; omega
    have hp1 : (0 : Int) < 256 ^ i := Int.pow_pos (by decide)
    have hq0 : 0 ≤ v / 256 ^ i := Int.ediv_nonneg hv0 (Int.le_of_lt hp1)
    have hq1 : v / 256 ^ i ≤ v := Int.ediv_le_self _ hv0
    have hs : shr .i64 v ((8 * i : Nat) : Int) = v / 256 ^ i := by
      unfold shr; rw [Int.toNat_natCast, Nat.min_eq_left (by simp [IntKind.bits]; omega), Int.pow_mul, show (2 : Int) ^ 8 = 256 from by decide]
    have hm : Go.bits .and .i64 (v / 256 ^ i) 255 = v / 256 ^ i % 256 := and255 hq0 (by omega)
    have hlen := putM_length l a v i
    simp only [impl_PutNum.l0]
    rw [if_pos (show (i : Int) < (n : Int) by omega), hw2, if_pos (by omega), hw1, if_pos (by omega), if_pos (by omega), hs, hm, hw3, Int.toNat_natCast]
    exact ih k (i + 1) (by omega) (by omega)
theorem clone_is (l : List Int) (hl : l.length ≤ 1099511627776) : slices_Clone_int_int.f l = some l := by
  unfold slices_Clone_int_int.f; simp only [Option.bind_some, List.length_nil, List.nil_append, Nat.zero_add]; rw [if_pos (by omega)]
theorem impl_put (k : Nat) (l : List Int) (a s v : Int) (hl : l.length ≤ 1099511627776) (hk : l.length + 10 < k) : impl_PutNum.f k l a s v = some (putResM l a s v) := by
  have hll := limitM_le s
  unfold impl_PutNum.f putResM putOkM
  rw [clone_is l hl, impl_fits_is k l a s hl (by omega), impl_isnum]; simp only [Option.bind_some]
  obtain ⟨k, rfl⟩ : ∃ m, k = m + 1 := ⟨k - 1, by omega⟩
  by_cases h : fitsM l a s = true
  · obtain ⟨h1, h2, h3, h4⟩ := (fitsM_iff l a s).1 h
    have ha : 0 ≤ a := by simp [alignedM] at h3; omega
    have hb := bytesM_le4 s
    rw [if_pos h]; simp only [impl_PutNum.j0, impl_bytes, Option.bind_some]
    by_cases hv : 0 ≤ v ∧ v < limitM s
    · rw [decide_eq_true hv, h]
      have := impl_put_loop l h1 a.toNat (bytesM s).toNat (by omega) v hv.1 (by omega) (by omega) (bytesM s).toNat k 0 (by omega) (by omega)
      rw [show ((a.toNat : Nat) : Int) = a by omega, show (((bytesM s).toNat : Nat) : Int) = bytesM s by omega] at this
      simpa [putM] using this
    · rw [decide_eq_false hv]; simp
  · rw [if_neg h]; simp only [impl_PutNum.j0]; simp [h]

theorem toIntS_loop (l : List Int) (hl : l.length ≤ 1099511627776) (d : Nat) : ∀ (k : Nat) (o : List Int) (i : Nat), o.length = l.length → i + d = l.length → o.take i = l.take i → d < k → laws_toIntS.l0 k l o i = some l := by
  induction d with
  | zero =>
    intro k o i ho hi he hk
    obtain ⟨k, rfl⟩ : ∃ m, k = m + 1 := ⟨k - 1, by omega⟩
    have h : ¬ (i : Int) < (l.length : Int) := by omega
    simp only [laws_toIntS.l0]; rw [if_neg h]
    rw [List.take_of_length_le (by omega), List.take_of_length_le (by omega)] at he
    rw [he]
  | succ d ih =>
    intro k o i ho hi he hk
    obtain ⟨k, rfl⟩ : ∃ m, k = m + 1 := ⟨k - 1, by omega⟩
    have h : (i : Int) < (l.length : Int) := by omega
    have h' : (i : Int) < (o.length : Int) := by omega
    have h0 : (0 : Int) ≤ (i : Int) := by omega
    have hil : i < l.length := by omega
    simp only [laws_toIntS.l0]; rw [if_pos h, if_pos h0, if_pos h', wrap_succ (n := l.length) (by omega) hl, Int.toNat_natCast, rd_nat _ _ hil]
    refine ih k _ (i + 1) (by simpa using ho) (by omega) ?_ (by omega)
    rw [set_take _ _ _ (by omega), he, List.take_succ_eq_append_getElem hil]
theorem toIntS_all (k : Nat) (l : List Int) (hl : l.length ≤ 1099511627776) (hk : l.length < k) : laws_toIntS.f k l = some l := by
  unfold laws_toIntS.f
  have h0 : (0 : Int) ≤ (l.length : Int) := by omega
  have h1 : ((l.length : Int)).toNat ≤ 35184372088832 := by omega
  rw [if_pos h0, if_pos h1]
  exact toIntS_loop l hl l.length k _ 0 (by simp) (by omega) (by simp) hk

theorem eqIntS_loop (l : List Int) (hl : l.length ≤ 1099511627776) (d : Nat) : ∀ (k i : Nat), i + d = l.length → d < k → laws_eqIntS.l0 k l l i = some true := by
  induction d with
  | zero =>
    intro k i hi hk
    obtain ⟨k, rfl⟩ : ∃ m, k = m + 1 := ⟨k - 1, by omega⟩
    have h : ¬ (i : Int) < (l.length : Int) := by omega
    simp only [laws_eqIntS.l0]; rw [if_neg h]
  | succ d ih =>
    intro k i hi hk
    obtain ⟨k, rfl⟩ : ∃ m, k = m + 1 := ⟨k - 1, by omega⟩
    have h : (i : Int) < (l.length : Int) := by omega
    have h0 : (0 : Int) ≤ (i : Int) := by omega
    have e := ih k (i + 1) (by omega) (by omega)
    simp only [laws_eqIntS.l0]; rw [if_pos h, if_pos h0, if_pos h, wrap_succ (n := l.length) (by omega) hl]
    simp only [if_true]; exact e
theorem eqIntS_refl (l : List Int) (hl : l.length ≤ 1099511627776) (k : Nat) (hk : l.length < k) : laws_eqIntS.f k l l = some true := by
  unfold laws_eqIntS.f; rw [if_pos rfl]; exact eqIntS_loop l hl l.length k 0 (by omega) hk

/-- What marking lays. -/
def seqInt : Int → Nat → List Int
  | _, 0 => []
  | a, d + 1 => a :: seqInt (a + 1) d
theorem seqInt_length (d : Nat) : ∀ a, (seqInt a d).length = d := by
  induction d with
  | zero => intro a; rfl
  | succ d ih => intro a; simp [seqInt, ih]
theorem markIntS_loop (d : Nat) : ∀ (k : Nat) (l : List Int) (a : Int) (i : Nat), l.length ≤ 1099511627776 → 0 ≤ a → a + d ≤ 4611686018427387904 → i + d = l.length → d < k →
    laws_markIntS.l0 k l a i = some (a + d, l.take i ++ seqInt a d) := by
  induction d with
  | zero =>
    intro k l a i hl ha hb hi hk
    obtain ⟨k, rfl⟩ : ∃ m, k = m + 1 := ⟨k - 1, by omega⟩
    have h : ¬ (i : Int) < (l.length : Int) := by omega
    simp only [laws_markIntS.l0]; rw [if_neg h]; simp [seqInt, List.take_of_length_le (show l.length ≤ i by omega)]
  | succ d ih =>
    intro k l a i hl ha hb hi hk
    obtain ⟨k, rfl⟩ : ∃ m, k = m + 1 := ⟨k - 1, by omega⟩
    have h : (i : Int) < (l.length : Int) := by omega
    have h0 : (0 : Int) ≤ (i : Int) := by omega
    have hw : wrap64 (a + 1) = a + 1 := wrap64_id (by omega) (by omega)
    simp only [laws_markIntS.l0]; rw [if_pos h, if_pos h0, wrap_succ (n := l.length) (by omega) hl, hw, Int.toNat_natCast, ih k _ _ (i + 1) (by simpa using hl) (by omega) (by omega) (by simp; omega) (by omega)]
    rw [set_take _ _ _ (by omega)]
    simp [seqInt]; omega
theorem markIntS_all (k : Nat) (l : List Int) (a : Int) (hl : l.length ≤ 1099511627776) (ha : 0 ≤ a) (hb : a ≤ 2305843009213693952) (hk : l.length < k) :
    laws_markIntS.f k l a = some (a + l.length, seqInt a l.length) := by
  unfold laws_markIntS.f
  have := markIntS_loop l.length k l a 0 hl ha (by omega) (by omega) hk
  simpa using this

theorem heldIntS_loop (d : Nat) : ∀ (k : Nat) (l : List Int) (a : Int) (i : Nat), l.length ≤ 1099511627776 → 0 ≤ a → a + d ≤ 4611686018427387904 → i + d = l.length → l.drop i = seqInt a d → d < k →
    laws_heldIntS.l0 k l a i = some (a + d) := by
  induction d with
  | zero =>
    intro k l a i hl ha hb hi he hk
    obtain ⟨k, rfl⟩ : ∃ m, k = m + 1 := ⟨k - 1, by omega⟩
    have h : ¬ (i : Int) < (l.length : Int) := by omega
    simp only [laws_heldIntS.l0]; rw [if_neg h]; simp
  | succ d ih =>
    intro k l a i hl ha hb hi he hk
    obtain ⟨k, rfl⟩ : ∃ m, k = m + 1 := ⟨k - 1, by omega⟩
    have h : (i : Int) < (l.length : Int) := by omega
    have h0 : (0 : Int) ≤ (i : Int) := by omega
    have hw : wrap64 (a + 1) = a + 1 := wrap64_id (by omega) (by omega)
    have hil : i < l.length := by omega
    rw [List.drop_eq_getElem_cons hil] at he
    simp only [seqInt, List.cons.injEq] at he
    have e := ih k l (a + 1) (i + 1) hl (by omega) (by omega) (by omega) he.2 (by omega)
    simp only [laws_heldIntS.l0]; rw [if_pos h, if_pos h0, rd_nat _ _ hil, he.1, wrap_succ (n := l.length) (by omega) hl, hw]
    rw [if_pos rfl]; rw [e]; congr 1; omega
theorem heldIntS_all (k n : Nat) (a : Int) (hl : n ≤ 1099511627776) (ha : 0 ≤ a) (hb : a ≤ 2305843009213693952) (hk : n < k) :
    laws_heldIntS.f k (seqInt a n) a = some (a + n) := by
  unfold laws_heldIntS.f
  exact heldIntS_loop n k _ a 0 (by rw [seqInt_length]; exact hl) ha (by omega) (by rw [seqInt_length]; omega) (by simp) hk

theorem putRes_length (l : List Int) (a s v : Int) : (putResM l a s v).1.length = l.length := by
  unfold putResM; split
  · exact putM_length _ _ _ _
  · rfl
theorem FnExactPutNum : laws_FnExactPutNum.Pure := by
  intro l a s v _ _ _ _ _ _
  refine ⟨1048600 + 3, ?_⟩
  generalize hk : 1048600 = k
  unfold laws_FnExactPutNum.f
  by_cases h : (l.length : Int) > 1048576
  · rw [if_pos h]
  · rw [if_neg h, toIntS_all _ l (by omega) (by omega)]; simp only [Option.bind_some]
    rw [spec_put _ l a s v (by omega) (by omega), impl_put _ l a s v (by omega) (by omega)]; simp only [Option.bind_some]
    have hlen := putRes_length l a s v
    have hip := fun k' (hk' : l.length + 10 < k') => impl_put k' l a s v (by omega) hk'
    generalize putResM l a s v = q at *
    obtain ⟨x, is⟩ := q
    simp only at hlen
    rw [eqIntS_refl x (by omega) _ (by omega)]; simp only [Option.bind_some, if_true, bne_self_eq_false]
    rw [laws_FnExactPutNum.j0]; simp only [Bool.false_eq_true, if_false]
    rw [toIntS_all _ l (by omega) (by omega)]; simp only [Option.bind_some]
    rw [eqIntS_refl l (by omega) _ (by omega)]; simp only [Option.bind_some, if_true]
    rw [markIntS_all _ l 1 (by omega) (by omega) (by omega) (by omega)]; simp only [Option.bind_some]
    rw [if_neg (by omega), eqIntS_refl x (by omega) _ (by omega)]; simp only [Option.bind_some, if_true, bne_self_eq_false]
    rw [laws_FnExactPutNum.j1]; simp only [Bool.false_eq_true, if_false]
    rw [markIntS_all _ x 1 (by omega) (by omega) (by omega) (by omega)]; simp only [Option.bind_some]
    rw [heldIntS_all _ _ 1 (by omega) (by omega) (by omega) (by omega)]; simp only [Option.bind_some]
    rw [if_neg (by omega)]; simp only [if_true]
    rw [toIntS_all _ l (by omega) (by omega)]; simp only [Option.bind_some]
    rw [hip _ (by omega)]; simp only [Option.bind_some]
    rw [eqIntS_refl x (by omega) _ (by omega)]; simp only [Option.bind_some, if_true, bne_self_eq_false]
    rw [laws_FnExactPutNum.j2]; simp only [Bool.false_eq_true, if_false]
    rw [heldIntS_all _ _ 1 (by omega) (by omega) (by omega) (by omega)]; simp only [Option.bind_some]
    rw [if_neg (by omega)]; simp only [if_true]

end Go.Proofs.Ytbljihnmljcgiaa.Pure
