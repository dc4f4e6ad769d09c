/- A number is read where it was written, no other byte changes, and the lanes are those of its bytes, for every code. -/
import Derived.Test.YtopcmbodjkanaaaMFnNumsx
namespace Go.Proofs.Ytopcmbodjkanaaa.Pure
open Go.RowKit Go.Proofs.Ytopcmbodjkanaaa.MFnNums Go.Proofs.YtopcmbodjkanaaaW.PrintWords Go.Proofs.YtopcmbodjkanaaaW.PrintLast Go.Proofs.YtopcmbodjkanaaaW.PrintMore
set_option linter.unusedVariables false
set_option linter.unusedSimpArgs false
set_option maxHeartbeats 4000000

/-- How many bytes a size has. -/
def bytesM (s : Int) : Int := if s = 0 then 1 else if s = 1 then 2 else if s = 2 then 4 else 0
theorem bytesM_cases (s : Int) : (s = 0 ∧ bytesM s = 1) ∨ (s = 1 ∧ bytesM s = 2) ∨ (s = 2 ∧ bytesM s = 4) ∨ (¬ (0 ≤ s ∧ s ≤ 2) ∧ bytesM s = 0) := by
  unfold bytesM; split
  · left; omega
  · split
    · right; left; omega
    · split
      · right; right; left; omega
      · right; right; right; omega
theorem shl_1_0 : shl .i64 1 0 = 1 := by decide
theorem shl_1_1 : shl .i64 1 1 = 2 := by decide
theorem shl_1_2 : shl .i64 1 2 = 4 := by decide

/-- An address fits a size. -/
def alignedM (a s : Int) : Bool := decide (0 ≤ a ∧ 0 ≤ s ∧ s ≤ 2 ∧ a % bytesM s = 0)
theorem tmod_pos {a b : Int} (h : 0 ≤ a) : Int.tmod a b = a % b := Int.tmod_eq_emod_of_nonneg h

/-- How many numbers a size has. -/
def limitM (s : Int) : Int := if s = 0 then 256 else if s = 1 then 65536 else if s = 2 then 4294967296 else 0
theorem limitM_cases (s : Int) : (s = 0 ∧ bytesM s = 1 ∧ limitM s = 256) ∨ (s = 1 ∧ bytesM s = 2 ∧ limitM s = 65536) ∨ (s = 2 ∧ bytesM s = 4 ∧ limitM s = 4294967296) ∨ (¬ (0 ≤ s ∧ s ≤ 2) ∧ bytesM s = 0 ∧ limitM s = 0) := by
  unfold limitM bytesM; split
  · left; omega
  · split
    · right; left; omega
    · split
      · right; right; left; omega
      · right; right; right; omega
theorem shl_1_8 : shl .i64 1 8 = 256 := by decide
theorem shl_1_16 : shl .i64 1 16 = 65536 := by decide
theorem shl_1_32 : shl .i64 1 32 = 4294967296 := by decide
theorem wrap64_8_1 : wrap64 8 = 8 := by unfold wrap64; omega
theorem wrap64_8_2 : wrap64 16 = 16 := by unfold wrap64; omega
theorem wrap64_8_4 : wrap64 32 = 32 := by unfold wrap64; omega

theorem wf_of {a : Int} (h : (Lit.int .i64 a).wf = true) : -9223372036854775808 ≤ a ∧ a ≤ 9223372036854775807 := by
  simp [Lit.wf, IntKind.min, IntKind.max, IntKind.signed, IntKind.bits] at h; omega
theorem pow_le_i (b i j : Nat) (h0 : 0 < b) (h : i ≤ j) : (b : Int) ^ i ≤ (b : Int) ^ j := by
  have h1 := Nat.pow_le_pow_right h0 h
  have h2 : ((b ^ i : Nat) : Int) ≤ ((b ^ j : Nat) : Int) := Int.ofNat_le.2 h1
  rwa [Int.natCast_pow, Int.natCast_pow] at h2
theorem wrap64_id {a : Int} (h0 : -9223372036854775808 ≤ a) (h1 : a ≤ 9223372036854775807) : wrap64 a = a := by unfold wrap64; omega

theorem wrap_succ {i n : Nat} (h : i < n) (hn : n ≤ 1099511627776) : wrap64 ((i : Int) + 1) = ((i + 1 : Nat) : Int) := by unfold wrap64; omega
theorem rd_nat (l : List Int) (i : Nat) (h : i < l.length) : rd l (i : Int) = l[i] := by
  unfold rd; simp [List.getD_eq_getElem?_getD, List.getElem?_eq_getElem h]
theorem rdOf_nat {α : Type} (d : α) (l : List α) (i : Nat) (h : i < l.length) : rdOf d l (i : Int) = l[i] := by
  unfold rdOf; simp [List.getD_eq_getElem?_getD, List.getElem?_eq_getElem h]
theorem set_take {α : Type} (l : List α) (i : Nat) (x : α) (h : i < l.length) : (l.set i x).take (i + 1) = l.take i ++ [x] := by
  rw [List.take_succ_eq_append_getElem (by simpa using h), List.take_set, List.set_eq_of_length_le (by simp; omega)]; simp
theorem set_drop {α : Type} (l : List α) (i : Nat) (x : α) : (l.set i x).drop (i + 1) = l.drop (i + 1) := by
  rw [List.drop_set]; simp

def byteM (x : Int) : Bool := decide (0 ≤ x ∧ x ≤ 255)
/-- A memory is valid and a number fits at an address. -/
def fitsM (l : List Int) (a s : Int) : Bool := decide ((l.length : Int) ≤ 512) && l.all byteM && alignedM a s && decide (a ≤ (l.length : Int) - bytesM s)
theorem fitsM_iff (l : List Int) (a s : Int) : fitsM l a s = true ↔ l.length ≤ 512 ∧ (∀ x ∈ l, 0 ≤ x ∧ x ≤ 255) ∧ alignedM a s = true ∧ a + bytesM s ≤ l.length := by
  unfold fitsM; simp [byteM]; constructor
  · rintro ⟨⟨⟨h1, h2⟩, h3⟩, h4⟩; exact ⟨by omega, h2, h3, by omega⟩
  · rintro ⟨h1, h2, h3, h4⟩; exact ⟨⟨⟨by omega, h2⟩, h3⟩, by omega⟩
theorem bytesM_le4 (s : Int) : 0 ≤ bytesM s ∧ bytesM s ≤ 4 := by
  rcases bytesM_cases s with ⟨_, h⟩ | ⟨_, h⟩ | ⟨_, h⟩ | ⟨h', h⟩ <;> omega
/-- The number of so many bytes from a place on, the least significant first. -/
def leM (l : List Int) (a : Nat) : Nat → Int
  | 0 => 0
  | n + 1 => leM l a n + rd l ((a + n : Nat) : Int) * 256 ^ n
theorem rd_byte (l : List Int) (h : ∀ x ∈ l, 0 ≤ x ∧ x ≤ 255) (i : Nat) (hi : i < l.length) : 0 ≤ rd l (i : Int) ∧ rd l (i : Int) ≤ 255 := by
  rw [rd_nat _ _ hi]; exact h _ (List.getElem_mem hi)
theorem leM_bound (l : List Int) (h : ∀ x ∈ l, 0 ≤ x ∧ x ≤ 255) (a n : Nat) (hn : a + n ≤ l.length) : 0 ≤ leM l a n ∧ leM l a n < 256 ^ n := by
  induction n with
  | zero => exact ⟨Int.le_refl _, by simp [leM]⟩
  | succ n ih =>
    have hi := ih (by omega)
    have hb := rd_byte l h (a + n) (by omega)
    have hp : (0 : Int) < 256 ^ n := Int.pow_pos (by decide)
    have h1 : 0 ≤ rd l ((a + n : Nat) : Int) * 256 ^ n := Int.mul_nonneg hb.1 (Int.le_of_lt hp)
    have h2 : rd l ((a + n : Nat) : Int) * 256 ^ n ≤ 255 * 256 ^ n := Int.mul_le_mul_of_nonneg_right hb.2 (Int.le_of_lt hp)
    simp only [leM, Int.pow_succ]; omega
/-- So many bytes of a number, laid from a place on. -/
def putM (l : List Int) (a : Nat) (v : Int) : Nat → List Int
  | 0 => l
  | n + 1 => (putM l a v n).set (a + n) (v / 256 ^ n % 256)
theorem putM_length (l : List Int) (a : Nat) (v : Int) (n : Nat) : (putM l a v n).length = l.length := by
  induction n with
  | zero => rfl
  | succ n ih => simp [putM, ih]

/-- A number can be laid. -/
def putOkM (l : List Int) (a s v : Int) : Bool := fitsM l a s && decide (0 ≤ v ∧ v < limitM s)
def putResM (l : List Int) (a s v : Int) : List Int × Bool := if putOkM l a s v = true then (putM l a.toNat v (bytesM s).toNat, true) else (l, false)
theorem limitM_le (s : Int) : 0 ≤ limitM s ∧ limitM s ≤ 4294967296 := by
  rcases limitM_cases s with ⟨_, _, h⟩ | ⟨_, _, h⟩ | ⟨_, _, h⟩ | ⟨_, _, h⟩ <;> omega

theorem spec_in (a b c : Int) : spec_l1In.f a b c = some (decide (b ≤ a ∧ a ≤ c)) := by
  unfold spec_l1In.f; by_cases h : b ≤ a
  · rw [if_pos h]; simp [h]
  · rw [if_neg h]; simp [h]

theorem spec_bytes_loop (l : List Int) (hl : l.length ≤ 1099511627776) (d : Nat) : ∀ (k i : Nat), i + d = l.length → d < k →
    spec_l4Bytes.l0 k l i = some ((l.drop i).all byteM && decide ((l.length : Int) ≤ 512)) := by
  induction d with
  | zero =>
    intro k i hi hk
    obtain ⟨k, rfl⟩ : ∃ m, k = m + 1 := ⟨k - 1, by omega⟩
    have h : ¬ (i : Int) < (l.length : Int) := by omega
    simp only [spec_l4Bytes.l0]; rw [if_neg h, List.drop_eq_nil_of_le (by omega)]; simp
  | succ d ih =>
    intro k i hi hk
    obtain ⟨k, rfl⟩ : ∃ m, k = m + 1 := ⟨k - 1, by omega⟩
    have h : (i : Int) < (l.length : Int) := by omega
    have h0 : (0 : Int) ≤ (i : Int) := by omega
    have hil : i < l.length := by omega
    simp only [spec_l4Bytes.l0]; rw [if_pos h, if_pos h0, spec_in, wrap_succ (n := l.length) (by omega) hl, ih k (i + 1) (by omega) (by omega), rd_nat _ _ hil, List.drop_eq_getElem_cons hil]
    simp only [List.all_cons, Option.bind_some]
    cases e : byteM l[i] with
    | true => have e' : decide (0 ≤ l[i] ∧ l[i] ≤ 255) = true := e; rw [if_pos e']; simp
    | false => have e' : decide (0 ≤ l[i] ∧ l[i] ≤ 255) = false := e; rw [e']; simp
theorem spec_bytes_all (k : Nat) (l : List Int) (hl : l.length ≤ 1099511627776) (hk : l.length < k) : spec_l4Bytes.f k l = some (l.all byteM && decide ((l.length : Int) ≤ 512)) := by
  unfold spec_l4Bytes.f
  have := spec_bytes_loop l hl l.length k 0 (by omega) hk
  simpa using this
theorem wrap_len (l : List Int) (hl : l.length ≤ 1099511627776) (s : Int) : wrap64 ((l.length : Int) - bytesM s) = (l.length : Int) - bytesM s := by
  have := bytesM_le4 s; unfold wrap64; omega

theorem spec_bytes (s : Int) : spec_BytesOf.f s = some (bytesM s) := by
  unfold spec_BytesOf.f; rw [spec_in]
  rcases bytesM_cases s with ⟨rfl, h⟩ | ⟨rfl, h⟩ | ⟨rfl, h⟩ | ⟨h0, h⟩
  · rfl
  · rfl
  · rfl
  · rw [h]; simp [h0]

theorem spec_aligned (a s : Int) : spec_Aligned.f a s = some (alignedM a s) := by
  unfold spec_Aligned.f alignedM; rw [spec_bytes]
  by_cases ha : 0 ≤ a
  · rcases bytesM_cases s with ⟨rfl, h⟩ | ⟨rfl, h⟩ | ⟨rfl, h⟩ | ⟨h0, h⟩
    · rw [h]; simp [ha]
    · rw [h]; simp [ha, tmod_pos ha]; rfl
    · rw [h]; simp [ha, tmod_pos ha]; rfl
    · rw [h]; simp; intros; omega
  · rcases bytesM_cases s with ⟨rfl, h⟩ | ⟨rfl, h⟩ | ⟨rfl, h⟩ | ⟨h0, h⟩ <;> rw [h] <;> simp [ha]

theorem spec_fits (k : Nat) (l : List Int) (a s : Int) (hl : l.length ≤ 1099511627776) (hk : l.length < k) : spec_l4Fits.f k l a s = some (fitsM l a s) := by
  unfold spec_l4Fits.f fitsM; rw [spec_bytes_all k l hl hk, spec_aligned, spec_bytes]; simp only [Option.bind_some]
  rw [wrap_len l hl]
  cases l.all byteM <;> cases alignedM a s <;> by_cases h : (l.length : Int) ≤ 512 <;> simp [h]

theorem spec_limit (s : Int) : spec_LimitOf.f s = some (limitM s) := by
  unfold spec_LimitOf.f; rw [spec_bytes]
  rcases limitM_cases s with ⟨rfl, h, k⟩ | ⟨rfl, h, k⟩ | ⟨rfl, h, k⟩ | ⟨h0, h, k⟩
  · rw [h, k]; simp [wrap64_8_1, shl_1_8]
  · rw [h, k]; simp [wrap64_8_2, shl_1_16]
  · rw [h, k]; simp [wrap64_8_4, shl_1_32]
  · rw [h, k]; rfl

theorem spec_put_loop (l : List Int) (s : Int) (hl : l.length ≤ 512) (a : Nat) (v : Int) (hv0 : 0 ≤ v) (hv : v ≤ 4294967295) (ha : a + (bytesM s).toNat ≤ l.length) (d : Nat) : ∀ (k i : Nat), i + d = (bytesM s).toNat → d < k →
    spec_PutNum.l0 k (a : Int) s (v / 256 ^ i) (putM l a v i) i = some (putM l a v (bytesM s).toNat, true) := by
  have hb := bytesM_le4 s
  induction d with
  | zero =>
    intro k i hi hk
    obtain ⟨k, rfl⟩ : ∃ m, k = m + 1 := ⟨k - 1, by omega⟩
    obtain rfl : i = (bytesM s).toNat := by omega
    simp only [spec_PutNum.l0, spec_bytes, Option.bind_some]; rw [if_neg (by omega)]
  | succ d ih =>
    intro k i hi hk
    obtain ⟨k, rfl⟩ : ∃ m, k = m + 1 := ⟨k - 1, by omega⟩
    have hw1 : wrap64 ((a : Int) + (i : Int)) = ((a + i : Nat) : Int) := by unfold wrap64; omega
    have hw3 : wrap64 ((i : Int) + 1) = ((i + 1 : Nat) : Int) := by unfold wrap64; omega
    have hp1 : (0 : Int) < 256 ^ i := Int.pow_pos (by decide)
    have hq0 : 0 ≤ v / 256 ^ i := Int.ediv_nonneg hv0 (Int.le_of_lt hp1)
    have hq1 : v / 256 ^ i ≤ v := Int.ediv_le_self _ hv0
    have hd : Int.tdiv (v / 256 ^ i) 256 = v / 256 ^ (i + 1) := by
      rw [Int.tdiv_eq_ediv_of_nonneg hq0, Int.ediv_ediv_of_nonneg (Int.le_of_lt hp1), Int.pow_succ]
    have hm : Int.tmod (v / 256 ^ i) 256 = v / 256 ^ i % 256 := Int.tmod_eq_emod_of_nonneg hq0
    have hp2 : (0 : Int) < 256 ^ (i + 1) := Int.pow_pos (by decide)
    have hq2 : 0 ≤ v / 256 ^ (i + 1) := Int.ediv_nonneg hv0 (Int.le_of_lt hp2)
    have hq3 : v / 256 ^ (i + 1) ≤ v := Int.ediv_le_self _ hv0
    have hw4 : wrap64 (v / 256 ^ (i + 1)) = v / 256 ^ (i + 1) := wrap64_id (by omega) (by omega)
    have hlen := putM_length l a v i
    simp only [spec_PutNum.l0, spec_bytes, Option.bind_some]
    rw [if_pos (show (i : Int) < bytesM s by omega), hw1, if_pos (by omega), if_pos (by omega), hd, hm, hw3, hw4, Int.toNat_natCast]
    exact ih k (i + 1) (by omega) (by omega)
theorem spec_put (k : Nat) (l : List Int) (a s v : Int) (hl : l.length ≤ 1099511627776) (hk : l.length + 10 < k) : spec_PutNum.f k l a s v = some (putResM l a s v) := by
  have hll := limitM_le s
  have hw : wrap64 (limitM s - 1) = limitM s - 1 := wrap64_id (by omega) (by omega)
  unfold spec_PutNum.f putResM putOkM
  simp only [Option.bind_some, List.length_nil, List.nil_append, Nat.zero_add]
  rw [if_pos (by omega), spec_fits k l a s hl (by omega), spec_limit]; simp only [Option.bind_some]
  rw [hw, spec_in]; simp only [Option.bind_some]
  obtain ⟨k, rfl⟩ : ∃ m, k = m + 1 := ⟨k - 1, by omega⟩
  by_cases h : fitsM l a s = true
  · obtain ⟨h1, h2, h3, h4⟩ := (fitsM_iff l a s).1 h
    have ha : 0 ≤ a := by simp [alignedM] at h3; omega
    have hb := bytesM_le4 s
    rw [if_pos h]; simp only [spec_PutNum.j0]
    by_cases hv : 0 ≤ v ∧ v < limitM s
    · have hv' : 0 ≤ v ∧ v ≤ limitM s - 1 := by omega
      rw [decide_eq_true hv', decide_eq_true hv, h]
      have := spec_put_loop l s h1 a.toNat v hv.1 (by omega) (by omega) (bytesM s).toNat k 0 (by omega) (by omega)
      rw [show ((a.toNat : Nat) : Int) = a by omega] at this
      simpa [putM] using this
    · have hv' : ¬ (0 ≤ v ∧ v ≤ limitM s - 1) := by omega
      rw [decide_eq_false hv', decide_eq_false hv]; simp
  · rw [if_neg h]; simp only [spec_PutNum.j0]; simp [h]

theorem impl_in (a b c : Int) : impl_within.f a b c = some (decide (b ≤ a ∧ a ≤ c)) := by
  unfold impl_within.f; by_cases h : b ≤ a
  · rw [if_pos h]; simp [h]
  · rw [if_neg h]; simp [h]

theorem impl_fits_one (x : Int) : impl_fits_1.f x = some (!byteM x) := by unfold impl_fits_1.f; rw [impl_in]; rfl
theorem impl_idx_loop (l : List Int) (hl : l.length ≤ 1099511627776) (d : Nat) : ∀ (k i : Nat), i + d = l.length → d < k →
    ∃ r, slices_IndexFunc_at_impl_fits_1.l0 k l (l.length : Int) i = some r ∧ decide (r ≥ 0) = !(l.drop i).all byteM := by
  induction d with
  | zero =>
    intro k i hi hk
    obtain ⟨k, rfl⟩ : ∃ m, k = m + 1 := ⟨k - 1, by omega⟩
    have h : ¬ (i : Int) < (l.length : Int) := by omega
    exact ⟨-1, by simp only [slices_IndexFunc_at_impl_fits_1.l0]; rw [if_neg h], by rw [List.drop_eq_nil_of_le (by omega)]; rfl⟩
  | succ d ih =>
    intro k i hi hk
    obtain ⟨k, rfl⟩ : ∃ m, k = m + 1 := ⟨k - 1, by omega⟩
    have h : (i : Int) < (l.length : Int) := by omega
    have h0 : (0 : Int) ≤ (i : Int) := by omega
    have hil : i < l.length := by omega
    obtain ⟨r, h1, h2⟩ := ih k (i + 1) (by omega) (by omega)
    simp only [slices_IndexFunc_at_impl_fits_1.l0]; rw [if_pos h, if_pos h0, if_pos h, impl_fits_one, wrap_succ (n := l.length) (by omega) hl, rd_nat _ _ hil, List.drop_eq_getElem_cons hil]
    simp only [List.all_cons, Option.bind_some]
    cases e : byteM l[i] with
    | true => exact ⟨r, by simpa using h1, by simpa using h2⟩
    | false => exact ⟨(i : Int), by simp, by simp⟩
theorem impl_contains (k : Nat) (l : List Int) (hl : l.length ≤ 1099511627776) (hk : l.length < k) : slices_ContainsFunc_at_impl_fits_1.f k l = some (!l.all byteM) := by
  unfold slices_ContainsFunc_at_impl_fits_1.f slices_IndexFunc_at_impl_fits_1.f
  obtain ⟨r, h1, h2⟩ := impl_idx_loop l hl l.length k 0 (by omega) hk
  rw [show ((0 : Nat) : Int) = 0 from rfl] at h1
  rw [h1]; simp only [Option.bind_some]; rw [h2]; simp

theorem impl_bytes (s : Int) : impl_BytesOf.f s = some (bytesM s) := by
  unfold impl_BytesOf.f; rw [impl_in]
  rcases bytesM_cases s with ⟨rfl, h⟩ | ⟨rfl, h⟩ | ⟨rfl, h⟩ | ⟨h0, h⟩
  · rfl
  · rfl
  · rfl
  · rw [h]; simp [h0]

theorem impl_aligned (a s : Int) : impl_Aligned.f a s = some (alignedM a s) := by
  unfold impl_Aligned.f alignedM; rw [impl_in, impl_bytes]
  by_cases ha : 0 ≤ a
  · rcases bytesM_cases s with ⟨rfl, h⟩ | ⟨rfl, h⟩ | ⟨rfl, h⟩ | ⟨h0, h⟩
    · rw [h]; simp [ha]
    · rw [h]; simp [ha, tmod_pos ha]; rfl
    · rw [h]; simp [ha, tmod_pos ha]; rfl
    · rw [h]; simp [h0]; intros; omega
  · rcases bytesM_cases s with ⟨rfl, h⟩ | ⟨rfl, h⟩ | ⟨rfl, h⟩ | ⟨h0, h⟩ <;> rw [h] <;> simp [ha]

theorem impl_fits_is (k : Nat) (l : List Int) (a s : Int) (hl : l.length ≤ 1099511627776) (hk : l.length < k) : impl_fits.f k l a s = some (fitsM l a s) := by
  have hw : wrap64 ((l.length : Int) - bytesM s) = (l.length : Int) - bytesM s := by have := bytesM_le4 s; unfold wrap64; omega
  unfold impl_fits.f fitsM
  by_cases h : (l.length : Int) ≤ 512
  · rw [if_pos h, impl_contains k l hl hk, impl_aligned, impl_bytes]; simp only [Option.bind_some]
    rw [hw]
    cases l.all byteM <;> cases alignedM a s <;> simp [h]
  · rw [if_neg h]; simp [h]

theorem impl_limit (s : Int) : impl_LimitOf.f s = some (limitM s) := by
  unfold impl_LimitOf.f; rw [impl_bytes]
  rcases limitM_cases s with ⟨rfl, h, k⟩ | ⟨rfl, h, k⟩ | ⟨rfl, h, k⟩ | ⟨h0, h, k⟩
  · rw [h, k]; simp [wrap64_8_1, shl_1_8]
  · rw [h, k]; simp [wrap64_8_2, shl_1_16]
  · rw [h, k]; simp [wrap64_8_4, shl_1_32]
  · rw [h, k]; rfl

theorem impl_isnum (v s : Int) : impl_isNum.f v s = some (decide (0 ≤ v ∧ v < limitM s)) := by
  unfold impl_isNum.f; rw [impl_limit]; simp only [Option.bind_some]
  have hw : wrap64 (limitM s - 1) = limitM s - 1 := by
    rcases limitM_cases s with ⟨_, _, h⟩ | ⟨_, _, h⟩ | ⟨_, _, h⟩ | ⟨_, _, h⟩ <;> rw [h] <;> unfold wrap64 <;> omega
  rw [hw, impl_in]; simp only [Option.bind_some]
  congr 1; rw [decide_eq_decide]; omega

theorem wraps_i64 (n : Int) (h₀ : 0 ≤ n) (h₁ : n < 2 ^ 63) : IntKind.i64.wrap n = n := by rw [IntKind.wrap_i64]; omega
theorem and_mask (i : Nat) (hi : i ≤ 63) (x : Int) (h₀ : 0 ≤ x) (h₁ : x ≤ 9223372036854775807) : Go.bits .and .i64 x (2 ^ i - 1) = x % 2 ^ i :=
  bits_mask .i64 63 (by decide) wraps_i64 i hi x h₀ (by omega)
theorem or_join (i : Nat) (x y : Int) (hx₀ : 0 ≤ x) (hx : x % 2 ^ i = 0) (hx₁ : x ≤ 9223372036854775807) (hy₀ : 0 ≤ y) (hy : y < 2 ^ i) (hy₁ : y ≤ 9223372036854775807) : Go.bits .or .i64 x y = x + y :=
  bits_join .i64 63 (by decide) wraps_i64 i x y hx₀ hx (by omega) hy₀ hy (by omega)
theorem i64wrap_id {a : Int} (h0 : -9223372036854775808 ≤ a) (h1 : a ≤ 9223372036854775807) : IntKind.i64.wrap a = a := by rw [IntKind.wrap_i64]; omega
theorem and255 {x : Int} (h₀ : 0 ≤ x) (h₁ : x ≤ 9223372036854775807) : Go.bits .and .i64 x 255 = x % 256 := and_mask 8 (by decide) x h₀ h₁
theorem and127 {x : Int} (h₀ : 0 ≤ x) (h₁ : x ≤ 9223372036854775807) : Go.bits .and .i64 x 127 = x % 128 := and_mask 7 (by decide) x h₀ h₁
theorem or_comm_i64 (x y : Int) : Go.bits .or .i64 x y = Go.bits .or .i64 y x := by
  simp only [Go.bits, BitVec.or_comm]

theorem impl_put_loop (l : List Int) (hl : l.length ≤ 512) (a n : Nat) (hn : n ≤ 4) (v : Int) (hv0 : 0 ≤ v) (hv : v ≤ 4294967295) (ha : a + n ≤ l.length) (d : Nat) : ∀ (k i : Nat), i + d = n → d < k →
    impl_PutNum.l0 k (a : Int) v (putM l a v i) (n : Int) i = some (putM l a v n, true) := by
  induction d with
  | zero =>
    intro k i hi hk
    obtain ⟨k, rfl⟩ : ∃ m, k = m + 1 := ⟨k - 1, by omega⟩
    obtain rfl : i = n := by omega
    simp only [impl_PutNum.l0]; rw [if_neg (by omega)]
  | succ d ih =>
    intro k i hi hk
    obtain ⟨k, rfl⟩ : ∃ m, k = m + 1 := ⟨k - 1, by omega⟩
    have hw1 : wrap64 ((a : Int) + (i : Int)) = ((a + i : Nat) : Int) := by unfold wrap64; omega
    have hw2 : wrap64 (8 * (i : Int)) = ((8 * i : Nat) : Int) := by unfold wrap64; omega
    have hw3 : wrap64 ((i : Int) + 1) = ((i + 1 : Nat) : Int) := by unfold wrap64; omega
    have hp1 : (0 : Int) < 256 ^ i := Int.pow_pos (by decide)
    have hq0 : 0 ≤ v / 256 ^ i := Int.ediv_nonneg hv0 (Int.le_of_lt hp1)
    have hq1 : v / 256 ^ i ≤ v := Int.ediv_le_self _ hv0
    have hs : shr .i64 v ((8 * i : Nat) : Int) = v / 256 ^ i := by
      unfold shr; rw [Int.toNat_natCast, Nat.min_eq_left (by simp [IntKind.bits]; omega), Int.pow_mul, show (2 : Int) ^ 8 = 256 from by decide]
    have hm : Go.bits .and .i64 (v / 256 ^ i) 255 = v / 256 ^ i % 256 := and255 hq0 (by omega)
    have hlen := putM_length l a v i
    simp only [impl_PutNum.l0]
    rw [if_pos (show (i : Int) < (n : Int) by omega), hw2, if_pos (by omega), hw1, if_pos (by omega), if_pos (by omega), hs, hm, hw3, Int.toNat_natCast]
    exact ih k (i + 1) (by omega) (by omega)
theorem clone_is (l : List Int) (hl : l.length ≤ 1099511627776) : slices_Clone_int_int.f l = some l := by
  unfold slices_Clone_int_int.f; simp only [Option.bind_some, List.length_nil, List.nil_append, Nat.zero_add]; rw [if_pos (by omega)]
theorem impl_put (k : Nat) (l : List Int) (a s v : Int) (hl : l.length ≤ 1099511627776) (hk : l.length + 10 < k) : impl_PutNum.f k l a s v = some (putResM l a s v) := by
  have hll := limitM_le s
  unfold impl_PutNum.f putResM putOkM
  rw [clone_is l hl, impl_fits_is k l a s hl (by omega), impl_isnum]; simp only [Option.bind_some]
  obtain ⟨k, rfl⟩ : ∃ m, k = m + 1 := ⟨k - 1, by omega⟩
  by_cases h : fitsM l a s = true
  · obtain ⟨h1, h2, h3, h4⟩ := (fitsM_iff l a s).1 h
    have ha : 0 ≤ a := by simp [alignedM] at h3; omega
    have hb := bytesM_le4 s
    rw [if_pos h]; simp only [impl_PutNum.j0, impl_bytes, Option.bind_some]
    by_cases hv : 0 ≤ v ∧ v < limitM s
    · rw [decide_eq_true hv, h]
      have := impl_put_loop l h1 a.toNat (bytesM s).toNat (by omega) v hv.1 (by omega) (by omega) (bytesM s).toNat k 0 (by omega) (by omega)
      rw [show ((a.toNat : Nat) : Int) = a by omega, show (((bytesM s).toNat : Nat) : Int) = bytesM s by omega] at this
      simpa [putM] using this
    · rw [decide_eq_false hv]; simp
  · rw [if_neg h]; simp only [impl_PutNum.j0]; simp [h]

theorem wrap_small (x : Int) (n : Nat) (h : x = n) (hn : n ≤ 4294967296) : wrap64 x = (n : Int) := by subst h; exact wrap64_id (by omega) (by omega)
theorem impl_get_loop (l : List Int) (hb : ∀ x ∈ l, 0 ≤ x ∧ x ≤ 255) (hl : l.length ≤ 512) (a n : Nat) (hn : n ≤ 4) (ha : a + n ≤ l.length) (d : Nat) : ∀ (k i : Nat), i + d = n → d < k →
    impl_GetNum.l0 k l (a : Int) (leM l a i) (n : Int) i = some (leM l a n, true) := by
  induction d with
  | zero =>
    intro k i hi hk
    obtain ⟨k, rfl⟩ : ∃ m, k = m + 1 := ⟨k - 1, by omega⟩
    obtain rfl : i = n := by omega
    simp only [impl_GetNum.l0]; rw [if_neg (by omega)]
  | succ d ih =>
    intro k i hi hk
    obtain ⟨k, rfl⟩ : ∃ m, k = m + 1 := ⟨k - 1, by omega⟩
    have hi3 : i ≤ 3 := by omega
    have ha5 : a ≤ 512 := by omega
    have hin : (i : Int) < (n : Int) := by omega
    have hal : ((a + i : Nat) : Int) < (l.length : Int) := by omega
    have hnx : i + 1 + d = n := by omega
    have hkd : d < k := by omega
    have h8 : 8 * i ≤ 64 := by omega
    have hw1 : wrap64 ((a : Int) + (i : Int)) = ((a + i : Nat) : Int) := wrap_small _ _ (by omega) (by omega)
    have hw2 : wrap64 (8 * (i : Int)) = ((8 * i : Nat) : Int) := wrap_small _ _ (by clear hw1; omega) (by clear hw1; omega)
    have hw3 : wrap64 ((i : Int) + 1) = ((i + 1 : Nat) : Int) := wrap_small _ _ (by clear hw1 hw2; omega) (by clear hw1 hw2; omega)
    have hr := rd_byte l hb (a + i) (by clear hw1 hw2 hw3; omega)
    have hle := leM_bound l hb a i (by clear hw1 hw2 hw3 hr; omega)
    have hp : (256 : Int) ^ i ≤ 256 ^ 3 := pow_le_i 256 i 3 (by decide) hi3
    have hp1 : (0 : Int) < 256 ^ i := Int.pow_pos (by decide)
    have hp3 : (256 : Int) ^ 3 = 16777216 := by decide
    have hm1 : 0 ≤ rd l ((a + i : Nat) : Int) * 256 ^ i := Int.mul_nonneg hr.1 (Int.le_of_lt hp1)
    have hm2 : rd l ((a + i : Nat) : Int) * 256 ^ i ≤ 255 * 256 ^ i := Int.mul_le_mul_of_nonneg_right hr.2 (Int.le_of_lt hp1)
    have hmb : rd l ((a + i : Nat) : Int) * 256 ^ i ≤ 4278190080 := by rw [hp3] at hp; clear hw1 hw2 hw3; omega
    have hlb : leM l a i ≤ 4278190080 := by rw [hp3] at hp; clear hw1 hw2 hw3 hmb hm1 hm2; omega
    clear hp hp3 hm2
    have h2 : (2 : Int) ^ (8 * i) = 256 ^ i := by rw [Int.pow_mul, show (2 : Int) ^ 8 = 256 from by decide]
    have hs : shl .i64 (rd l ((a + i : Nat) : Int)) ((8 * i : Nat) : Int) = rd l ((a + i : Nat) : Int) * 256 ^ i := by
      unfold shl; rw [Int.toNat_natCast, Nat.min_eq_left (show 8 * i ≤ IntKind.i64.bits from h8), h2]
      exact i64wrap_id (Int.le_trans (by decide) hm1) (Int.le_trans hmb (by decide))
    have ho : Go.bits .or .i64 (leM l a i) (rd l ((a + i : Nat) : Int) * 256 ^ i) = leM l a (i + 1) := by
      rw [or_comm_i64, or_join (8 * i) _ _ hm1 (by rw [h2]; exact Int.mul_emod_left _ _) (Int.le_trans hmb (by decide)) hle.1 (by rw [h2]; exact hle.2) (Int.le_trans hlb (by decide))]
      simp only [leM]; exact Int.add_comm _ _
    simp only [impl_GetNum.l0]
    rw [if_pos hin, hw1, if_pos (Int.natCast_nonneg _), if_pos hal, hw2, if_pos (Int.natCast_nonneg _), hs, ho, hw3]
    exact ih k (i + 1) hnx hkd
theorem impl_get (k : Nat) (l : List Int) (a s : Int) (hl : l.length ≤ 1099511627776) (hk : l.length < k) (hk5 : 5 < k) :
    impl_GetNum.f k l a s = some (if fitsM l a s = true then (leM l a.toNat (bytesM s).toNat, true) else (0, false)) := by
  unfold impl_GetNum.f; rw [impl_fits_is k l a s hl hk, impl_bytes]; simp only [Option.bind_some]
  by_cases h : fitsM l a s = true
  · obtain ⟨h1, h2, h3, h4⟩ := (fitsM_iff l a s).1 h
    have ha : 0 ≤ a := by simp [alignedM] at h3; omega
    have hb := bytesM_le4 s
    rw [if_pos h, if_pos h]
    have := impl_get_loop l h2 h1 a.toNat (bytesM s).toNat (by omega) (by omega) (bytesM s).toNat k 0 (by omega) (by omega)
    rw [show ((a.toNat : Nat) : Int) = a by omega, show (((bytesM s).toNat : Nat) : Int) = bytesM s by omega] at this
    exact this
  · rw [if_neg h, if_neg h]

theorem leM_set (l : List Int) (a j : Nat) (x : Int) (n : Nat) (h : a + n ≤ j) (hl : j < l.length) : leM (l.set j x) a n = leM l a n := by
  induction n with
  | zero => rfl
  | succ n ih =>
    simp only [leM]
    rw [ih (by omega), rd_nat _ (a + n) (by rw [List.length_set]; omega), rd_nat _ (a + n) (by omega), List.getElem_set_ne (by omega)]
theorem emod_step (v b c : Int) (hb : 0 ≤ b) : v % (b * c) = v % b + v / b % c * b := by
  rw [Int.emod_def v (b * c), ← Int.ediv_ediv_of_nonneg hb, Int.emod_def v b, Int.emod_def (v / b) c, Int.sub_mul, Int.mul_comm (c * (v / b / c)) b, ← Int.mul_assoc, Int.mul_comm (v / b) b]
  omega
theorem leM_putM (l : List Int) (a : Nat) (v : Int) (n : Nat) (h : a + n ≤ l.length) : leM (putM l a v n) a n = v % 256 ^ n := by
  induction n with
  | zero => simp only [leM, Int.pow_zero]; omega
  | succ n ih =>
    have hp : (0 : Int) < 256 ^ n := Int.pow_pos (by decide)
    have hl := putM_length l a v n
    simp only [leM, putM]
    rw [leM_set _ _ _ _ _ (Nat.le_refl _) (by omega), ih (by omega), rd_nat _ (a + n) (by rw [List.length_set]; omega), List.getElem_set_self, Int.pow_succ, emod_step v _ _ (Int.le_of_lt hp)]
theorem putM_bytes (l : List Int) (h : ∀ x ∈ l, 0 ≤ x ∧ x ≤ 255) (a : Nat) (v : Int) (n : Nat) : ∀ x ∈ putM l a v n, 0 ≤ x ∧ x ≤ 255 := by
  induction n with
  | zero => exact h
  | succ n ih =>
    intro x hx
    simp only [putM] at hx
    rcases List.mem_or_eq_of_mem_set hx with hx | rfl
    · exact ih x hx
    · omega
theorem limit_pow (s : Int) (h0 : 0 ≤ s) (h2 : s ≤ 2) : limitM s = 256 ^ (bytesM s).toNat := by
  rcases limitM_cases s with ⟨_, e, g⟩ | ⟨_, e, g⟩ | ⟨_, e, g⟩ | ⟨h', _, _⟩
  · rw [e, g]; decide
  · rw [e, g]; decide
  · rw [e, g]; decide
  · exact absurd ⟨h0, h2⟩ h'

/-- How many beats a burst has. -/
def beatsM (s : Int) : Int := if s = 0 then 1 else if s = 1 then 4 else if s = 2 then 4 else if s = 3 then 8 else 0
theorem beatsM_cases (s : Int) : (s = 0 ∧ beatsM s = 1) ∨ (s = 1 ∧ beatsM s = 4) ∨ (s = 2 ∧ beatsM s = 4) ∨ (s = 3 ∧ beatsM s = 8) ∨ (¬ (0 ≤ s ∧ s ≤ 3) ∧ beatsM s = 0) := by
  unfold beatsM; split
  · left; omega
  · split
    · right; left; omega
    · split
      · right; right; left; omega
      · split
        · right; right; right; left; omega
        · right; right; right; right; omega

/-- The next address of a burst; -1 where there is none. -/
def nextM (a s b : Int) : Int :=
  if alignedM a s = true ∧ a < 512 ∧ beatsM b ≠ 0 then (if b = 2 ∧ (a + bytesM s) % (4 * bytesM s) = 0 then a + bytesM s - 4 * bytesM s else a + bytesM s) else -1
theorem alignedM_iff (a s : Int) : alignedM a s = true ↔ 0 ≤ a ∧ 0 ≤ s ∧ s ≤ 2 ∧ a % bytesM s = 0 := by unfold alignedM; simp
theorem bytesM_pos {s : Int} (h0 : 0 ≤ s) (h2 : s ≤ 2) : 1 ≤ bytesM s ∧ bytesM s ≤ 4 := by
  rcases bytesM_cases s with ⟨_, h⟩ | ⟨_, h⟩ | ⟨_, h⟩ | ⟨h', h⟩ <;> omega
theorem bytesM_le (s : Int) : 0 ≤ bytesM s ∧ bytesM s ≤ 4 := by
  rcases bytesM_cases s with ⟨_, h⟩ | ⟨_, h⟩ | ⟨_, h⟩ | ⟨h', h⟩ <;> omega

theorem same_loop (l : List Int) (hl : l.length ≤ 1099511627776) (d : Nat) : ∀ (k i : Nat), i + d = l.length → d < k → laws_sameInts.l0 k l l i = some true := by
  induction d with
  | zero =>
    intro k i hi hk
    obtain ⟨k, rfl⟩ : ∃ m, k = m + 1 := ⟨k - 1, by omega⟩
    have h : ¬ (i : Int) < (l.length : Int) := by omega
    simp only [laws_sameInts.l0]; rw [if_neg h]
  | succ d ih =>
    intro k i hi hk
    obtain ⟨k, rfl⟩ : ∃ m, k = m + 1 := ⟨k - 1, by omega⟩
    have h : (i : Int) < (l.length : Int) := by omega
    have e := ih k (i + 1) (by omega) (by omega)
    simp only [laws_sameInts.l0]; rw [if_pos h, if_pos (Int.natCast_nonneg _), if_pos h, wrap_succ (n := l.length) (by omega) hl]
    simp only [if_true]; exact e
theorem same_refl (k : Nat) (l : List Int) (hl : l.length ≤ 1099511627776) (hk : l.length < k) : laws_sameInts.f k l l = some true := by
  unfold laws_sameInts.f; rw [if_pos rfl]; exact same_loop l hl l.length k 0 (by omega) hk

theorem and255_any (y : Int) : 0 ≤ Go.bits .and .i64 y 255 ∧ Go.bits .and .i64 y 255 ≤ 255 := by
  have e : ((BitVec.ofInt 64 y) &&& (BitVec.ofInt 64 255)).toNat ≤ 255 := by
    rw [BitVec.toNat_and]; exact Nat.and_le_right
  have h : Go.bits .and .i64 y 255 = ((((BitVec.ofInt 64 y) &&& (BitVec.ofInt 64 255)).toNat : Nat) : Int) := by
    unfold Go.bits; simp only []
    have e2 : (((BitVec.ofInt IntKind.i64.bits y &&& BitVec.ofInt IntKind.i64.bits 255).toNat : Nat) : Int) ≤ 255 := Int.ofNat_le.2 e
    exact wraps_i64 _ (Int.natCast_nonneg _) (Int.lt_of_le_of_lt e2 (by decide))
  rw [h]; omega
theorem byte_ok (b : List Int) (i h : Int) (hb : b.length ≤ 1048576) (hi : 0 ≤ i) : ∃ x i' h', spec_l1Byte.f b i h = some (x, i', h') ∧ 0 ≤ x ∧ x ≤ 255 ∧ 0 ≤ i' := by
  unfold spec_l1Byte.f
  by_cases hl : i < (b.length : Int)
  · rw [if_pos hl, if_pos hi]
    exact ⟨_, _, _, rfl, (and255_any _).1, (and255_any _).2, by rw [wrap64_id (by omega) (by omega)]; omega⟩
  · rw [if_neg hl]
    exact ⟨_, _, _, rfl, (and255_any _).1, (and255_any _).2, hi⟩
theorem four_ok (x y z w : Int) (hx : 0 ≤ x ∧ x ≤ 255) (hy : 0 ≤ y ∧ y ≤ 255) (hz : 0 ≤ z ∧ z ≤ 255) (hw : 0 ≤ w ∧ w ≤ 255) :
    wrap64 (wrap64 (wrap64 (wrap64 (x * 16777216) + wrap64 (y * 65536)) + wrap64 (z * 256)) + w) = x * 16777216 + y * 65536 + z * 256 + w := by
  have e1 : wrap64 (x * 16777216) = x * 16777216 := wrap64_id (by omega) (by omega)
  have e2 : wrap64 (y * 65536) = y * 65536 := wrap64_id (by clear e1; omega) (by clear e1; omega)
  have e3 : wrap64 (z * 256) = z * 256 := wrap64_id (by clear e1 e2; omega) (by clear e1 e2; omega)
  rw [e1, e2, e3]; clear e1 e2 e3
  have e4 : wrap64 (x * 16777216 + y * 65536) = x * 16777216 + y * 65536 := wrap64_id (by omega) (by omega)
  rw [e4]; clear e4
  have e5 : wrap64 (x * 16777216 + y * 65536 + z * 256) = x * 16777216 + y * 65536 + z * 256 := wrap64_id (by omega) (by omega)
  rw [e5]; clear e5
  exact wrap64_id (by omega) (by omega)
theorem tmod_in (x n : Int) (hx : 0 ≤ x) (hn : 0 < n) : 0 ≤ Int.tmod x n ∧ Int.tmod x n < n := by
  rw [Int.tmod_eq_emod_of_nonneg hx]; exact ⟨Int.emod_nonneg _ (by omega), Int.emod_lt_of_pos _ hn⟩
theorem below_ok (b : List Int) (i h n : Int) (hb : b.length ≤ 1048576) (hi : 0 ≤ i) : ∃ x i' h', spec_l1Below.f b i h n = some (x, i', h') ∧ 0 ≤ x ∧ (0 < n → x < n) ∧ 0 ≤ i' := by
  unfold spec_l1Below.f
  by_cases h0 : n ≤ 0
  · rw [if_pos h0]; exact ⟨_, _, _, rfl, by omega, by omega, hi⟩
  · rw [if_neg h0]
    obtain ⟨x1, i1, h1, e1, a1, b1, c1⟩ := byte_ok b i h hb hi
    have hn : ¬ n = 0 := by omega
    by_cases h2 : n ≤ 256
    · rw [if_pos h2, e1]; simp only [Option.bind_some]; rw [if_neg hn]
      have := tmod_in x1 n a1 (by omega)
      exact ⟨_, _, _, rfl, this.1, fun _ => this.2, c1⟩
    · rw [if_neg h2]
      obtain ⟨x2, i2, h2, e2, a2, b2, c2⟩ := byte_ok b i1 h1 hb c1
      obtain ⟨x3, i3, h3, e3, a3, b3, c3⟩ := byte_ok b i2 h2 hb c2
      obtain ⟨x4, i4, h4, e4, a4, b4, c4⟩ := byte_ok b i3 h3 hb c3
      rw [e1]; simp only [Option.bind_some]; rw [e2]; simp only [Option.bind_some]; rw [e3]; simp only [Option.bind_some]; rw [e4]; simp only [Option.bind_some]
      rw [if_neg hn, four_ok x1 x2 x3 x4 ⟨a1, b1⟩ ⟨a2, b2⟩ ⟨a3, b3⟩ ⟨a4, b4⟩]
      have := tmod_in (x1 * 16777216 + x2 * 65536 + x3 * 256 + x4) n (by omega) (by omega)
      exact ⟨_, _, _, rfl, this.1, fun _ => this.2, c4⟩

theorem new_loop (b : List Int) (hb : b.length ≤ 1048576) (d : Nat) : ∀ (k i : Nat) (h : Int), i + d = b.length → d < k → ∃ h', spec_l1New.l0 k b h i = some (b, 0, h') := by
  induction d with
  | zero =>
    intro k i h hi hk
    obtain ⟨k, rfl⟩ : ∃ m, k = m + 1 := ⟨k - 1, by omega⟩
    have hl : ¬ (i : Int) < (b.length : Int) := by omega
    exact ⟨h, by simp only [spec_l1New.l0]; rw [if_neg hl]⟩
  | succ d ih =>
    intro k i h hi hk
    obtain ⟨k, rfl⟩ : ∃ m, k = m + 1 := ⟨k - 1, by omega⟩
    have hl : (i : Int) < (b.length : Int) := by omega
    have hw : wrap64 ((i : Int) + 1) = ((i + 1 : Nat) : Int) := by unfold wrap64; omega
    simp only [spec_l1New.l0]; rw [if_pos hl]
    by_cases h4 : (i : Int) < 4000
    · rw [if_pos h4, if_pos (Int.natCast_nonneg _), hw]
      exact ih k (i + 1) _ (by clear hw; omega) (by clear hw; omega)
    · rw [if_neg h4]; exact ⟨_, rfl⟩
theorem new_ok (k : Nat) (b : List Int) (hb : b.length ≤ 1048576) (hk : b.length < k) : ∃ h, spec_l1New.f k b = some (b, 0, h) := by
  unfold spec_l1New.f
  exact new_loop b hb b.length k 0 _ (by omega) hk

theorem pick_ok (b : List Int) (i h : Int) (l : List Int) (hb : b.length ≤ 1048576) (hi : 0 ≤ i) (hl : 0 < l.length) : ∃ x i' h', spec_l1PickInt.f b i h l = some (x, i', h') ∧ x ∈ l ∧ 0 ≤ i' := by
  unfold spec_l1PickInt.f
  obtain ⟨x, i', h', e, h0, h1, h2⟩ := below_ok b i h (l.length : Int) hb hi
  have h1' := h1 (by omega)
  rw [e]; simp only [Option.bind_some]; rw [if_pos h0, if_pos h1']
  refine ⟨_, _, _, rfl, ?_, h2⟩
  unfold rd
  rw [List.getD_eq_getElem?_getD, List.getElem?_eq_getElem (show x.toNat < l.length by omega)]
  exact List.getElem_mem _

theorem value_ok (b : List Int) (i h s : Int) (hb : b.length ≤ 1048576) (hi : 0 ≤ i) : ∃ x i' h', spec_l4Value.f b i h s = some (x, i', h') ∧ -1 ≤ x ∧ x ≤ 4294967296 ∧ 0 ≤ i' := by
  have hL : 0 ≤ limitM s ∧ limitM s ≤ 4294967296 := by
    rcases limitM_cases s with ⟨_, _, h⟩ | ⟨_, _, h⟩ | ⟨_, _, h⟩ | ⟨_, _, h⟩ <;> omega
  have hw : wrap64 (limitM s - 1) = limitM s - 1 := wrap64_id (by omega) (by omega)
  have hm : 0 < mx 1 (limitM s) ∧ mx 1 (limitM s) ≤ 4294967296 := by unfold mx; split <;> omega
  unfold spec_l4Value.f
  obtain ⟨x1, i1, h1, e1, a1, b1, c1⟩ := below_ok b i h 256 hb hi
  have b1' := b1 (by omega)
  rw [e1]; simp only [Option.bind_some, spec_limit]
  obtain ⟨x2, i2, h2, e2, a2, b2, c2⟩ := below_ok b i1 h1 (mx 1 (limitM s)) hb c1
  have b2' := b2 hm.1
  rw [e2]; simp only [Option.bind_some]
  rw [hw]; clear hw
  obtain ⟨x, i', h', e, hx, c⟩ := pick_ok b i2 h2 [x1, x2, limitM s - 1, limitM s, 0, -1] hb c2 (by simp)
  rw [e]; simp only [Option.bind_some]
  refine ⟨x, i', h', rfl, ?_, ?_, c⟩ <;>
    · simp only [List.mem_cons, List.not_mem_nil, or_false] at hx
      rcases hx with rfl | rfl | rfl | rfl | rfl | rfl <;> omega

theorem once_ok (b : List Int) (i h n : Int) (hb : b.length ≤ 1048576) (hi : 0 ≤ i) : ∃ x i' h', spec_l1Once.f b i h n = some (x, i', h') ∧ 0 ≤ i' := by
  unfold spec_l1Once.f
  obtain ⟨x, i', h', e, _, _, c⟩ := below_ok b i h n hb hi
  rw [e]; exact ⟨_, _, _, rfl, c⟩
theorem mem_loop (b : List Int) (hb : b.length ≤ 1048576) (k : Nat) (d : Nat) : ∀ (l : List Int) (n : Int) (i h : Int), n = (d : Int) → l.length + d ≤ 30 → 0 ≤ i →
    ∃ l' i' h', spec_l4Mem.l0 (k + d + 1) l n b i h = some (l', i', h') ∧ l'.length ≤ 30 ∧ 0 ≤ i' := by
  induction d with
  | zero =>
    intro l n i h hn hl hi
    rw [spec_l4Mem.l0, if_neg (by omega)]
    by_cases h0 : (l.length : Int) > 0
    · rw [if_pos h0]
      obtain ⟨q, i1, h1, e1, c1⟩ := once_ok b i h 10 hb hi
      rw [e1]; simp only [Option.bind_some]
      by_cases hq : q = true
      · rw [if_pos hq]
        obtain ⟨y, i2, h2, e2, _, c2⟩ := pick_ok b i1 h1 [(-1), 256] hb c1 (by simp)
        rw [e2]; simp only [Option.bind_some]
        rw [if_pos h0]; exact ⟨_, _, _, rfl, by rw [List.length_set]; omega, c2⟩
      · rw [if_neg hq]; exact ⟨_, _, _, rfl, by omega, c1⟩
    · rw [if_neg h0]; exact ⟨_, _, _, rfl, by omega, hi⟩
  | succ d ih =>
    intro l n i h hn hl hi
    have hw : wrap64 (n - 1) = (d : Int) := by subst hn; unfold wrap64; omega
    rw [spec_l4Mem.l0, if_pos (by omega), hw]; clear hw
    obtain ⟨x, i1, h1, e1, _, _, c1⟩ := below_ok b i h 256 hb hi
    rw [e1]; simp only [Option.bind_some]
    rw [if_pos (by omega)]
    exact ih (l ++ [x]) _ i1 h1 rfl (by rw [List.length_append]; simp; omega) c1
theorem mem_ok (k : Nat) (b : List Int) (i h : Int) (hb : b.length ≤ 1048576) (hi : 0 ≤ i) (hk : 40 ≤ k) : ∃ l i' h', spec_l4Mem.f k b i h = some (l, i', h') ∧ l.length ≤ 30 ∧ 0 ≤ i' := by
  unfold spec_l4Mem.f
  obtain ⟨x, i1, h1, e1, a1, b1, c1⟩ := below_ok b i h 20 hb hi
  rw [e1]; simp only [Option.bind_some]
  have b1' := b1 (by omega)
  obtain ⟨k', rfl⟩ : ∃ k', k = k' + x.toNat + 1 := ⟨k - (x.toNat + 1), by omega⟩
  exact mem_loop b hb k' x.toNat [] x i1 h1 (by omega) (by simp; omega) c1
theorem draw_put (k : Nat) (b : List Int) (hb : b.length ≤ 1048576) (hk : b.length + 40 ≤ k) : ∃ m a s v, spec_DrawPutNum.f k b = some (m, a, s, v) ∧ m.length ≤ 30 := by
  unfold spec_DrawPutNum.f
  obtain ⟨h0, e0⟩ := new_ok k b hb (by omega)
  rw [e0]; simp only [Option.bind_some]
  obtain ⟨s, i1, h1, e1, _, c1⟩ := pick_ok b 0 h0 [0, 1, 2, 2, 3] hb (by omega) (by simp)
  rw [e1]; simp only [Option.bind_some]
  obtain ⟨m, i2, h2, e2, hm, c2⟩ := mem_ok k b i1 h1 hb c1 (by omega)
  rw [e2]; simp only [Option.bind_some]
  obtain ⟨x, i3, h3, e3, _, _, c3⟩ := below_ok b i2 h2 22 hb c2
  rw [e3]; simp only [Option.bind_some]
  obtain ⟨v, i4, h4, e4, _, _, c4⟩ := value_ok b i3 h3 s hb c3
  rw [e4]; exact ⟨_, _, _, _, rfl, hm⟩
theorem putM_out (l : List Int) (a : Nat) (v : Int) (n i : Nat) (hi : i < l.length) (h : i < a ∨ a + n ≤ i) : rd (putM l a v n) (i : Int) = rd l (i : Int) := by
  induction n with
  | zero => rfl
  | succ n ih =>
    have hl := putM_length l a v n
    simp only [putM]
    rw [rd_nat _ i (by rw [List.length_set]; omega), List.getElem_set_ne (by omega), ← rd_nat _ i (by omega), ih (by omega)]
theorem nums_loop (m x : List Int) (a s v : Int) (hl : x.length = m.length) (hm : m.length ≤ 30) (ha : 0 ≤ a) (hb : a + bytesM s ≤ m.length) (hv : v < limitM s)
    (hx : ∀ i : Nat, i < m.length → ((i : Int) < a ∨ a + bytesM s ≤ (i : Int)) → rd x (i : Int) = rd m (i : Int)) (d : Nat) :
    ∀ (k i : Nat), i + d = m.length → d < k → laws_FnNums.l0 k m a s v x v true (i : Int) = some true := by
  have hbb := bytesM_le4 s
  induction d with
  | zero =>
    intro k i hi hk
    obtain ⟨k, rfl⟩ : ∃ q, k = q + 1 := ⟨k - 1, by omega⟩
    rw [laws_FnNums.l0, if_neg (by omega), if_pos rfl, if_pos rfl, impl_limit]; simp only [Option.bind_some]
    rw [decide_eq_true hv]
  | succ d ih =>
    intro k i hi hk
    obtain ⟨k, rfl⟩ : ∃ q, k = q + 1 := ⟨k - 1, by omega⟩
    have hil : (i : Int) < (m.length : Int) := by omega
    have hix : (i : Int) < (x.length : Int) := by omega
    have hxl : (x.length : Int) = (m.length : Int) := by omega
    have rest := ih k (i + 1) (by omega) (by omega)
    rw [laws_FnNums.l0, if_pos hil, if_pos hxl, wrap_succ (n := m.length) (by omega) (by omega)]
    by_cases h1 : (i : Int) < a
    · rw [if_pos h1, if_pos (Int.natCast_nonneg _), if_pos hix, if_pos (hx i (by omega) (.inl h1))]; exact rest
    · rw [if_neg h1, impl_bytes]; simp only [Option.bind_some]
      have hw : wrap64 (a + bytesM s) = a + bytesM s := wrap64_id (by omega) (by omega)
      rw [hw]
      by_cases h2 : (i : Int) ≥ a + bytesM s
      · rw [if_pos h2, if_pos (Int.natCast_nonneg _), if_pos hix, if_pos (hx i (by clear hw; omega) (.inr h2))]; exact rest
      · rw [if_neg h2]; exact rest
theorem nums_put (k : Nat) (m : List Int) (a s v : Int) (hm : m.length ≤ 30) (hk : 600 ≤ k) (hp : putOkM m a s v = true) : laws_FnNums.j0 (k + 2) m a s v (putM m a.toNat v (bytesM s).toNat) true false = some true := by
  unfold putOkM at hp
  rw [Bool.and_eq_true, decide_eq_true_eq] at hp
  obtain ⟨hf, hv⟩ := hp
  obtain ⟨h1, h2, h3, h4⟩ := (fitsM_iff m a s).1 hf
  obtain ⟨g1, g2, g3, g4⟩ := (alignedM_iff a s).1 h3
  have hbb := bytesM_le4 s
  have hlen := putM_length m a.toNat v (bytesM s).toNat
  have hfit : fitsM (putM m a.toNat v (bytesM s).toNat) a s = true := (fitsM_iff _ a s).2 ⟨by omega, putM_bytes m h2 a.toNat v _, h3, by omega⟩
  have hle : leM (putM m a.toNat v (bytesM s).toNat) a.toNat (bytesM s).toNat = v := by
    rw [leM_putM m a.toNat v _ (by omega), ← limit_pow s g2 g3]; exact Int.emod_eq_of_lt hv.1 hv.2
  rw [laws_FnNums.j0, if_neg (by simp), if_pos rfl, impl_get (k + 1) _ a s (by omega) (by omega) (by omega), if_pos hfit, hle]; simp only [Option.bind_some]
  exact nums_loop m _ a s v hlen hm g1 (by omega) hv.2 (fun i hi hor => putM_out m a.toNat v _ i hi (by omega)) m.length (k + 1) 0 (by omega) (by omega)
theorem nums_not (k : Nat) (m : List Int) (a s v : Int) : laws_FnNums.j0 (k + 2) m a s v m false false = some true := by
  rw [laws_FnNums.j0, if_neg (by simp), if_neg (by simp)]
theorem nums_all (k : Nat) (c : List Int) (hc : c.length ≤ 1048576) (hk : 1048700 ≤ k) : laws_FnNums.f (k + 2) c = some true := by
  have hb : ¬ ((c.length : Int) > 1048576) := by omega
  unfold laws_FnNums.f laws_big.f; simp only [Option.bind_some]
  rw [decide_eq_false hb]; simp only [Bool.false_eq_true, if_false]
  obtain ⟨m, a, s, v, e, hm⟩ := draw_put (k + 2) c (by omega) (by omega)
  rw [e]; simp only [Option.bind_some]
  rw [impl_put (k + 2) m a s v (by omega) (by omega), spec_put (k + 2) m a s v (by omega) (by omega)]; simp only [Option.bind_some, bne_self_eq_false, Bool.false_eq_true, if_false]
  unfold putResM
  by_cases hp : putOkM m a s v = true
  · rw [if_pos hp]; simp only [if_true]
    exact nums_put k m a s v hm (by omega) hp
  · rw [if_neg hp]; simp only [Bool.false_eq_true, if_false]
    rw [same_refl (k + 2) m (by omega) (by omega)]; simp only [Option.bind_some, Bool.not_true]
    exact nums_not k m a s v
theorem FnNums : laws_FnNums.Pure := by
  intro c _ _ _
  by_cases hc : c.length ≤ 1048576
  · exact ⟨_, nums_all 1048700 c hc (Nat.le_refl _)⟩
  · refine ⟨0, ?_⟩
    have hb : (c.length : Int) > 1048576 := by omega
    unfold laws_FnNums.f laws_big.f; simp only [Option.bind_some]
    rw [decide_eq_true hb]; rfl

end Go.Proofs.Ytopcmbodjkanaaa.Pure
