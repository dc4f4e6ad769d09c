/- The program's ModelOk answers as the reference's and leaves its argument alone, for every model. -/
import Derived.Test.YthikbgjlcdkoaaaMFnExactModelOkx
namespace Go.Proofs.Ythikbgjlcdkoaaa.Pure
open Go.RowKit Go.Proofs.Ythikbgjlcdkoaaa.MFnExactModelOk Go.Proofs.YthikbgjlcdkoaaaW.PrintWords Go.Proofs.YthikbgjlcdkoaaaW.PrintLast Go.Proofs.YthikbgjlcdkoaaaW.PrintMore
set_option linter.unusedVariables false
set_option linter.unusedSimpArgs false
set_option maxHeartbeats 4000000

/-- How many bytes a size has. -/
def bytesM (s : Int) : Int := if s = 0 then 1 else if s = 1 then 2 else if s = 2 then 4 else 0
theorem bytesM_cases (s : Int) : (s = 0 ∧ bytesM s = 1) ∨ (s = 1 ∧ bytesM s = 2) ∨ (s = 2 ∧ bytesM s = 4) ∨ (¬ (0 ≤ s ∧ s ≤ 2) ∧ bytesM s = 0) := by
  unfold bytesM; split
  · left; omega
  · split
    · right; left; omega
    · split
      · right; right; left; omega
      · right; right; right; omega
theorem shl_1_0 : shl .i64 1 0 = 1 := by decide
theorem shl_1_1 : shl .i64 1 1 = 2 := by decide
theorem shl_1_2 : shl .i64 1 2 = 4 := by decide

/-- How many numbers a size has. -/
def limitM (s : Int) : Int := if s = 0 then 256 else if s = 1 then 65536 else if s = 2 then 4294967296 else 0
theorem limitM_cases (s : Int) : (s = 0 ∧ bytesM s = 1 ∧ limitM s = 256) ∨ (s = 1 ∧ bytesM s = 2 ∧ limitM s = 65536) ∨ (s = 2 ∧ bytesM s = 4 ∧ limitM s = 4294967296) ∨ (¬ (0 ≤ s ∧ s ≤ 2) ∧ bytesM s = 0 ∧ limitM s = 0) := by
  unfold limitM bytesM; split
  · left; omega
  · split
    · right; left; omega
    · split
      · right; right; left; omega
      · right; right; right; omega
theorem shl_1_8 : shl .i64 1 8 = 256 := by decide
theorem shl_1_16 : shl .i64 1 16 = 65536 := by decide
theorem shl_1_32 : shl .i64 1 32 = 4294967296 := by decide
theorem wrap64_8_1 : wrap64 8 = 8 := by unfold wrap64; omega
theorem wrap64_8_2 : wrap64 16 = 16 := by unfold wrap64; omega
theorem wrap64_8_4 : wrap64 32 = 32 := by unfold wrap64; omega

theorem wf_of {a : Int} (h : (Lit.int .i64 a).wf = true) : -9223372036854775808 ≤ a ∧ a ≤ 9223372036854775807 := by
  simp [Lit.wf, IntKind.min, IntKind.max, IntKind.signed, IntKind.bits] at h; omega
theorem pow_le_i (b i j : Nat) (h0 : 0 < b) (h : i ≤ j) : (b : Int) ^ i ≤ (b : Int) ^ j := by
  have h1 := Nat.pow_le_pow_right h0 h
  have h2 : ((b ^ i : Nat) : Int) ≤ ((b ^ j : Nat) : Int) := Int.ofNat_le.2 h1
  rwa [Int.natCast_pow, Int.natCast_pow] at h2
theorem wrap64_id {a : Int} (h0 : -9223372036854775808 ≤ a) (h1 : a ≤ 9223372036854775807) : wrap64 a = a := by unfold wrap64; omega

theorem wrap_succ {i n : Nat} (h : i < n) (hn : n ≤ 1099511627776) : wrap64 ((i : Int) + 1) = ((i + 1 : Nat) : Int) := by unfold wrap64; omega
theorem rd_nat (l : List Int) (i : Nat) (h : i < l.length) : rd l (i : Int) = l[i] := by
  unfold rd; simp [List.getD_eq_getElem?_getD, List.getElem?_eq_getElem h]
theorem rdOf_nat {α : Type} (d : α) (l : List α) (i : Nat) (h : i < l.length) : rdOf d l (i : Int) = l[i] := by
  unfold rdOf; simp [List.getD_eq_getElem?_getD, List.getElem?_eq_getElem h]
theorem set_take {α : Type} (l : List α) (i : Nat) (x : α) (h : i < l.length) : (l.set i x).take (i + 1) = l.take i ++ [x] := by
  rw [List.take_succ_eq_append_getElem (by simpa using h), List.take_set, List.set_eq_of_length_le (by simp; omega)]; simp
theorem set_drop {α : Type} (l : List α) (i : Nat) (x : α) : (l.set i x).drop (i + 1) = l.drop (i + 1) := by
  rw [List.drop_set]; simp

def wordM (x : Int) : Bool := decide (0 ≤ x ∧ x < 4294967296)
/-- A device is valid. -/
def devOkM (r : List Int) (t : Int) (f : List Int) : Bool := decide ((r.length : Int) = 4) && decide ((f.length : Int) ≤ 4) && r.all wordM && f.all wordM && wordM t
theorem devOkM_iff (r : List Int) (t : Int) (f : List Int) : devOkM r t f = true ↔ r.length = 4 ∧ f.length ≤ 4 ∧ (∀ x ∈ r, 0 ≤ x ∧ x < 4294967296) ∧ (∀ x ∈ f, 0 ≤ x ∧ x < 4294967296) ∧ 0 ≤ t ∧ t < 4294967296 := by
  unfold devOkM; simp [wordM]; constructor
  · rintro ⟨⟨⟨⟨h1, h2⟩, h3⟩, h4⟩, h5⟩; exact ⟨by omega, by omega, h3, h4, h5⟩
  · rintro ⟨h1, h2, h3, h4, h5⟩; exact ⟨⟨⟨⟨by omega, by omega⟩, h3⟩, h4⟩, h5⟩
theorem word_alt (x : Int) : decide (0 ≤ x ∧ x ≤ 4294967295) = wordM x := by unfold wordM; rw [decide_eq_decide]; omega
theorem limit_two : limitM 2 = 4294967296 := rfl
theorem wrap_max : wrap64 (4294967296 - 1) = 4294967295 := by unfold wrap64; omega

/-- An address fits a size. -/
def alignedM (a s : Int) : Bool := decide (0 ≤ a ∧ 0 ≤ s ∧ s ≤ 2 ∧ a % bytesM s = 0)
theorem tmod_pos {a b : Int} (h : 0 ≤ a) : Int.tmod a b = a % b := Int.tmod_eq_emod_of_nonneg h

def byteM (x : Int) : Bool := decide (0 ≤ x ∧ x ≤ 255)
/-- A memory is valid and a number fits at an address. -/
def fitsM (l : List Int) (a s : Int) : Bool := decide ((l.length : Int) ≤ 512) && l.all byteM && alignedM a s && decide (a ≤ (l.length : Int) - bytesM s)
theorem fitsM_iff (l : List Int) (a s : Int) : fitsM l a s = true ↔ l.length ≤ 512 ∧ (∀ x ∈ l, 0 ≤ x ∧ x ≤ 255) ∧ alignedM a s = true ∧ a + bytesM s ≤ l.length := by
  unfold fitsM; simp [byteM]; constructor
  · rintro ⟨⟨⟨h1, h2⟩, h3⟩, h4⟩; exact ⟨by omega, h2, h3, by omega⟩
  · rintro ⟨h1, h2, h3, h4⟩; exact ⟨⟨⟨by omega, h2⟩, h3⟩, by omega⟩
theorem bytesM_le4 (s : Int) : 0 ≤ bytesM s ∧ bytesM s ≤ 4 := by
  rcases bytesM_cases s with ⟨_, h⟩ | ⟨_, h⟩ | ⟨_, h⟩ | ⟨h', h⟩ <;> omega
/-- The number of so many bytes from a place on, the least significant first. -/
def leM (l : List Int) (a : Nat) : Nat → Int
  | 0 => 0
  | n + 1 => leM l a n + rd l ((a + n : Nat) : Int) * 256 ^ n
theorem rd_byte (l : List Int) (h : ∀ x ∈ l, 0 ≤ x ∧ x ≤ 255) (i : Nat) (hi : i < l.length) : 0 ≤ rd l (i : Int) ∧ rd l (i : Int) ≤ 255 := by
  rw [rd_nat _ _ hi]; exact h _ (List.getElem_mem hi)
theorem leM_bound (l : List Int) (h : ∀ x ∈ l, 0 ≤ x ∧ x ≤ 255) (a n : Nat) (hn : a + n ≤ l.length) : 0 ≤ leM l a n ∧ leM l a n < 256 ^ n := by
  induction n with
  | zero => exact ⟨Int.le_refl _, by simp [leM]⟩
  | succ n ih =>
    have hi := ih (by omega)
    have hb := rd_byte l h (a + n) (by omega)
    have hp : (0 : Int) < 256 ^ n := Int.pow_pos (by decide)
    have h1 : 0 ≤ rd l ((a + n : Nat) : Int) * 256 ^ n := Int.mul_nonneg hb.1 (Int.le_of_lt hp)
    have h2 : rd l ((a + n : Nat) : Int) * 256 ^ n ≤ 255 * 256 ^ n := Int.mul_le_mul_of_nonneg_right hb.2 (Int.le_of_lt hp)
    simp only [leM, Int.pow_succ]; omega
/-- So many bytes of a number, laid from a place on. -/
def putM (l : List Int) (a : Nat) (v : Int) : Nat → List Int
  | 0 => l
  | n + 1 => (putM l a v n).set (a + n) (v / 256 ^ n % 256)
theorem putM_length (l : List Int) (a : Nat) (v : Int) (n : Nat) : (putM l a v n).length = l.length := by
  induction n with
  | zero => rfl
  | succ n ih => simp [putM, ih]

/-- A model is valid. -/
def modelOkM (m r : List Int) (t : Int) (f : List Int) : Bool := decide ((m.length : Int) = 192) && m.all byteM && devOkM r t f

theorem spec_in (a b c : Int) : spec_l1In.f a b c = some (decide (b ≤ a ∧ a ≤ c)) := by
  unfold spec_l1In.f; by_cases h : b ≤ a
  · rw [if_pos h]; simp [h]
  · rw [if_neg h]; simp [h]

theorem spec_bytes (s : Int) : spec_BytesOf.f s = some (bytesM s) := by
  unfold spec_BytesOf.f; rw [spec_in]
  rcases bytesM_cases s with ⟨rfl, h⟩ | ⟨rfl, h⟩ | ⟨rfl, h⟩ | ⟨h0, h⟩
  · rfl
  · rfl
  · rfl
  · rw [h]; simp [h0]

theorem spec_limit (s : Int) : spec_LimitOf.f s = some (limitM s) := by
  unfold spec_LimitOf.f; rw [spec_bytes]
  rcases limitM_cases s with ⟨rfl, h, k⟩ | ⟨rfl, h, k⟩ | ⟨rfl, h, k⟩ | ⟨h0, h, k⟩
  · rw [h, k]; simp [wrap64_8_1, shl_1_8]
  · rw [h, k]; simp [wrap64_8_2, shl_1_16]
  · rw [h, k]; simp [wrap64_8_4, shl_1_32]
  · rw [h, k]; rfl

theorem spec_words_loop (l : List Int) (hl : l.length ≤ 1099511627776) (d : Nat) : ∀ (k i : Nat), i + d = l.length → d < k → spec_l8Words.l0 k l i = some ((l.drop i).all wordM) := by
  induction d with
  | zero =>
    intro k i hi hk
    obtain ⟨k, rfl⟩ : ∃ m, k = m + 1 := ⟨k - 1, by omega⟩
    have h : ¬ (i : Int) < (l.length : Int) := by omega
    simp only [spec_l8Words.l0]; rw [if_neg h, List.drop_eq_nil_of_le (by omega)]; simp
  | succ d ih =>
    intro k i hi hk
    obtain ⟨k, rfl⟩ : ∃ m, k = m + 1 := ⟨k - 1, by omega⟩
    have h : (i : Int) < (l.length : Int) := by omega
    have h0 : (0 : Int) ≤ (i : Int) := by omega
    have hil : i < l.length := by omega
    simp only [spec_l8Words.l0, spec_limit, Option.bind_some, limit_two, wrap_max]; rw [if_pos h, if_pos h0, spec_in, wrap_succ (n := l.length) (by omega) hl, ih k (i + 1) (by omega) (by omega), rd_nat _ _ hil, List.drop_eq_getElem_cons hil, word_alt]
    simp only [List.all_cons, Option.bind_some]
    cases wordM l[i] <;> simp
theorem spec_words (k : Nat) (l : List Int) (hl : l.length ≤ 1099511627776) (hk : l.length < k) : spec_l8Words.f k l = some (l.all wordM) := by
  unfold spec_l8Words.f
  have := spec_words_loop l hl l.length k 0 (by omega) hk
  simpa using this
theorem spec_devok (k : Nat) (r : List Int) (t : Int) (f : List Int) (hr : r.length ≤ 1099511627776) (hf : f.length ≤ 1099511627776) (kr : r.length < k) (kf : f.length < k) : spec_DevOk.f k r t f = some (devOkM r t f) := by
  unfold spec_DevOk.f devOkM
  rw [spec_words k r hr kr, spec_words k f hf kf, spec_limit, limit_two]; simp only [Option.bind_some]
  rw [wrap_max, spec_in, word_alt]; simp only [Option.bind_some]
  by_cases h1 : (r.length : Int) = 4 <;> by_cases h2 : (f.length : Int) ≤ 4 <;> cases r.all wordM <;> cases f.all wordM <;> cases wordM t <;> simp [h1, h2]

theorem spec_bytes_loop (l : List Int) (hl : l.length ≤ 1099511627776) (d : Nat) : ∀ (k i : Nat), i + d = l.length → d < k →
    spec_l4Bytes.l0 k l i = some ((l.drop i).all byteM && decide ((l.length : Int) ≤ 512)) := by
  induction d with
  | zero =>
    intro k i hi hk
    obtain ⟨k, rfl⟩ : ∃ m, k = m + 1 := ⟨k - 1, by omega⟩
    have h : ¬ (i : Int) < (l.length : Int) := by omega
    simp only [spec_l4Bytes.l0]; rw [if_neg h, List.drop_eq_nil_of_le (by omega)]; simp
  | succ d ih =>
    intro k i hi hk
    obtain ⟨k, rfl⟩ : ∃ m, k = m + 1 := ⟨k - 1, by omega⟩
    have h : (i : Int) < (l.length : Int) := by omega
    have h0 : (0 : Int) ≤ (i : Int) := by omega
    have hil : i < l.length := by omega
    simp only [spec_l4Bytes.l0]; rw [if_pos h, if_pos h0, spec_in, wrap_succ (n := l.length) (by omega) hl, ih k (i + 1) (by omega) (by omega), rd_nat _ _ hil, List.drop_eq_getElem_cons hil]
    simp only [List.all_cons, Option.bind_some]
    cases e : byteM l[i] with
    | true => have e' : decide (0 ≤ l[i] ∧ l[i] ≤ 255) = true := e; rw [if_pos e']; simp
    | false => have e' : decide (0 ≤ l[i] ∧ l[i] ≤ 255) = false := e; rw [e']; simp
theorem spec_bytes_all (k : Nat) (l : List Int) (hl : l.length ≤ 1099511627776) (hk : l.length < k) : spec_l4Bytes.f k l = some (l.all byteM && decide ((l.length : Int) ≤ 512)) := by
  unfold spec_l4Bytes.f
  have := spec_bytes_loop l hl l.length k 0 (by omega) hk
  simpa using this
theorem wrap_len (l : List Int) (hl : l.length ≤ 1099511627776) (s : Int) : wrap64 ((l.length : Int) - bytesM s) = (l.length : Int) - bytesM s := by
  have := bytesM_le4 s; unfold wrap64; omega

theorem spec_modelok (k : Nat) (m r : List Int) (t : Int) (f : List Int) (hm : m.length ≤ 1099511627776) (hr : r.length ≤ 1099511627776) (hf : f.length ≤ 1099511627776) (km : m.length < k) (kr : r.length < k) (kf : f.length < k) :
    spec_ModelOk.f k m r t f = some (modelOkM m r t f) := by
  unfold spec_ModelOk.f modelOkM
  rw [spec_bytes_all k m hm km, spec_devok k r t f hr hf kr kf]; simp only [Option.bind_some]
  by_cases h1 : (m.length : Int) = 192
  · rw [if_pos h1, h1]; cases m.all byteM <;> simp
  · rw [if_neg h1]; simp [h1]

theorem impl_in (a b c : Int) : impl_within.f a b c = some (decide (b ≤ a ∧ a ≤ c)) := by
  unfold impl_within.f; by_cases h : b ≤ a
  · rw [if_pos h]; simp [h]
  · rw [if_neg h]; simp [h]

theorem impl_bytes (s : Int) : impl_BytesOf.f s = some (bytesM s) := by
  unfold impl_BytesOf.f; rw [impl_in]
  rcases bytesM_cases s with ⟨rfl, h⟩ | ⟨rfl, h⟩ | ⟨rfl, h⟩ | ⟨h0, h⟩
  · rfl
  · rfl
  · rfl
  · rw [h]; simp [h0]

theorem impl_limit (s : Int) : impl_LimitOf.f s = some (limitM s) := by
  unfold impl_LimitOf.f; rw [impl_bytes]
  rcases limitM_cases s with ⟨rfl, h, k⟩ | ⟨rfl, h, k⟩ | ⟨rfl, h, k⟩ | ⟨h0, h, k⟩
  · rw [h, k]; simp [wrap64_8_1, shl_1_8]
  · rw [h, k]; simp [wrap64_8_2, shl_1_16]
  · rw [h, k]; simp [wrap64_8_4, shl_1_32]
  · rw [h, k]; rfl

theorem impl_isnum (v s : Int) : impl_isNum.f v s = some (decide (0 ≤ v ∧ v < limitM s)) := by
  unfold impl_isNum.f; rw [impl_limit]; simp only [Option.bind_some]
  have hw : wrap64 (limitM s - 1) = limitM s - 1 := by
    rcases limitM_cases s with ⟨_, _, h⟩ | ⟨_, _, h⟩ | ⟨_, _, h⟩ | ⟨_, _, h⟩ <;> rw [h] <;> unfold wrap64 <;> omega
  rw [hw, impl_in]; simp only [Option.bind_some]
  congr 1; rw [decide_eq_decide]; omega

theorem impl_devok_one (x : Int) : impl_DevOk_1.f x = some (!wordM x) := by unfold impl_DevOk_1.f; rw [impl_isnum, limit_two]; rfl
theorem impl_idx2_loop (l : List Int) (hl : l.length ≤ 1099511627776) (d : Nat) : ∀ (k i : Nat), i + d = l.length → d < k →
    ∃ r, slices_IndexFunc_at_impl_DevOk_1.l0 k l (l.length : Int) i = some r ∧ decide (r ≥ 0) = !(l.drop i).all wordM := by
  induction d with
  | zero =>
    intro k i hi hk
    obtain ⟨k, rfl⟩ : ∃ m, k = m + 1 := ⟨k - 1, by omega⟩
    have h : ¬ (i : Int) < (l.length : Int) := by omega
    exact ⟨-1, by simp only [slices_IndexFunc_at_impl_DevOk_1.l0]; rw [if_neg h], by rw [List.drop_eq_nil_of_le (by omega)]; rfl⟩
  | succ d ih =>
    intro k i hi hk
    obtain ⟨k, rfl⟩ : ∃ m, k = m + 1 := ⟨k - 1, by omega⟩
    have h : (i : Int) < (l.length : Int) := by omega
    have h0 : (0 : Int) ≤ (i : Int) := by omega
    have hil : i < l.length := by omega
    obtain ⟨r, h1, h2⟩ := ih k (i + 1) (by omega) (by omega)
    simp only [slices_IndexFunc_at_impl_DevOk_1.l0]; rw [if_pos h, if_pos h0, if_pos h, impl_devok_one, wrap_succ (n := l.length) (by omega) hl, rd_nat _ _ hil, List.drop_eq_getElem_cons hil]
    simp only [List.all_cons, Option.bind_some]
    cases e : wordM l[i] with
    | true => exact ⟨r, by simpa using h1, by simpa using h2⟩
    | false => exact ⟨(i : Int), by simp, by simp⟩
theorem impl_contains2 (k : Nat) (l : List Int) (hl : l.length ≤ 1099511627776) (hk : l.length < k) : slices_ContainsFunc_at_impl_DevOk_1.f k l = some (!l.all wordM) := by
  unfold slices_ContainsFunc_at_impl_DevOk_1.f slices_IndexFunc_at_impl_DevOk_1.f
  obtain ⟨r, h1, h2⟩ := impl_idx2_loop l hl l.length k 0 (by omega) hk
  rw [show ((0 : Nat) : Int) = 0 from rfl] at h1
  rw [h1]; simp only [Option.bind_some]; rw [h2]; simp
theorem impl_devok (k : Nat) (r : List Int) (t : Int) (f : List Int) (hr : r.length ≤ 1099511627776) (hf : f.length ≤ 1099511627776) (kr : r.length < k) (kf : f.length < k) : impl_DevOk.f k r t f = some (devOkM r t f) := by
  have hw : decide (0 ≤ t ∧ t < 4294967296) = wordM t := rfl
  unfold impl_DevOk.f devOkM
  rw [impl_contains2 k r hr kr, impl_contains2 k f hf kf, impl_isnum, limit_two, hw]; simp only [Option.bind_some]
  by_cases h1 : (r.length : Int) = 4 <;> by_cases h2 : (f.length : Int) ≤ 4 <;> cases r.all wordM <;> cases f.all wordM <;> cases wordM t <;> simp [h1, h2]

theorem impl_fits_one (x : Int) : impl_fits_1.f x = some (!byteM x) := by unfold impl_fits_1.f; rw [impl_in]; rfl
theorem impl_idx_loop (l : List Int) (hl : l.length ≤ 1099511627776) (d : Nat) : ∀ (k i : Nat), i + d = l.length → d < k →
    ∃ r, slices_IndexFunc_at_impl_fits_1.l0 k l (l.length : Int) i = some r ∧ decide (r ≥ 0) = !(l.drop i).all byteM := by
  induction d with
  | zero =>
    intro k i hi hk
    obtain ⟨k, rfl⟩ : ∃ m, k = m + 1 := ⟨k - 1, by omega⟩
    have h : ¬ (i : Int) < (l.length : Int) := by omega
    exact ⟨-1, by simp only [slices_IndexFunc_at_impl_fits_1.l0]; rw [if_neg h], by rw [List.drop_eq_nil_of_le (by omega)]; rfl⟩
  | succ d ih =>
    intro k i hi hk
    obtain ⟨k, rfl⟩ : ∃ m, k = m + 1 := ⟨k - 1, by omega⟩
    have h : (i : Int) < (l.length : Int) := by omega
    have h0 : (0 : Int) ≤ (i : Int) := by omega
    have hil : i < l.length := by omega
    obtain ⟨r, h1, h2⟩ := ih k (i + 1) (by omega) (by omega)
    simp only [slices_IndexFunc_at_impl_fits_1.l0]; rw [if_pos h, if_pos h0, if_pos h, impl_fits_one, wrap_succ (n := l.length) (by omega) hl, rd_nat _ _ hil, List.drop_eq_getElem_cons hil]
    simp only [List.all_cons, Option.bind_some]
    cases e : byteM l[i] with
    | true => exact ⟨r, by simpa using h1, by simpa using h2⟩
    | false => exact ⟨(i : Int), by simp, by simp⟩
theorem impl_contains (k : Nat) (l : List Int) (hl : l.length ≤ 1099511627776) (hk : l.length < k) : slices_ContainsFunc_at_impl_fits_1.f k l = some (!l.all byteM) := by
  unfold slices_ContainsFunc_at_impl_fits_1.f slices_IndexFunc_at_impl_fits_1.f
  obtain ⟨r, h1, h2⟩ := impl_idx_loop l hl l.length k 0 (by omega) hk
  rw [show ((0 : Nat) : Int) = 0 from rfl] at h1
  rw [h1]; simp only [Option.bind_some]; rw [h2]; simp

theorem impl_aligned (a s : Int) : impl_Aligned.f a s = some (alignedM a s) := by
  unfold impl_Aligned.f alignedM; rw [impl_in, impl_bytes]
  by_cases ha : 0 ≤ a
  · rcases bytesM_cases s with ⟨rfl, h⟩ | ⟨rfl, h⟩ | ⟨rfl, h⟩ | ⟨h0, h⟩
    · rw [h]; simp [ha]
    · rw [h]; simp [ha, tmod_pos ha]; rfl
    · rw [h]; simp [ha, tmod_pos ha]; rfl
    · rw [h]; simp [h0]; intros; omega
  · rcases bytesM_cases s with ⟨rfl, h⟩ | ⟨rfl, h⟩ | ⟨rfl, h⟩ | ⟨h0, h⟩ <;> rw [h] <;> simp [ha]

theorem impl_fits_is (k : Nat) (l : List Int) (a s : Int) (hl : l.length ≤ 1099511627776) (hk : l.length < k) : impl_fits.f k l a s = some (fitsM l a s) := by
  have hw : wrap64 ((l.length : Int) - bytesM s) = (l.length : Int) - bytesM s := by have := bytesM_le4 s; unfold wrap64; omega
  unfold impl_fits.f fitsM
  by_cases h : (l.length : Int) ≤ 512
  · rw [if_pos h, impl_contains k l hl hk, impl_aligned, impl_bytes]; simp only [Option.bind_some]
    rw [hw]
    cases l.all byteM <;> cases alignedM a s <;> simp [h]
  · rw [if_neg h]; simp [h]

theorem impl_modelok (k : Nat) (m r : List Int) (t : Int) (f : List Int) (hm : m.length ≤ 1099511627776) (hr : r.length ≤ 1099511627776) (hf : f.length ≤ 1099511627776) (km : m.length < k) (kr : r.length < k) (kf : f.length < k) :
    impl_ModelOk.f k m r t f = some (modelOkM m r t f) := by
  unfold impl_ModelOk.f modelOkM
  rw [impl_fits_is k m 0 0 hm km, impl_devok k r t f hr hf kr kf]; simp only [Option.bind_some]
  by_cases h1 : (m.length : Int) = 192
  · have hf : fitsM m 0 0 = m.all byteM := by
      have ha : alignedM 0 0 = true := by decide
      unfold fitsM; rw [ha, h1, show bytesM 0 = 1 from rfl]; simp
    rw [if_pos h1, hf, h1]; cases m.all byteM <;> simp
  · rw [if_neg h1]; simp [h1]

theorem szInt_is (l : List Int) (a : Int) (h0 : 0 ≤ a) (h1 : a ≤ 1048576) (hl : l.length ≤ 9223372036854775807) : laws_szIntS.f l a = some (if a < l.length then -1 else a - l.length) := by
  have hw : wrap64 (a - (l.length : Int)) = a - l.length := wrap64_id (by omega) (by omega)
  unfold laws_szIntS.f; rw [hw]
  by_cases h : a < l.length
  · rw [if_pos h, if_pos (by omega)]
  · rw [if_neg h, if_neg (by omega)]

theorem szDev_is (r f : List Int) (t a : Int) (h0 : 0 ≤ a) (h1 : a ≤ 1048576) (hr : r.length ≤ 9223372036854775807) (hf : f.length ≤ 9223372036854775807) :
    laws_szDev.f r t f a = some (if a < r.length + f.length then -1 else a - r.length - f.length) := by
  unfold laws_szDev.f; rw [szInt_is r a h0 h1 hr]; simp only [Option.bind_some]
  by_cases h : a < r.length
  · rw [if_pos h, if_pos (show a < r.length + f.length by omega)]; simp
  · rw [if_neg h, if_neg (show ¬ a - (r.length : Int) < 0 by omega), szInt_is f _ (by omega) (by omega) hf]; simp only [Option.bind_some]
    by_cases h2 : a - r.length < f.length
    · rw [if_pos h2, if_pos (show a < r.length + f.length by omega)]; simp
    · rw [if_neg h2, if_neg (show ¬ a < r.length + f.length by omega), if_neg (by omega)]

theorem szModel_is (m r f : List Int) (t a : Int) (h0 : 0 ≤ a) (h1 : a ≤ 1048576) (hm : m.length ≤ 9223372036854775807) (hr : r.length ≤ 9223372036854775807) (hf : f.length ≤ 9223372036854775807) :
    laws_szModel.f m r t f a = some (if a < m.length + r.length + f.length then -1 else a - m.length - r.length - f.length) := by
  unfold laws_szModel.f; rw [szInt_is m a h0 h1 hm]; simp only [Option.bind_some]
  by_cases h : a < m.length
  · rw [if_pos h, if_pos (show a < m.length + r.length + f.length by omega)]; simp
  · rw [if_neg h, if_neg (show ¬ a - (m.length : Int) < 0 by omega), szDev_is r f t _ (by omega) (by omega) hr hf]; simp only [Option.bind_some]
    by_cases h2 : a - m.length < r.length + f.length
    · rw [if_pos h2, if_pos (show a < m.length + r.length + f.length by omega)]; simp
    · rw [if_neg h2, if_neg (show ¬ a < m.length + r.length + f.length by omega), if_neg (by omega)]

theorem toIntS_loop (l : List Int) (hl : l.length ≤ 1099511627776) (d : Nat) : ∀ (k : Nat) (o : List Int) (i : Nat), o.length = l.length → i + d = l.length → o.take i = l.take i → d < k → laws_toIntS.l0 k l o i = some l := by
  induction d with
  | zero =>
    intro k o i ho hi he hk
    obtain ⟨k, rfl⟩ : ∃ m, k = m + 1 := ⟨k - 1, by omega⟩
    have h : ¬ (i : Int) < (l.length : Int) := by omega
    simp only [laws_toIntS.l0]; rw [if_neg h]
    rw [List.take_of_length_le (by omega), List.take_of_length_le (by omega)] at he
    rw [he]
  | succ d ih =>
    intro k o i ho hi he hk
    obtain ⟨k, rfl⟩ : ∃ m, k = m + 1 := ⟨k - 1, by omega⟩
    have h : (i : Int) < (l.length : Int) := by omega
    have h' : (i : Int) < (o.length : Int) := by omega
    have h0 : (0 : Int) ≤ (i : Int) := by omega
    have hil : i < l.length := by omega
    simp only [laws_toIntS.l0]; rw [if_pos h, if_pos h0, if_pos h', wrap_succ (n := l.length) (by omega) hl, Int.toNat_natCast, rd_nat _ _ hil]
    refine ih k _ (i + 1) (by simpa using ho) (by omega) ?_ (by omega)
    rw [set_take _ _ _ (by omega), he, List.take_succ_eq_append_getElem hil]
theorem toIntS_all (k : Nat) (l : List Int) (hl : l.length ≤ 1099511627776) (hk : l.length < k) : laws_toIntS.f k l = some l := by
  unfold laws_toIntS.f
  have h0 : (0 : Int) ≤ (l.length : Int) := by omega
  have h1 : ((l.length : Int)).toNat ≤ 35184372088832 := by omega
  rw [if_pos h0, if_pos h1]
  exact toIntS_loop l hl l.length k _ 0 (by simp) (by omega) (by simp) hk

theorem toDev_all (k : Nat) (r f : List Int) (t : Int) (hr : r.length ≤ 1099511627776) (hf : f.length ≤ 1099511627776) (kr : r.length < k) (kf : f.length < k) : laws_toDev.f k r t f = some (r, t, f) := by
  unfold laws_toDev.f; rw [toIntS_all k r hr kr, toIntS_all k f hf kf]; rfl

theorem toModel_all (k : Nat) (m r f : List Int) (t : Int) (hm : m.length ≤ 1099511627776) (hr : r.length ≤ 1099511627776) (hf : f.length ≤ 1099511627776) (km : m.length < k) (kr : r.length < k) (kf : f.length < k) : laws_toModel.f k m r t f = some (m, r, t, f) := by
  unfold laws_toModel.f; rw [toIntS_all k m hm km, toDev_all k r f t hr hf kr kf]; rfl

theorem eqIntS_loop (l : List Int) (hl : l.length ≤ 1099511627776) (d : Nat) : ∀ (k i : Nat), i + d = l.length → d < k → laws_eqIntS.l0 k l l i = some true := by
  induction d with
  | zero =>
    intro k i hi hk
    obtain ⟨k, rfl⟩ : ∃ m, k = m + 1 := ⟨k - 1, by omega⟩
    have h : ¬ (i : Int) < (l.length : Int) := by omega
    simp only [laws_eqIntS.l0]; rw [if_neg h]
  | succ d ih =>
    intro k i hi hk
    obtain ⟨k, rfl⟩ : ∃ m, k = m + 1 := ⟨k - 1, by omega⟩
    have h : (i : Int) < (l.length : Int) := by omega
    have h0 : (0 : Int) ≤ (i : Int) := by omega
    have e := ih k (i + 1) (by omega) (by omega)
    simp only [laws_eqIntS.l0]; rw [if_pos h, if_pos h0, if_pos h, wrap_succ (n := l.length) (by omega) hl]
    simp only [if_true]; exact e
theorem eqIntS_refl (l : List Int) (hl : l.length ≤ 1099511627776) (k : Nat) (hk : l.length < k) : laws_eqIntS.f k l l = some true := by
  unfold laws_eqIntS.f; rw [if_pos rfl]; exact eqIntS_loop l hl l.length k 0 (by omega) hk

theorem eqDev_refl (k : Nat) (r f : List Int) (t : Int) (hr : r.length ≤ 1099511627776) (hf : f.length ≤ 1099511627776) (kr : r.length < k) (kf : f.length < k) : laws_eqDev.f k r t f r t f = some true := by
  unfold laws_eqDev.f; rw [eqIntS_refl r hr k kr]; simp only [Option.bind_some, if_true]; rw [eqIntS_refl f hf k kf]; simp

theorem eqModel_refl (k : Nat) (m r f : List Int) (t : Int) (hm : m.length ≤ 1099511627776) (hr : r.length ≤ 1099511627776) (hf : f.length ≤ 1099511627776) (km : m.length < k) (kr : r.length < k) (kf : f.length < k) : laws_eqModel.f k m r t f m r t f = some true := by
  unfold laws_eqModel.f; rw [eqIntS_refl m hm k km]; simp only [Option.bind_some, if_true]; rw [eqDev_refl k r f t hr hf kr kf]; simp

theorem FnExactModelOk (m r : List Int) (t : Int) (f : List Int) (hm : m.length ≤ 9223372036854775807) (hr : r.length ≤ 9223372036854775807) (_ : (Lit.int .i64 t).wf = true) (hf : f.length ≤ 9223372036854775807) : ∃ k, laws_FnExactModelOk.f k m r t f = some true := by
  refine ⟨1048600, ?_⟩
  generalize hk : 1048600 = k
  unfold laws_FnExactModelOk.f
  rw [szModel_is m r f t _ (by omega) (by omega) hm hr hf]; simp only [Option.bind_some]
  by_cases h : (1048576 : Int) < m.length + r.length + f.length
  · rw [if_pos h]; simp
  · rw [if_neg h, if_neg (by omega), toModel_all k m r f t (by omega) (by omega) (by omega) (by omega) (by omega) (by omega)]; simp only [Option.bind_some]
    rw [spec_modelok k m r t f (by omega) (by omega) (by omega) (by omega) (by omega) (by omega), impl_modelok k m r t f (by omega) (by omega) (by omega) (by omega) (by omega) (by omega), eqModel_refl k m r f t (by omega) (by omega) (by omega) (by omega) (by omega) (by omega)]
    simp

end Go.Proofs.Ythikbgjlcdkoaaa.Pure
