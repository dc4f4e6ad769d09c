/- What was written is read, nothing else changes, and an error changes nothing, for every code. -/
import Derived.Test.YthikbgjlcdkoaaaMFnModelsx
namespace Go.Proofs.Ythikbgjlcdkoaaa.Pure
open Go.RowKit Go.Proofs.Ythikbgjlcdkoaaa.MFnModels Go.Proofs.YthikbgjlcdkoaaaW.PrintWords Go.Proofs.YthikbgjlcdkoaaaW.PrintLast Go.Proofs.YthikbgjlcdkoaaaW.PrintMore
set_option linter.unusedVariables false
set_option linter.unusedSimpArgs false
set_option maxHeartbeats 4000000

/-- How many bytes a size has. -/
def bytesM (s : Int) : Int := if s = 0 then 1 else if s = 1 then 2 else if s = 2 then 4 else 0
theorem bytesM_cases (s : Int) : (s = 0 ∧ bytesM s = 1) ∨ (s = 1 ∧ bytesM s = 2) ∨ (s = 2 ∧ bytesM s = 4) ∨ (¬ (0 ≤ s ∧ s ≤ 2) ∧ bytesM s = 0) := by
  unfold bytesM; split
  · left; omega
  · split
    · right; left; omega
    · split
      · right; right; left; omega
      · right; right; right; omega
theorem shl_1_0 : shl .i64 1 0 = 1 := by decide
theorem shl_1_1 : shl .i64 1 1 = 2 := by decide
theorem shl_1_2 : shl .i64 1 2 = 4 := by decide

/-- How many numbers a size has. -/
def limitM (s : Int) : Int := if s = 0 then 256 else if s = 1 then 65536 else if s = 2 then 4294967296 else 0
theorem limitM_cases (s : Int) : (s = 0 ∧ bytesM s = 1 ∧ limitM s = 256) ∨ (s = 1 ∧ bytesM s = 2 ∧ limitM s = 65536) ∨ (s = 2 ∧ bytesM s = 4 ∧ limitM s = 4294967296) ∨ (¬ (0 ≤ s ∧ s ≤ 2) ∧ bytesM s = 0 ∧ limitM s = 0) := by
  unfold limitM bytesM; split
  · left; omega
  · split
    · right; left; omega
    · split
      · right; right; left; omega
      · right; right; right; omega
theorem shl_1_8 : shl .i64 1 8 = 256 := by decide
theorem shl_1_16 : shl .i64 1 16 = 65536 := by decide
theorem shl_1_32 : shl .i64 1 32 = 4294967296 := by decide
theorem wrap64_8_1 : wrap64 8 = 8 := by unfold wrap64; omega
theorem wrap64_8_2 : wrap64 16 = 16 := by unfold wrap64; omega
theorem wrap64_8_4 : wrap64 32 = 32 := by unfold wrap64; omega

theorem wf_of {a : Int} (h : (Lit.int .i64 a).wf = true) : -9223372036854775808 ≤ a ∧ a ≤ 9223372036854775807 := by
  simp [Lit.wf, IntKind.min, IntKind.max, IntKind.signed, IntKind.bits] at h; omega
theorem pow_le_i (b i j : Nat) (h0 : 0 < b) (h : i ≤ j) : (b : Int) ^ i ≤ (b : Int) ^ j := by
  have h1 := Nat.pow_le_pow_right h0 h
  have h2 : ((b ^ i : Nat) : Int) ≤ ((b ^ j : Nat) : Int) := Int.ofNat_le.2 h1
  rwa [Int.natCast_pow, Int.natCast_pow] at h2
theorem wrap64_id {a : Int} (h0 : -9223372036854775808 ≤ a) (h1 : a ≤ 9223372036854775807) : wrap64 a = a := by unfold wrap64; omega

theorem wrap_succ {i n : Nat} (h : i < n) (hn : n ≤ 1099511627776) : wrap64 ((i : Int) + 1) = ((i + 1 : Nat) : Int) := by unfold wrap64; omega
theorem rd_nat (l : List Int) (i : Nat) (h : i < l.length) : rd l (i : Int) = l[i] := by
  unfold rd; simp [List.getD_eq_getElem?_getD, List.getElem?_eq_getElem h]
theorem rdOf_nat {α : Type} (d : α) (l : List α) (i : Nat) (h : i < l.length) : rdOf d l (i : Int) = l[i] := by
  unfold rdOf; simp [List.getD_eq_getElem?_getD, List.getElem?_eq_getElem h]
theorem set_take {α : Type} (l : List α) (i : Nat) (x : α) (h : i < l.length) : (l.set i x).take (i + 1) = l.take i ++ [x] := by
  rw [List.take_succ_eq_append_getElem (by simpa using h), List.take_set, List.set_eq_of_length_le (by simp; omega)]; simp
theorem set_drop {α : Type} (l : List α) (i : Nat) (x : α) : (l.set i x).drop (i + 1) = l.drop (i + 1) := by
  rw [List.drop_set]; simp

def wordM (x : Int) : Bool := decide (0 ≤ x ∧ x < 4294967296)
/-- A device is valid. -/
def devOkM (r : List Int) (t : Int) (f : List Int) : Bool := decide ((r.length : Int) = 4) && decide ((f.length : Int) ≤ 4) && r.all wordM && f.all wordM && wordM t
theorem devOkM_iff (r : List Int) (t : Int) (f : List Int) : devOkM r t f = true ↔ r.length = 4 ∧ f.length ≤ 4 ∧ (∀ x ∈ r, 0 ≤ x ∧ x < 4294967296) ∧ (∀ x ∈ f, 0 ≤ x ∧ x < 4294967296) ∧ 0 ≤ t ∧ t < 4294967296 := by
  unfold devOkM; simp [wordM]; constructor
  · rintro ⟨⟨⟨⟨h1, h2⟩, h3⟩, h4⟩, h5⟩; exact ⟨by omega, by omega, h3, h4, h5⟩
  · rintro ⟨h1, h2, h3, h4, h5⟩; exact ⟨⟨⟨⟨by omega, by omega⟩, h3⟩, h4⟩, h5⟩
theorem word_alt (x : Int) : decide (0 ≤ x ∧ x ≤ 4294967295) = wordM x := by unfold wordM; rw [decide_eq_decide]; omega
theorem limit_two : limitM 2 = 4294967296 := rfl
theorem wrap_max : wrap64 (4294967296 - 1) = 4294967295 := by unfold wrap64; omega

/-- What a device answers to one access: its registers, its timer, its queue, the word and whether it was done. -/
def devDoM (r : List Int) (t : Int) (f : List Int) (w : Bool) (a v : Int) : List Int × Int × List Int × Int × Bool :=
  if devOkM r t f = true ∧ (w = true → wordM v = true) then
    (if a = 16 then (if w = true then (r, v, f, v, true) else (r, Int.tmod (wrap64 (t + 1)) 4294967296, f, t, true))
     else if a = 20 then
       (if w = true then (if f.length < 4 then (r, t, f ++ [v], v, true) else (r, t, f, 0, false))
        else (if 0 < f.length then (r, t, f.drop 1, rd f 0, true) else (r, t, f, 0, false)))
     else if a = 0 ∨ a = 4 ∨ a = 8 ∨ a = 12 then
       (if w = true then (r.set (a / 4).toNat v, t, f, v, true) else (r, t, f, rd r (a / 4), true))
     else (r, t, f, 0, false))
  else (r, t, f, 0, false)
theorem dev_slot (a : Int) (h0 : 0 ≤ a) (h1 : a < 16) (h4 : Int.tmod a 4 = 0) : a = 0 ∨ a = 4 ∨ a = 8 ∨ a = 12 := by
  rw [Int.tmod_eq_emod_of_nonneg h0] at h4; omega
theorem dev_at (a : Int) (h0 : 0 ≤ a) (h1 : a < 16) : wrap64 (Int.tdiv a 4) = a / 4 := by
  rw [Int.tdiv_eq_ediv_of_nonneg h0]; unfold wrap64; omega
theorem dev_fo (r : List Int) (t : Int) (f : List Int) (h : devOkM r t f = true) : f.length ≤ 4 := ((devOkM_iff r t f).mp h).2.1
theorem dev_ro (r : List Int) (t : Int) (f : List Int) (h : devOkM r t f = true) : r.length = 4 := ((devOkM_iff r t f).mp h).1

/-- An address fits a size. -/
def alignedM (a s : Int) : Bool := decide (0 ≤ a ∧ 0 ≤ s ∧ s ≤ 2 ∧ a % bytesM s = 0)
theorem tmod_pos {a b : Int} (h : 0 ≤ a) : Int.tmod a b = a % b := Int.tmod_eq_emod_of_nonneg h

def byteM (x : Int) : Bool := decide (0 ≤ x ∧ x ≤ 255)
/-- A memory is valid and a number fits at an address. -/
def fitsM (l : List Int) (a s : Int) : Bool := decide ((l.length : Int) ≤ 512) && l.all byteM && alignedM a s && decide (a ≤ (l.length : Int) - bytesM s)
theorem fitsM_iff (l : List Int) (a s : Int) : fitsM l a s = true ↔ l.length ≤ 512 ∧ (∀ x ∈ l, 0 ≤ x ∧ x ≤ 255) ∧ alignedM a s = true ∧ a + bytesM s ≤ l.length := by
  unfold fitsM; simp [byteM]; constructor
  · rintro ⟨⟨⟨h1, h2⟩, h3⟩, h4⟩; exact ⟨by omega, h2, h3, by omega⟩
  · rintro ⟨h1, h2, h3, h4⟩; exact ⟨⟨⟨by omega, h2⟩, h3⟩, by omega⟩
theorem bytesM_le4 (s : Int) : 0 ≤ bytesM s ∧ bytesM s ≤ 4 := by
  rcases bytesM_cases s with ⟨_, h⟩ | ⟨_, h⟩ | ⟨_, h⟩ | ⟨h', h⟩ <;> omega
/-- The number of so many bytes from a place on, the least significant first. -/
def leM (l : List Int) (a : Nat) : Nat → Int
  | 0 => 0
  | n + 1 => leM l a n + rd l ((a + n : Nat) : Int) * 256 ^ n
theorem rd_byte (l : List Int) (h : ∀ x ∈ l, 0 ≤ x ∧ x ≤ 255) (i : Nat) (hi : i < l.length) : 0 ≤ rd l (i : Int) ∧ rd l (i : Int) ≤ 255 := by
  rw [rd_nat _ _ hi]; exact h _ (List.getElem_mem hi)
theorem leM_bound (l : List Int) (h : ∀ x ∈ l, 0 ≤ x ∧ x ≤ 255) (a n : Nat) (hn : a + n ≤ l.length) : 0 ≤ leM l a n ∧ leM l a n < 256 ^ n := by
  induction n with
  | zero => exact ⟨Int.le_refl _, by simp [leM]⟩
  | succ n ih =>
    have hi := ih (by omega)
    have hb := rd_byte l h (a + n) (by omega)
    have hp : (0 : Int) < 256 ^ n := Int.pow_pos (by decide)
    have h1 : 0 ≤ rd l ((a + n : Nat) : Int) * 256 ^ n := Int.mul_nonneg hb.1 (Int.le_of_lt hp)
    have h2 : rd l ((a + n : Nat) : Int) * 256 ^ n ≤ 255 * 256 ^ n := Int.mul_le_mul_of_nonneg_right hb.2 (Int.le_of_lt hp)
    simp only [leM, Int.pow_succ]; omega
/-- So many bytes of a number, laid from a place on. -/
def putM (l : List Int) (a : Nat) (v : Int) : Nat → List Int
  | 0 => l
  | n + 1 => (putM l a v n).set (a + n) (v / 256 ^ n % 256)
theorem putM_length (l : List Int) (a : Nat) (v : Int) (n : Nat) : (putM l a v n).length = l.length := by
  induction n with
  | zero => rfl
  | succ n ih => simp [putM, ih]

/-- A number can be laid. -/
def putOkM (l : List Int) (a s v : Int) : Bool := fitsM l a s && decide (0 ≤ v ∧ v < limitM s)
def putResM (l : List Int) (a s v : Int) : List Int × Bool := if putOkM l a s v = true then (putM l a.toNat v (bytesM s).toNat, true) else (l, false)
theorem limitM_le (s : Int) : 0 ≤ limitM s ∧ limitM s ≤ 4294967296 := by
  rcases limitM_cases s with ⟨_, _, h⟩ | ⟨_, _, h⟩ | ⟨_, _, h⟩ | ⟨_, _, h⟩ <;> omega

/-- A model is valid. -/
def modelOkM (m r : List Int) (t : Int) (f : List Int) : Bool := decide ((m.length : Int) = 192) && m.all byteM && devOkM r t f

/-- How many beats a burst has. -/
def beatsM (s : Int) : Int := if s = 0 then 1 else if s = 1 then 4 else if s = 2 then 4 else if s = 3 then 8 else 0
theorem beatsM_cases (s : Int) : (s = 0 ∧ beatsM s = 1) ∨ (s = 1 ∧ beatsM s = 4) ∨ (s = 2 ∧ beatsM s = 4) ∨ (s = 3 ∧ beatsM s = 8) ∨ (¬ (0 ≤ s ∧ s ≤ 3) ∧ beatsM s = 0) := by
  unfold beatsM; split
  · left; omega
  · split
    · right; left; omega
    · split
      · right; right; left; omega
      · split
        · right; right; right; left; omega
        · right; right; right; right; omega

/-- The next address of a burst; -1 where there is none. -/
def nextM (a s b : Int) : Int :=
  if alignedM a s = true ∧ a < 512 ∧ beatsM b ≠ 0 then (if b = 2 ∧ (a + bytesM s) % (4 * bytesM s) = 0 then a + bytesM s - 4 * bytesM s else a + bytesM s) else -1
theorem alignedM_iff (a s : Int) : alignedM a s = true ↔ 0 ≤ a ∧ 0 ≤ s ∧ s ≤ 2 ∧ a % bytesM s = 0 := by unfold alignedM; simp
theorem bytesM_pos {s : Int} (h0 : 0 ≤ s) (h2 : s ≤ 2) : 1 ≤ bytesM s ∧ bytesM s ≤ 4 := by
  rcases bytesM_cases s with ⟨_, h⟩ | ⟨_, h⟩ | ⟨_, h⟩ | ⟨h', h⟩ <;> omega
theorem bytesM_le (s : Int) : 0 ≤ bytesM s ∧ bytesM s ≤ 4 := by
  rcases bytesM_cases s with ⟨_, h⟩ | ⟨_, h⟩ | ⟨_, h⟩ | ⟨h', h⟩ <;> omega

def slaveM (a : Int) : Int := if a < 0 ∨ 224 ≤ a then 0 else if a < 128 then 1 else if a < 192 then 2 else 3
theorem slaveM_ram (a : Int) (h0 : 0 ≤ a) (h : a < 192) : slaveM a = 1 ∨ slaveM a = 2 := by
  unfold slaveM; rw [if_neg (by omega)]
  by_cases h1 : a < 128
  · rw [if_pos h1]; exact .inl rfl
  · rw [if_neg h1, if_pos h]; exact .inr rfl
theorem slaveM_dev (a : Int) (h0 : 192 ≤ a) (h : a < 224) : slaveM a = 3 := by
  unfold slaveM; rw [if_neg (by omega), if_neg (by omega), if_neg (by omega)]
theorem slaveM_none (a : Int) (h : 224 ≤ a) : slaveM a = 0 := by unfold slaveM; rw [if_pos (.inr h)]
/-- What a model answers to one beat: its memory, its device, the number and the answer's kind. -/
def modelDoM (m r : List Int) (t : Int) (f : List Int) (w : Bool) (a s v : Int) : List Int × List Int × Int × List Int × Int × Int :=
  if modelOkM m r t f = true ∧ alignedM a s = true ∧ (w = true → 0 ≤ v ∧ v < limitM s) then
    (if a < 192 then
      (if w = true then (putM m a.toNat v (bytesM s).toNat, r, t, f, v, 0) else (m, r, t, f, leM m a.toNat (bytesM s).toNat, 0))
    else if a < 224 ∧ s = 2 ∧ (devDoM r t f w (a - 192) v).2.2.2.2 = true then
      (m, (devDoM r t f w (a - 192) v).1, (devDoM r t f w (a - 192) v).2.1, (devDoM r t f w (a - 192) v).2.2.1, (devDoM r t f w (a - 192) v).2.2.2.1, 0)
    else (m, r, t, f, 0, 1))
  else (m, r, t, f, 0, 1)
theorem modelOkM_iff (m r : List Int) (t : Int) (f : List Int) : modelOkM m r t f = true ↔ m.length = 192 ∧ (∀ x ∈ m, 0 ≤ x ∧ x ≤ 255) ∧ devOkM r t f = true := by
  unfold modelOkM; simp [byteM]; constructor
  · rintro ⟨⟨h1, h2⟩, h3⟩; exact ⟨by omega, h2, h3⟩
  · rintro ⟨h1, h2, h3⟩; exact ⟨⟨by omega, h2⟩, h3⟩
theorem aligned_nonneg (a s : Int) (h : alignedM a s = true) : 0 ≤ a := ((alignedM_iff a s).1 h).1
theorem ram_fits (m r : List Int) (t : Int) (f : List Int) (a s : Int) (hm : modelOkM m r t f = true) (ha : alignedM a s = true) (h : a < 192) : fitsM m a s = true := by
  obtain ⟨h1, h2, _⟩ := (modelOkM_iff m r t f).1 hm
  obtain ⟨g1, g2, g3, g4⟩ := (alignedM_iff a s).1 ha
  rw [fitsM_iff]; refine ⟨by omega, h2, ha, ?_⟩
  rcases bytesM_cases s with ⟨_, e⟩ | ⟨_, e⟩ | ⟨_, e⟩ | ⟨h', _⟩
  · rw [e] at g4 ⊢; omega
  · rw [e] at g4 ⊢; omega
  · rw [e] at g4 ⊢; omega
  · exact absurd ⟨g2, g3⟩ h'
theorem modelDo_in (m r : List Int) (t : Int) (f : List Int) (w : Bool) (a s v : Int) (hm : modelOkM m r t f = true) (ha : alignedM a s = true) (hv : w = true → 0 ≤ v ∧ v < limitM s) : modelDoM m r t f w a s v =
    (if a < 192 then
      (if w = true then (putM m a.toNat v (bytesM s).toNat, r, t, f, v, 0) else (m, r, t, f, leM m a.toNat (bytesM s).toNat, 0))
    else if a < 224 ∧ s = 2 ∧ (devDoM r t f w (a - 192) v).2.2.2.2 = true then
      (m, (devDoM r t f w (a - 192) v).1, (devDoM r t f w (a - 192) v).2.1, (devDoM r t f w (a - 192) v).2.2.1, (devDoM r t f w (a - 192) v).2.2.2.1, 0)
    else (m, r, t, f, 0, 1)) := by unfold modelDoM; rw [if_pos ⟨hm, ha, hv⟩]
theorem modelDo_out (m r : List Int) (t : Int) (f : List Int) (w : Bool) (a s v : Int) (h : ¬ (modelOkM m r t f = true ∧ alignedM a s = true ∧ (w = true → 0 ≤ v ∧ v < limitM s))) : modelDoM m r t f w a s v = (m, r, t, f, 0, 1) := by
  unfold modelDoM; rw [if_neg h]
theorem wrap_dev (a : Int) (h0 : 192 ≤ a) (h : a < 224) : wrap64 (a - 192) = a - 192 := wrap64_id (by omega) (by omega)

theorem spec_slave (k : Nat) (a : Int) : spec_SlaveOf.f (k + 1) a = some (slaveM a) := by
  unfold spec_SlaveOf.f slaveM
  by_cases h0 : a < 0
  · rw [if_pos h0, if_pos (.inl h0), spec_SlaveOf.j0, if_pos rfl]
  · rw [if_neg h0, spec_SlaveOf.j0]
    by_cases h1 : a ≥ 224
    · rw [decide_eq_true h1, if_pos rfl, if_pos (.inr h1)]
    · have hn : ¬ (a < 0 ∨ 224 ≤ a) := by omega
      rw [decide_eq_false h1, if_neg (by simp), if_neg hn]
      by_cases h2 : a < 128
      · rw [if_pos h2, if_pos h2]
      · rw [if_neg h2, if_neg h2]
        by_cases h3 : a < 192
        · rw [if_pos h3, if_pos h3]
        · rw [if_neg h3, if_neg h3]

theorem spec_in (a b c : Int) : spec_l1In.f a b c = some (decide (b ≤ a ∧ a ≤ c)) := by
  unfold spec_l1In.f; by_cases h : b ≤ a
  · rw [if_pos h]; simp [h]
  · rw [if_neg h]; simp [h]

theorem spec_bytes (s : Int) : spec_BytesOf.f s = some (bytesM s) := by
  unfold spec_BytesOf.f; rw [spec_in]
  rcases bytesM_cases s with ⟨rfl, h⟩ | ⟨rfl, h⟩ | ⟨rfl, h⟩ | ⟨h0, h⟩
  · rfl
  · rfl
  · rfl
  · rw [h]; simp [h0]

theorem spec_limit (s : Int) : spec_LimitOf.f s = some (limitM s) := by
  unfold spec_LimitOf.f; rw [spec_bytes]
  rcases limitM_cases s with ⟨rfl, h, k⟩ | ⟨rfl, h, k⟩ | ⟨rfl, h, k⟩ | ⟨h0, h, k⟩
  · rw [h, k]; simp [wrap64_8_1, shl_1_8]
  · rw [h, k]; simp [wrap64_8_2, shl_1_16]
  · rw [h, k]; simp [wrap64_8_4, shl_1_32]
  · rw [h, k]; rfl

theorem spec_words_loop (l : List Int) (hl : l.length ≤ 1099511627776) (d : Nat) : ∀ (k i : Nat), i + d = l.length → d < k → spec_l8Words.l0 k l i = some ((l.drop i).all wordM) := by
  induction d with
  | zero =>
    intro k i hi hk
    obtain ⟨k, rfl⟩ : ∃ m, k = m + 1 := ⟨k - 1, by omega⟩
    have h : ¬ (i : Int) < (l.length : Int) := by omega
    simp only [spec_l8Words.l0]; rw [if_neg h, List.drop_eq_nil_of_le (by omega)]; simp
  | succ d ih =>
    intro k i hi hk
    obtain ⟨k, rfl⟩ : ∃ m, k = m + 1 := ⟨k - 1, by omega⟩
    have h : (i : Int) < (l.length : Int) := by omega
    have h0 : (0 : Int) ≤ (i : Int) := by omega
    have hil : i < l.length := by omega
    simp only [spec_l8Words.l0, spec_limit, Option.bind_some, limit_two, wrap_max]; rw [if_pos h, if_pos h0, spec_in, wrap_succ (n := l.length) (by omega) hl, ih k (i + 1) (by omega) (by omega), rd_nat _ _ hil, List.drop_eq_getElem_cons hil, word_alt]
    simp only [List.all_cons, Option.bind_some]
    cases wordM l[i] <;> simp
theorem spec_words (k : Nat) (l : List Int) (hl : l.length ≤ 1099511627776) (hk : l.length < k) : spec_l8Words.f k l = some (l.all wordM) := by
  unfold spec_l8Words.f
  have := spec_words_loop l hl l.length k 0 (by omega) hk
  simpa using this
theorem spec_devok (k : Nat) (r : List Int) (t : Int) (f : List Int) (hr : r.length ≤ 1099511627776) (hf : f.length ≤ 1099511627776) (kr : r.length < k) (kf : f.length < k) : spec_DevOk.f k r t f = some (devOkM r t f) := by
  unfold spec_DevOk.f devOkM
  rw [spec_words k r hr kr, spec_words k f hf kf, spec_limit, limit_two]; simp only [Option.bind_some]
  rw [wrap_max, spec_in, word_alt]; simp only [Option.bind_some]
  by_cases h1 : (r.length : Int) = 4 <;> by_cases h2 : (f.length : Int) ≤ 4 <;> cases r.all wordM <;> cases f.all wordM <;> cases wordM t <;> simp [h1, h2]

theorem spec_copy_is (r f : List Int) (t : Int) (hr : r.length ≤ 1048576) (hf : f.length ≤ 1048576) : spec_l8Copy.f r t f = some (r, t, f) := by
  unfold spec_l8Copy.f; simp only [Option.bind_some, List.nil_append, List.length_nil, Nat.zero_add]; rw [if_pos (by omega), if_pos (by omega)]
theorem spec_do_in (k : Nat) (r f : List Int) (t a v : Int) (w : Bool) (hr : r.length = 4) (hf : f.length ≤ 4) (h4 : Int.tmod a 4 = 0) : spec_DevDo.j0 (k + 8) w a v false r t f = some (
    (if a = 16 then (if w = true then (r, v, f, v, true) else (r, Int.tmod (wrap64 (t + 1)) 4294967296, f, t, true))
     else if a = 20 then
       (if w = true then (if f.length < 4 then (r, t, f ++ [v], v, true) else (r, t, f, 0, false))
        else (if 0 < f.length then (r, t, f.drop 1, rd f 0, true) else (r, t, f, 0, false)))
     else if a = 0 ∨ a = 4 ∨ a = 8 ∨ a = 12 then
       (if w = true then (r.set (a / 4).toNat v, t, f, v, true) else (r, t, f, rd r (a / 4), true))
     else (r, t, f, 0, false))) := by
  rw [spec_DevDo.j0, if_neg (by simp), spec_in]; simp only [Option.bind_some]
  by_cases hs : a = 0 ∨ a = 4 ∨ a = 8 ∨ a = 12
  · have e2 : wrap64 (Int.tdiv a 4) = a / 4 := dev_at a (by omega) (by omega)
    have n16 : a ≠ 16 := by omega
    have n20 : a ≠ 20 := by omega
    have hin : decide (0 ≤ a ∧ a ≤ 12) = true := by rw [decide_eq_true_eq]; omega
    have g0 : 0 ≤ a / 4 := by omega
    have g1 : a / 4 < (r.length : Int) := by omega
    rw [if_neg n16, if_neg n20, if_pos hs, if_pos hin]
    cases w
    · rw [spec_DevDo.j1, if_neg (by simp), spec_in]; simp only [Option.bind_some]
      rw [if_pos hin, e2, if_pos g0, if_pos g1, if_neg (by simp)]
    · rw [spec_DevDo.j1, if_pos rfl, e2, if_pos g0, if_pos g1, if_pos rfl]
  have hn : ¬ (0 ≤ a ∧ a ≤ 12) := by intro h; exact hs (dev_slot a h.1 (by omega) h4)
  rw [if_neg (by rw [decide_eq_true_eq]; exact hn), spec_DevDo.j1, if_neg (by simp), spec_in]; simp only [Option.bind_some]
  rw [if_neg (by rw [decide_eq_true_eq]; exact hn), if_neg hs]
  by_cases h16 : a = 16
  · subst h16; rw [if_pos rfl, if_pos rfl, spec_DevDo.j2]
    cases w
    · rw [if_neg (by simp), if_pos rfl, spec_limit, limit_two]; simp
    · rw [if_pos rfl, if_pos rfl]
  rw [if_neg h16, if_neg h16, spec_DevDo.j2, if_neg (by simp), if_neg h16]
  by_cases h20 : a = 20
  · subst h20; rw [if_pos rfl, if_pos rfl]
    cases w
    · rw [if_neg (by simp), if_neg (by simp), spec_DevDo.j3, if_neg (by simp), if_pos rfl, if_neg (by simp)]
      by_cases hl : 0 < f.length
      · have q1 : (f.length : Int) > 0 := by omega
        have q2 : 0 < (f.length : Int) := by omega
        have q3 : 1 ≤ (f.length : Int) := by omega
        rw [if_pos hl, if_pos q1, if_pos q2, if_pos q3]; rfl
      · have q1 : ¬ (f.length : Int) > 0 := by omega
        rw [if_neg hl, if_neg q1]
    · rw [if_pos rfl, if_pos rfl, spec_DevDo.j3]
      by_cases hl : f.length < 4
      · have q1 : decide ((f.length : Int) < 4) = true := by rw [decide_eq_true_eq]; omega
        have q2 : f.length < 17592186044416 := by omega
        rw [if_pos hl, if_pos q1, if_pos q2]
      · have q1 : ¬ decide ((f.length : Int) < 4) = true := by rw [decide_eq_true_eq]; omega
        rw [if_neg hl, if_neg q1, if_pos rfl, if_pos rfl]
  rw [if_neg h20, if_neg h20, spec_DevDo.j3, if_neg (by simp), if_neg h20]
theorem spec_do_out (k : Nat) (r f : List Int) (t a v : Int) (w : Bool) : spec_DevDo.j0 (k + 8) w a v true r t f = some (r, t, f, 0, false) := by
  rw [spec_DevDo.j0, if_pos rfl]
theorem spec_do (k : Nat) (r f : List Int) (t a v : Int) (w : Bool) (hr : r.length ≤ 1048576) (hf : f.length ≤ 1048576) (kr : r.length + 8 < k) (kf : f.length + 8 < k) :
    spec_DevDo.f k r t f w a v = some (devDoM r t f w a v) := by
  unfold spec_DevDo.f
  rw [spec_copy_is r f t hr hf, spec_devok k r t f (by omega) (by omega) (by omega) (by omega)]; simp only [Option.bind_some]
  obtain ⟨k, rfl⟩ : ∃ m, k = m + 8 := ⟨k - 8, by omega⟩
  unfold devDoM
  cases hd : devOkM r t f
  · rw [if_neg (by simp), if_neg (by simp), spec_do_out]
  · rw [if_pos rfl, spec_limit, limit_two]; simp only [Option.bind_some]
    rw [wrap_max, spec_in, word_alt]; simp only [Option.bind_some]
    by_cases h4 : Int.tmod a 4 = 0
    · rw [if_pos h4]
      cases w
      · rw [if_neg (by simp), if_pos (by simp), spec_do_in k r f t a v false (dev_ro r t f hd) (dev_fo r t f hd) h4]
      · rw [if_pos rfl]
        cases hv : wordM v
        · rw [if_neg (by simp)]; simp only [Bool.not_false]; rw [spec_do_out]
        · rw [if_pos (by simp)]; simp only [Bool.not_true]; rw [spec_do_in k r f t a v true (dev_ro r t f hd) (dev_fo r t f hd) h4]; simp
    · have n16 : a ≠ 16 := by rintro rfl; exact h4 rfl
      have n20 : a ≠ 20 := by rintro rfl; exact h4 rfl
      have ns : ¬ (a = 0 ∨ a = 4 ∨ a = 8 ∨ a = 12) := by rintro (rfl | rfl | rfl | rfl) <;> exact h4 rfl
      rw [if_neg h4, if_neg n16, if_neg n20, if_neg ns, spec_do_out, ite_self]

theorem spec_bytes_loop (l : List Int) (hl : l.length ≤ 1099511627776) (d : Nat) : ∀ (k i : Nat), i + d = l.length → d < k →
    spec_l4Bytes.l0 k l i = some ((l.drop i).all byteM && decide ((l.length : Int) ≤ 512)) := by
  induction d with
  | zero =>
    intro k i hi hk
    obtain ⟨k, rfl⟩ : ∃ m, k = m + 1 := ⟨k - 1, by omega⟩
    have h : ¬ (i : Int) < (l.length : Int) := by omega
    simp only [spec_l4Bytes.l0]; rw [if_neg h, List.drop_eq_nil_of_le (by omega)]; simp
  | succ d ih =>
    intro k i hi hk
    obtain ⟨k, rfl⟩ : ∃ m, k = m + 1 := ⟨k - 1, by omega⟩
    have h : (i : Int) < (l.length : Int) := by omega
    have h0 : (0 : Int) ≤ (i : Int) := by omega
    have hil : i < l.length := by omega
    simp only [spec_l4Bytes.l0]; rw [if_pos h, if_pos h0, spec_in, wrap_succ (n := l.length) (by omega) hl, ih k (i + 1) (by omega) (by omega), rd_nat _ _ hil, List.drop_eq_getElem_cons hil]
    simp only [List.all_cons, Option.bind_some]
    cases e : byteM l[i] with
    | true => have e' : decide (0 ≤ l[i] ∧ l[i] ≤ 255) = true := e; rw [if_pos e']; simp
    | false => have e' : decide (0 ≤ l[i] ∧ l[i] ≤ 255) = false := e; rw [e']; simp
theorem spec_bytes_all (k : Nat) (l : List Int) (hl : l.length ≤ 1099511627776) (hk : l.length < k) : spec_l4Bytes.f k l = some (l.all byteM && decide ((l.length : Int) ≤ 512)) := by
  unfold spec_l4Bytes.f
  have := spec_bytes_loop l hl l.length k 0 (by omega) hk
  simpa using this
theorem wrap_len (l : List Int) (hl : l.length ≤ 1099511627776) (s : Int) : wrap64 ((l.length : Int) - bytesM s) = (l.length : Int) - bytesM s := by
  have := bytesM_le4 s; unfold wrap64; omega

theorem spec_aligned (a s : Int) : spec_Aligned.f a s = some (alignedM a s) := by
  unfold spec_Aligned.f alignedM; rw [spec_bytes]
  by_cases ha : 0 ≤ a
  · rcases bytesM_cases s with ⟨rfl, h⟩ | ⟨rfl, h⟩ | ⟨rfl, h⟩ | ⟨h0, h⟩
    · rw [h]; simp [ha]
    · rw [h]; simp [ha, tmod_pos ha]; rfl
    · rw [h]; simp [ha, tmod_pos ha]; rfl
    · rw [h]; simp; intros; omega
  · rcases bytesM_cases s with ⟨rfl, h⟩ | ⟨rfl, h⟩ | ⟨rfl, h⟩ | ⟨h0, h⟩ <;> rw [h] <;> simp [ha]

theorem spec_fits (k : Nat) (l : List Int) (a s : Int) (hl : l.length ≤ 1099511627776) (hk : l.length < k) : spec_l4Fits.f k l a s = some (fitsM l a s) := by
  unfold spec_l4Fits.f fitsM; rw [spec_bytes_all k l hl hk, spec_aligned, spec_bytes]; simp only [Option.bind_some]
  rw [wrap_len l hl]
  cases l.all byteM <;> cases alignedM a s <;> by_cases h : (l.length : Int) ≤ 512 <;> simp [h]

theorem spec_put_loop (l : List Int) (s : Int) (hl : l.length ≤ 512) (a : Nat) (v : Int) (hv0 : 0 ≤ v) (hv : v ≤ 4294967295) (ha : a + (bytesM s).toNat ≤ l.length) (d : Nat) : ∀ (k i : Nat), i + d = (bytesM s).toNat → d < k →
    spec_PutNum.l0 k (a : Int) s (v / 256 ^ i) (putM l a v i) i = some (putM l a v (bytesM s).toNat, true) := by
  have hb := bytesM_le4 s
  induction d with
  | zero =>
    intro k i hi hk
    obtain ⟨k, rfl⟩ : ∃ m, k = m + 1 := ⟨k - 1, by omega⟩
    obtain rfl : i = (bytesM s).toNat := by omega
    simp only [spec_PutNum.l0, spec_bytes, Option.bind_some]; rw [if_neg (by omega)]
  | succ d ih =>
    intro k i hi hk
    obtain ⟨k, rfl⟩ : ∃ m, k = m + 1 := ⟨k - 1, by omega⟩
    have hw1 : wrap64 ((a : Int) + (i : Int)) = ((a + i : Nat) : Int) := by unfold wrap64; omega
    have hw3 : wrap64 ((i : Int) + 1) = ((i + 1 : Nat) : Int) := by unfold wrap64; omega
    have hp1 : (0 : Int) < 256 ^ i := Int.pow_pos (by decide)
    have hq0 : 0 ≤ v / 256 ^ i := Int.ediv_nonneg hv0 (Int.le_of_lt hp1)
    have hq1 : v / 256 ^ i ≤ v := Int.ediv_le_self _ hv0
    have hd : Int.tdiv (v / 256 ^ i) 256 = v / 256 ^ (i + 1) := by
      rw [Int.tdiv_eq_ediv_of_nonneg hq0, Int.ediv_ediv_of_nonneg (Int.le_of_lt hp1), Int.pow_succ]
    have hm : Int.tmod (v / 256 ^ i) 256 = v / 256 ^ i % 256 := Int.tmod_eq_emod_of_nonneg hq0
    have hp2 : (0 : Int) < 256 ^ (i + 1) := Int.pow_pos (by decide)
    have hq2 : 0 ≤ v / 256 ^ (i + 1) := Int.ediv_nonneg hv0 (Int.le_of_lt hp2)
    have hq3 : v / 256 ^ (i + 1) ≤ v := Int.ediv_le_self _ hv0
    have hw4 : wrap64 (v / 256 ^ (i + 1)) = v / 256 ^ (i + 1) := wrap64_id (by omega) (by omega)
    have hlen := putM_length l a v i
    simp only [spec_PutNum.l0, spec_bytes, Option.bind_some]
    rw [if_pos (show (i : Int) < bytesM s by omega), hw1, if_pos (by omega), if_pos (by omega), hd, hm, hw3, hw4, Int.toNat_natCast]
    exact ih k (i + 1) (by omega) (by omega)
theorem spec_put (k : Nat) (l : List Int) (a s v : Int) (hl : l.length ≤ 1099511627776) (hk : l.length + 10 < k) : spec_PutNum.f k l a s v = some (putResM l a s v) := by
  have hll := limitM_le s
  have hw : wrap64 (limitM s - 1) = limitM s - 1 := wrap64_id (by omega) (by omega)
  unfold spec_PutNum.f putResM putOkM
  simp only [Option.bind_some, List.length_nil, List.nil_append, Nat.zero_add]
  rw [if_pos (by omega), spec_fits k l a s hl (by omega), spec_limit]; simp only [Option.bind_some]
  rw [hw, spec_in]; simp only [Option.bind_some]
  obtain ⟨k, rfl⟩ : ∃ m, k = m + 1 := ⟨k - 1, by omega⟩
  by_cases h : fitsM l a s = true
  · obtain ⟨h1, h2, h3, h4⟩ := (fitsM_iff l a s).1 h
    have ha : 0 ≤ a := by simp [alignedM] at h3; omega
    have hb := bytesM_le4 s
    rw [if_pos h]; simp only [spec_PutNum.j0]
    by_cases hv : 0 ≤ v ∧ v < limitM s
    · have hv' : 0 ≤ v ∧ v ≤ limitM s - 1 := by omega
      rw [decide_eq_true hv', decide_eq_true hv, h]
      have := spec_put_loop l s h1 a.toNat v hv.1 (by omega) (by omega) (bytesM s).toNat k 0 (by omega) (by omega)
      rw [show ((a.toNat : Nat) : Int) = a by omega] at this
      simpa [putM] using this
    · have hv' : ¬ (0 ≤ v ∧ v ≤ limitM s - 1) := by omega
      rw [decide_eq_false hv', decide_eq_false hv]; simp
  · rw [if_neg h]; simp only [spec_PutNum.j0]; simp [h]

theorem spec_get_loop (l : List Int) (hb : ∀ x ∈ l, 0 ≤ x ∧ x ≤ 255) (hl : l.length ≤ 512) (a : Nat) (d : Nat) : ∀ (k : Nat) (v : Int), d ≤ 4 → a + d ≤ l.length → 0 ≤ v → v < 256 ^ (4 - d) → d < k →
    spec_GetNum.l0 k l (a : Int) v ((d : Int) - 1) = some (v * 256 ^ d + leM l a d, true) := by
  induction d with
  | zero =>
    intro k v _ _ h0 h1 hk
    obtain ⟨k, rfl⟩ : ∃ m, k = m + 1 := ⟨k - 1, by omega⟩
    simp only [spec_GetNum.l0]; rw [if_neg (by omega)]; simp [leM]
  | succ d ih =>
    intro k v hd ha h0 h1 hk
    obtain ⟨k, rfl⟩ : ∃ m, k = m + 1 := ⟨k - 1, by omega⟩
    have e : ((d + 1 : Nat) : Int) - 1 = (d : Int) := by omega
    have hr := rd_byte l hb (a + d) (by omega)
    have hw1 : wrap64 ((a : Int) + (d : Int)) = ((a + d : Nat) : Int) := by unfold wrap64; omega
    have hp : (256 : Int) ^ (4 - (d + 1)) ≤ 256 ^ 3 := pow_le_i 256 (4 - (d + 1)) 3 (by decide) (by omega)
    have hp3 : (256 : Int) ^ 3 = 16777216 := by decide
    have hw2 : wrap64 (v * 256) = v * 256 := wrap64_id (by omega) (by omega)
    have hw3 : wrap64 (v * 256 + rd l ((a + d : Nat) : Int)) = v * 256 + rd l ((a + d : Nat) : Int) := wrap64_id (by omega) (by omega)
    have hw4 : wrap64 ((d : Int) - 1) = (d : Int) - 1 := wrap64_id (by omega) (by omega)
    have hps : (256 : Int) ^ (4 - d) = 256 ^ (4 - (d + 1)) * 256 := by rw [← Int.pow_succ]; congr 1; omega
    rw [e]; simp only [spec_GetNum.l0]
    rw [if_pos (show (d : Int) ≥ 0 by omega), hw1, if_pos (by omega), if_pos (by omega), hw2, hw3, hw4, ih k _ (by omega) (by omega) (by omega) (by rw [hps]; omega) (by omega)]
    congr 2
    simp only [leM, Int.pow_succ, Int.add_mul]
    rw [Int.mul_assoc v 256, Int.mul_comm 256 (256 ^ d)]; omega
theorem spec_get (k : Nat) (l : List Int) (a s : Int) (hl : l.length ≤ 1099511627776) (hk : l.length < k) (hk5 : 5 < k) :
    spec_GetNum.f k l a s = some (if fitsM l a s = true then (leM l a.toNat (bytesM s).toNat, true) else (0, false)) := by
  unfold spec_GetNum.f; rw [spec_fits k l a s hl hk, spec_bytes]; simp only [Option.bind_some]
  by_cases h : fitsM l a s = true
  · obtain ⟨h1, h2, h3, h4⟩ := (fitsM_iff l a s).1 h
    have ha : 0 ≤ a := by simp [alignedM] at h3; omega
    have hb := bytesM_le4 s
    have hw : wrap64 (bytesM s - 1) = ((bytesM s).toNat : Int) - 1 := by unfold wrap64; omega
    rw [if_pos h, if_pos h, hw]
    have := spec_get_loop l h2 h1 a.toNat (bytesM s).toNat k 0 (by omega) (by omega) (by omega) (Int.pow_pos (by decide)) (by omega)
    rw [show ((a.toNat : Nat) : Int) = a by omega] at this
    rw [this]; simp
  · rw [if_neg h, if_neg h]

theorem spec_modelok (k : Nat) (m r : List Int) (t : Int) (f : List Int) (hm : m.length ≤ 1099511627776) (hr : r.length ≤ 1099511627776) (hf : f.length ≤ 1099511627776) (km : m.length < k) (kr : r.length < k) (kf : f.length < k) :
    spec_ModelOk.f k m r t f = some (modelOkM m r t f) := by
  unfold spec_ModelOk.f modelOkM
  rw [spec_bytes_all k m hm km, spec_devok k r t f hr hf kr kf]; simp only [Option.bind_some]
  by_cases h1 : (m.length : Int) = 192
  · rw [if_pos h1, h1]; cases m.all byteM <;> simp
  · rw [if_neg h1]; simp [h1]

theorem spec_copymodel (m r f : List Int) (t : Int) (hm : m.length ≤ 1048576) (hr : r.length ≤ 1048576) (hf : f.length ≤ 1048576) : spec_l9Copy.f m r t f = some (m, r, t, f) := by
  unfold spec_l9Copy.f; simp only [Option.bind_some, List.nil_append, List.length_nil, Nat.zero_add]; rw [if_pos (by omega), spec_copy_is r f t hr hf]; rfl
theorem spec_model_ram (k : Nat) (m r : List Int) (t : Int) (f : List Int) (w : Bool) (a s v x : Int) (hm : modelOkM m r t f = true) (ha : alignedM a s = true) (hv : w = true → 0 ≤ v ∧ v < limitM s) (h : a < 192) (hk : 300 ≤ k) :
    spec_ModelDo.j1 (k + 1) w a s v x true m r t f m r t f = some (modelDoM m r t f w a s v) := by
  obtain ⟨hm1, _, _⟩ := (modelOkM_iff m r t f).1 hm
  have hfit := ram_fits m r t f a s hm ha h
  rw [modelDo_in m r t f w a s v hm ha hv, if_pos h, spec_ModelDo.j1, if_pos rfl]
  cases w
  · rw [if_neg (by simp), if_neg (by simp), spec_get k m a s (by omega) (by omega) (by omega), if_pos hfit]; simp
  · have hp : putOkM m a s v = true := by unfold putOkM; rw [hfit, decide_eq_true (hv rfl)]; rfl
    rw [if_pos rfl, if_pos rfl, spec_put k m a s v (by omega) (by omega)]; unfold putResM; rw [if_pos hp]; simp
theorem spec_model_in (k : Nat) (m r : List Int) (t : Int) (f : List Int) (w : Bool) (a s v : Int) (hm : modelOkM m r t f = true) (ha : alignedM a s = true) (hv : w = true → 0 ≤ v ∧ v < limitM s) (hk : 300 ≤ k) :
    spec_ModelDo.j0 (k + 8) w a s v false m r t f m r t f = some (modelDoM m r t f w a s v) := by
  obtain ⟨hm1, _, hd⟩ := (modelOkM_iff m r t f).1 hm
  have hr := dev_ro r t f hd
  have hf := dev_fo r t f hd
  have h0 := aligned_nonneg a s ha
  rw [spec_ModelDo.j0, if_neg (by simp), spec_slave]; simp only [Option.bind_some]
  by_cases h : a < 192
  · rcases slaveM_ram a h0 h with e | e
    · rw [e, if_pos rfl]; exact spec_model_ram (k + 6) m r t f w a s v 1 hm ha hv h (by omega)
    · rw [e, if_neg (by decide)]; exact spec_model_ram (k + 6) m r t f w a s v 2 hm ha hv h (by omega)
  rw [modelDo_in m r t f w a s v hm ha hv, if_neg h]
  by_cases h2 : a < 224
  · rw [slaveM_dev a (by omega) h2, if_neg (by decide), spec_ModelDo.j1, if_neg (by decide), if_pos rfl, wrap_dev a (by omega) h2, spec_do (k + 6) r f t (a - 192) v w (by omega) (by omega) (by omega) (by omega)]; simp only [Option.bind_some]
    by_cases hs : s = 2
    · rw [if_pos hs]
      cases hi : (devDoM r t f w (a - 192) v).2.2.2.2
      · rw [if_neg (by simp), if_neg (by simp)]
      · rw [if_pos rfl, if_pos ⟨h2, hs, rfl⟩]
    · rw [if_neg hs, if_neg (fun g => hs g.2.1)]
  · rw [slaveM_none a (by omega), if_neg (by decide), spec_ModelDo.j1, if_neg (by decide), if_neg (by decide), if_neg (fun g => h2 g.1)]
theorem spec_model (k : Nat) (m r : List Int) (t : Int) (f : List Int) (w : Bool) (a s v : Int) (hm : m.length ≤ 1048576) (hr : r.length ≤ 1048576) (hf : f.length ≤ 1048576) (km : m.length + 8 < k) (kr : r.length + 8 < k) (kf : f.length + 8 < k) (hk : 308 ≤ k) :
    spec_ModelDo.f k m r t f w a s v = some (modelDoM m r t f w a s v) := by
  unfold spec_ModelDo.f
  rw [spec_copymodel m r f t hm hr hf, spec_modelok k m r t f (by omega) (by omega) (by omega) (by omega) (by omega) (by omega), spec_aligned]; simp only [Option.bind_some]
  obtain ⟨k, rfl⟩ : ∃ n, k = n + 8 := ⟨k - 8, by omega⟩
  cases hmo : modelOkM m r t f
  · rw [if_neg (by simp), modelDo_out m r t f w a s v (fun g => by rw [hmo] at g; exact absurd g.1 (by simp)), spec_ModelDo.j0, if_pos rfl]
  rw [if_pos rfl]
  cases ha : alignedM a s
  · rw [if_neg (by simp), modelDo_out m r t f w a s v (fun g => by rw [ha] at g; exact absurd g.2.1 (by simp)), spec_ModelDo.j0, if_pos rfl]
  rw [if_pos rfl]
  cases w
  · rw [if_neg (by simp), spec_model_in k m r t f false a s v hmo ha (fun g => absurd g (by simp)) (by omega)]
  · have hll := limitM_le s
    have hw : wrap64 (limitM s - 1) = limitM s - 1 := wrap64_id (by omega) (by omega)
    rw [if_pos rfl, spec_limit]; simp only [Option.bind_some]
    rw [hw, spec_in]; simp only [Option.bind_some]
    clear hw
    by_cases hv : 0 ≤ v ∧ v < limitM s
    · have hv' : 0 ≤ v ∧ v ≤ limitM s - 1 := by omega
      rw [decide_eq_true hv']; simp only [Bool.not_true]; rw [spec_model_in k m r t f true a s v hmo ha (fun _ => hv) (by omega)]
    · have hv' : ¬ (0 ≤ v ∧ v ≤ limitM s - 1) := by omega
      rw [decide_eq_false hv']; simp only [Bool.not_false]; rw [modelDo_out m r t f true a s v (fun g => hv (g.2.2 rfl)), spec_ModelDo.j0, if_pos rfl]

theorem impl_slave (k : Nat) (a : Int) : impl_SlaveOf.f (k + 1) a = some (slaveM a) := by
  unfold impl_SlaveOf.f slaveM
  by_cases h0 : a < 0
  · rw [if_pos h0, if_pos (.inl h0), impl_SlaveOf.j0, if_pos rfl]
  · rw [if_neg h0, impl_SlaveOf.j0]
    by_cases h1 : a ≥ 224
    · rw [decide_eq_true h1, if_pos rfl, if_pos (.inr h1)]
    · have hn : ¬ (a < 0 ∨ 224 ≤ a) := by omega
      rw [decide_eq_false h1, if_neg (by simp), if_neg hn]
      by_cases h2 : a < 128
      · rw [if_pos h2, if_pos h2]
      · rw [if_neg h2, if_neg h2]
        by_cases h3 : a < 192
        · rw [if_pos h3, if_pos h3]
        · rw [if_neg h3, if_neg h3]

theorem impl_in (a b c : Int) : impl_within.f a b c = some (decide (b ≤ a ∧ a ≤ c)) := by
  unfold impl_within.f; by_cases h : b ≤ a
  · rw [if_pos h]; simp [h]
  · rw [if_neg h]; simp [h]

theorem impl_bytes (s : Int) : impl_BytesOf.f s = some (bytesM s) := by
  unfold impl_BytesOf.f; rw [impl_in]
  rcases bytesM_cases s with ⟨rfl, h⟩ | ⟨rfl, h⟩ | ⟨rfl, h⟩ | ⟨h0, h⟩
  · rfl
  · rfl
  · rfl
  · rw [h]; simp [h0]

theorem impl_limit (s : Int) : impl_LimitOf.f s = some (limitM s) := by
  unfold impl_LimitOf.f; rw [impl_bytes]
  rcases limitM_cases s with ⟨rfl, h, k⟩ | ⟨rfl, h, k⟩ | ⟨rfl, h, k⟩ | ⟨h0, h, k⟩
  · rw [h, k]; simp [wrap64_8_1, shl_1_8]
  · rw [h, k]; simp [wrap64_8_2, shl_1_16]
  · rw [h, k]; simp [wrap64_8_4, shl_1_32]
  · rw [h, k]; rfl

theorem impl_isnum (v s : Int) : impl_isNum.f v s = some (decide (0 ≤ v ∧ v < limitM s)) := by
  unfold impl_isNum.f; rw [impl_limit]; simp only [Option.bind_some]
  have hw : wrap64 (limitM s - 1) = limitM s - 1 := by
    rcases limitM_cases s with ⟨_, _, h⟩ | ⟨_, _, h⟩ | ⟨_, _, h⟩ | ⟨_, _, h⟩ <;> rw [h] <;> unfold wrap64 <;> omega
  rw [hw, impl_in]; simp only [Option.bind_some]
  congr 1; rw [decide_eq_decide]; omega

theorem impl_devok_one (x : Int) : impl_DevOk_1.f x = some (!wordM x) := by unfold impl_DevOk_1.f; rw [impl_isnum, limit_two]; rfl
theorem impl_idx2_loop (l : List Int) (hl : l.length ≤ 1099511627776) (d : Nat) : ∀ (k i : Nat), i + d = l.length → d < k →
    ∃ r, slices_IndexFunc_at_impl_DevOk_1.l0 k l (l.length : Int) i = some r ∧ decide (r ≥ 0) = !(l.drop i).all wordM := by
  induction d with
  | zero =>
    intro k i hi hk
    obtain ⟨k, rfl⟩ : ∃ m, k = m + 1 := ⟨k - 1, by omega⟩
    have h : ¬ (i : Int) < (l.length : Int) := by omega
    exact ⟨-1, by simp only [slices_IndexFunc_at_impl_DevOk_1.l0]; rw [if_neg h], by rw [List.drop_eq_nil_of_le (by omega)]; rfl⟩
  | succ d ih =>
    intro k i hi hk
    obtain ⟨k, rfl⟩ : ∃ m, k = m + 1 := ⟨k - 1, by omega⟩
    have h : (i : Int) < (l.length : Int) := by omega
    have h0 : (0 : Int) ≤ (i : Int) := by omega
    have hil : i < l.length := by omega
    obtain ⟨r, h1, h2⟩ := ih k (i + 1) (by omega) (by omega)
    simp only [slices_IndexFunc_at_impl_DevOk_1.l0]; rw [if_pos h, if_pos h0, if_pos h, impl_devok_one, wrap_succ (n := l.length) (by omega) hl, rd_nat _ _ hil, List.drop_eq_getElem_cons hil]
    simp only [List.all_cons, Option.bind_some]
    cases e : wordM l[i] with
    | true => exact ⟨r, by simpa using h1, by simpa using h2⟩
    | false => exact ⟨(i : Int), by simp, by simp⟩
theorem impl_contains2 (k : Nat) (l : List Int) (hl : l.length ≤ 1099511627776) (hk : l.length < k) : slices_ContainsFunc_at_impl_DevOk_1.f k l = some (!l.all wordM) := by
  unfold slices_ContainsFunc_at_impl_DevOk_1.f slices_IndexFunc_at_impl_DevOk_1.f
  obtain ⟨r, h1, h2⟩ := impl_idx2_loop l hl l.length k 0 (by omega) hk
  rw [show ((0 : Nat) : Int) = 0 from rfl] at h1
  rw [h1]; simp only [Option.bind_some]; rw [h2]; simp
theorem impl_devok (k : Nat) (r : List Int) (t : Int) (f : List Int) (hr : r.length ≤ 1099511627776) (hf : f.length ≤ 1099511627776) (kr : r.length < k) (kf : f.length < k) : impl_DevOk.f k r t f = some (devOkM r t f) := by
  have hw : decide (0 ≤ t ∧ t < 4294967296) = wordM t := rfl
  unfold impl_DevOk.f devOkM
  rw [impl_contains2 k r hr kr, impl_contains2 k f hf kf, impl_isnum, limit_two, hw]; simp only [Option.bind_some]
  by_cases h1 : (r.length : Int) = 4 <;> by_cases h2 : (f.length : Int) ≤ 4 <;> cases r.all wordM <;> cases f.all wordM <;> cases wordM t <;> simp [h1, h2]

theorem impl_clone_is (l : List Int) (h : l.length ≤ 1048576) : slices_Clone_int_int.f l = some l := by
  unfold slices_Clone_int_int.f; simp; omega
theorem impl_own_is (r f : List Int) (t : Int) (hr : r.length ≤ 1048576) (hf : f.length ≤ 1048576) : impl_ownDev.f r t f = some (r, t, f) := by
  unfold impl_ownDev.f; rw [impl_clone_is r hr, impl_clone_is f hf]; rfl
theorem impl_do_in (k : Nat) (r f : List Int) (t a v : Int) (w : Bool) (hr : r.length = 4) (hf : f.length ≤ 4) : impl_DevDo.j0 (k + 8) w a v false r t f r t f = some (
    (if a = 16 then (if w = true then (r, v, f, v, true) else (r, Int.tmod (wrap64 (t + 1)) 4294967296, f, t, true))
     else if a = 20 then
       (if w = true then (if f.length < 4 then (r, t, f ++ [v], v, true) else (r, t, f, 0, false))
        else (if 0 < f.length then (r, t, f.drop 1, rd f 0, true) else (r, t, f, 0, false)))
     else if a = 0 ∨ a = 4 ∨ a = 8 ∨ a = 12 then
       (if w = true then (r.set (a / 4).toNat v, t, f, v, true) else (r, t, f, rd r (a / 4), true))
     else (r, t, f, 0, false))) := by
  have hd : slices_Clone_int_int.f (f.drop 1) = some (f.drop 1) := impl_clone_is _ (by rw [List.length_drop]; omega)
  rw [impl_DevDo.j0, if_neg (by simp)]
  by_cases h16 : a = 16
  · subst h16; rw [if_pos rfl, if_pos rfl, impl_DevDo.j1]
    cases w
    · rw [if_neg (by simp), if_pos rfl, impl_limit, limit_two]; simp
    · rw [if_pos rfl, if_pos rfl]
  rw [if_neg h16, if_neg h16, impl_DevDo.j1, if_neg (by simp), if_neg h16]
  by_cases h20 : a = 20
  · subst h20; rw [if_pos rfl, if_pos rfl]
    cases w
    · rw [if_neg (by simp), if_neg (by simp), impl_DevDo.j2, if_neg (by simp), if_pos rfl, if_neg (by simp), impl_DevDo.j3]
      by_cases hl : 0 < f.length
      · have q1 : decide ((f.length : Int) > 0) = true := by rw [decide_eq_true_eq]; omega
        have q2 : 0 < (f.length : Int) := by omega
        have q3 : 1 ≤ (f.length : Int) := by omega
        rw [if_pos hl, if_pos q1, if_pos q2, if_pos q3, hd]; rfl
      · have q1 : ¬ decide ((f.length : Int) > 0) = true := by rw [decide_eq_true_eq]; omega
        have q2 : (20 : Int) ≥ 16 := by omega
        rw [if_neg hl, if_neg q1, if_pos q2, impl_DevDo.j4, if_pos rfl]
    · rw [if_pos rfl, if_pos rfl, impl_DevDo.j2]
      by_cases hl : f.length < 4
      · have q1 : decide ((f.length : Int) < 4) = true := by rw [decide_eq_true_eq]; omega
        have q2 : f.length < 17592186044416 := by omega
        rw [if_pos hl, if_pos q1, if_pos q2]
      · have q1 : ¬ decide ((f.length : Int) < 4) = true := by rw [decide_eq_true_eq]; omega
        have q2 : (20 : Int) ≥ 16 := by omega
        rw [if_neg hl, if_neg q1, if_pos rfl, if_pos rfl, impl_DevDo.j3, if_neg (by simp), if_pos q2, impl_DevDo.j4, if_pos rfl]
  rw [if_neg h20, if_neg h20, impl_DevDo.j2, if_neg (by simp), if_neg h20, impl_DevDo.j3, if_neg (by simp)]
  by_cases hs : a = 0 ∨ a = 4 ∨ a = 8 ∨ a = 12
  · have n16 : ¬ a ≥ 16 := by omega
    have n0 : ¬ a < 0 := by omega
    have e : Int.tmod a 4 = 0 := by rcases hs with rfl | rfl | rfl | rfl <;> rfl
    have e2 : wrap64 (Int.tdiv a 4) = a / 4 := dev_at a (by omega) (by omega)
    have g0 : 0 ≤ a / 4 := by omega
    have g1 : a / 4 < (r.length : Int) := by omega
    rw [if_pos hs, if_neg n16, if_neg n0, impl_DevDo.j4, e, e2, if_neg (by simp)]
    cases w
    · rw [if_neg (by simp), if_pos g0, if_pos g1, if_neg (by simp)]
    · rw [if_pos rfl, if_pos g0, if_pos g1, if_pos rfl]
  · rw [if_neg hs]
    by_cases g1 : a ≥ 16
    · rw [if_pos g1, impl_DevDo.j4, if_pos rfl]
    rw [if_neg g1]
    by_cases g2 : a < 0
    · rw [if_pos g2, impl_DevDo.j4, if_pos rfl]
    rw [if_neg g2, impl_DevDo.j4, if_pos]
    have := dev_slot a (by omega) (by omega)
    simp only [bne_iff_ne, ne_eq]; intro h; exact hs (this h)
theorem impl_do (k : Nat) (r f : List Int) (t a v : Int) (w : Bool) (hr : r.length ≤ 1048576) (hf : f.length ≤ 1048576) (kr : r.length + 8 < k) (kf : f.length + 8 < k) :
    impl_DevDo.f k r t f w a v = some (devDoM r t f w a v) := by
  unfold impl_DevDo.f
  rw [impl_own_is r f t hr hf, impl_devok k r t f (by omega) (by omega) (by omega) (by omega)]; simp only [Option.bind_some]
  obtain ⟨k, rfl⟩ : ∃ m, k = m + 8 := ⟨k - 8, by omega⟩
  unfold devDoM
  cases hd : devOkM r t f
  · rw [if_neg (by simp), if_neg (by simp), impl_DevDo.j0, if_pos rfl]
  · rw [if_pos rfl, impl_isnum, limit_two]; simp only [Option.bind_some]
    have hw : decide (0 ≤ v ∧ v < 4294967296) = wordM v := rfl
    rw [hw]
    cases w
    · rw [if_neg (by simp), if_pos (by simp), impl_do_in k r f t a v false (dev_ro r t f hd) (dev_fo r t f hd)]
    · rw [if_pos rfl]
      cases hv : wordM v
      · rw [if_neg (by simp)]; simp only [Bool.not_false]; rw [impl_DevDo.j0, if_pos rfl]
      · rw [if_pos (by simp)]; simp only [Bool.not_true]; rw [impl_do_in k r f t a v true (dev_ro r t f hd) (dev_fo r t f hd)]; simp

theorem impl_fits_one (x : Int) : impl_fits_1.f x = some (!byteM x) := by unfold impl_fits_1.f; rw [impl_in]; rfl
theorem impl_idx_loop (l : List Int) (hl : l.length ≤ 1099511627776) (d : Nat) : ∀ (k i : Nat), i + d = l.length → d < k →
    ∃ r, slices_IndexFunc_at_impl_fits_1.l0 k l (l.length : Int) i = some r ∧ decide (r ≥ 0) = !(l.drop i).all byteM := by
  induction d with
  | zero =>
    intro k i hi hk
    obtain ⟨k, rfl⟩ : ∃ m, k = m + 1 := ⟨k - 1, by omega⟩
    have h : ¬ (i : Int) < (l.length : Int) := by omega
    exact ⟨-1, by simp only [slices_IndexFunc_at_impl_fits_1.l0]; rw [if_neg h], by rw [List.drop_eq_nil_of_le (by omega)]; rfl⟩
  | succ d ih =>
    intro k i hi hk
    obtain ⟨k, rfl⟩ : ∃ m, k = m + 1 := ⟨k - 1, by omega⟩
    have h : (i : Int) < (l.length : Int) := by omega
    have h0 : (0 : Int) ≤ (i : Int) := by omega
    have hil : i < l.length := by omega
    obtain ⟨r, h1, h2⟩ := ih k (i + 1) (by omega) (by omega)
    simp only [slices_IndexFunc_at_impl_fits_1.l0]; rw [if_pos h, if_pos h0, if_pos h, impl_fits_one, wrap_succ (n := l.length) (by omega) hl, rd_nat _ _ hil, List.drop_eq_getElem_cons hil]
    simp only [List.all_cons, Option.bind_some]
    cases e : byteM l[i] with
    | true => exact ⟨r, by simpa using h1, by simpa using h2⟩
    | false => exact ⟨(i : Int), by simp, by simp⟩
theorem impl_contains (k : Nat) (l : List Int) (hl : l.length ≤ 1099511627776) (hk : l.length < k) : slices_ContainsFunc_at_impl_fits_1.f k l = some (!l.all byteM) := by
  unfold slices_ContainsFunc_at_impl_fits_1.f slices_IndexFunc_at_impl_fits_1.f
  obtain ⟨r, h1, h2⟩ := impl_idx_loop l hl l.length k 0 (by omega) hk
  rw [show ((0 : Nat) : Int) = 0 from rfl] at h1
  rw [h1]; simp only [Option.bind_some]; rw [h2]; simp

theorem impl_aligned (a s : Int) : impl_Aligned.f a s = some (alignedM a s) := by
  unfold impl_Aligned.f alignedM; rw [impl_in, impl_bytes]
  by_cases ha : 0 ≤ a
  · rcases bytesM_cases s with ⟨rfl, h⟩ | ⟨rfl, h⟩ | ⟨rfl, h⟩ | ⟨h0, h⟩
    · rw [h]; simp [ha]
    · rw [h]; simp [ha, tmod_pos ha]; rfl
    · rw [h]; simp [ha, tmod_pos ha]; rfl
    · rw [h]; simp [h0]; intros; omega
  · rcases bytesM_cases s with ⟨rfl, h⟩ | ⟨rfl, h⟩ | ⟨rfl, h⟩ | ⟨h0, h⟩ <;> rw [h] <;> simp [ha]

theorem impl_fits_is (k : Nat) (l : List Int) (a s : Int) (hl : l.length ≤ 1099511627776) (hk : l.length < k) : impl_fits.f k l a s = some (fitsM l a s) := by
  have hw : wrap64 ((l.length : Int) - bytesM s) = (l.length : Int) - bytesM s := by have := bytesM_le4 s; unfold wrap64; omega
  unfold impl_fits.f fitsM
  by_cases h : (l.length : Int) ≤ 512
  · rw [if_pos h, impl_contains k l hl hk, impl_aligned, impl_bytes]; simp only [Option.bind_some]
    rw [hw]
    cases l.all byteM <;> cases alignedM a s <;> simp [h]
  · rw [if_neg h]; simp [h]

theorem wraps_i64 (n : Int) (h₀ : 0 ≤ n) (h₁ : n < 2 ^ 63) : IntKind.i64.wrap n = n := by rw [IntKind.wrap_i64]; omega
theorem and_mask (i : Nat) (hi : i ≤ 63) (x : Int) (h₀ : 0 ≤ x) (h₁ : x ≤ 9223372036854775807) : Go.bits .and .i64 x (2 ^ i - 1) = x % 2 ^ i :=
  bits_mask .i64 63 (by decide) wraps_i64 i hi x h₀ (by omega)
theorem or_join (i : Nat) (x y : Int) (hx₀ : 0 ≤ x) (hx : x % 2 ^ i = 0) (hx₁ : x ≤ 9223372036854775807) (hy₀ : 0 ≤ y) (hy : y < 2 ^ i) (hy₁ : y ≤ 9223372036854775807) : Go.bits .or .i64 x y = x + y :=
  bits_join .i64 63 (by decide) wraps_i64 i x y hx₀ hx (by omega) hy₀ hy (by omega)
theorem i64wrap_id {a : Int} (h0 : -9223372036854775808 ≤ a) (h1 : a ≤ 9223372036854775807) : IntKind.i64.wrap a = a := by rw [IntKind.wrap_i64]; omega
theorem and255 {x : Int} (h₀ : 0 ≤ x) (h₁ : x ≤ 9223372036854775807) : Go.bits .and .i64 x 255 = x % 256 := and_mask 8 (by decide) x h₀ h₁
theorem and127 {x : Int} (h₀ : 0 ≤ x) (h₁ : x ≤ 9223372036854775807) : Go.bits .and .i64 x 127 = x % 128 := and_mask 7 (by decide) x h₀ h₁
theorem or_comm_i64 (x y : Int) : Go.bits .or .i64 x y = Go.bits .or .i64 y x := by
  simp only [Go.bits, BitVec.or_comm]

theorem impl_put_loop (l : List Int) (hl : l.length ≤ 512) (a n : Nat) (hn : n ≤ 4) (v : Int) (hv0 : 0 ≤ v) (hv : v ≤ 4294967295) (ha : a + n ≤ l.length) (d : Nat) : ∀ (k i : Nat), i + d = n → d < k →
    impl_PutNum.l0 k (a : Int) v (putM l a v i) (n : Int) i = some (putM l a v n, true) := by
  induction d with
  | zero =>
    intro k i hi hk
    obtain ⟨k, rfl⟩ : ∃ m, k = m + 1 := ⟨k - 1, by omega⟩
    obtain rfl : i = n := by omega
    simp only [impl_PutNum.l0]; rw [if_neg (by omega)]
  | succ d ih =>
    intro k i hi hk
    obtain ⟨k, rfl⟩ : ∃ m, k = m + 1 := ⟨k - 1, by omega⟩
    have hw1 : wrap64 ((a : Int) + (i : Int)) = ((a + i : Nat) : Int) := by unfold wrap64; omega
    have hw2 : wrap64 (8 * (i : Int)) = ((8 * i : Nat) : Int) := by unfold wrap64; omega
    have hw3 : wrap64 ((i : Int) + 1) = ((i + 1 : Nat) : Int) := by unfold wrap64; omega
    have hp1 : (0 : Int) < 256 ^ i := Int.pow_pos (by decide)
    have hq0 : 0 ≤ v / 256 ^ i := Int.ediv_nonneg hv0 (Int.le_of_lt hp1)
    have hq1 : v / 256 ^ i ≤ v := Int.ediv_le_self _ hv0
    have hs : shr .i64 v ((8 * i : Nat) : Int) = v / 256 ^ i := by
      unfold shr; rw [Int.toNat_natCast, Nat.min_eq_left (by simp [IntKind.bits]; omega), Int.pow_mul, show (2 : Int) ^ 8 = 256 from by decide]
    have hm : Go.bits .and .i64 (v / 256 ^ i) 255 = v / 256 ^ i % 256 := and255 hq0 (by omega)
    have hlen := putM_length l a v i
    simp only [impl_PutNum.l0]
    rw [if_pos (show (i : Int) < (n : Int) by omega), hw2, if_pos (by omega), hw1, if_pos (by omega), if_pos (by omega), hs, hm, hw3, Int.toNat_natCast]
    exact ih k (i + 1) (by omega) (by omega)
theorem clone_is (l : List Int) (hl : l.length ≤ 1099511627776) : slices_Clone_int_int.f l = some l := by
  unfold slices_Clone_int_int.f; simp only [Option.bind_some, List.length_nil, List.nil_append, Nat.zero_add]; rw [if_pos (by omega)]
theorem impl_put (k : Nat) (l : List Int) (a s v : Int) (hl : l.length ≤ 1099511627776) (hk : l.length + 10 < k) : impl_PutNum.f k l a s v = some (putResM l a s v) := by
  have hll := limitM_le s
  unfold impl_PutNum.f putResM putOkM
  rw [clone_is l hl, impl_fits_is k l a s hl (by omega), impl_isnum]; simp only [Option.bind_some]
  obtain ⟨k, rfl⟩ : ∃ m, k = m + 1 := ⟨k - 1, by omega⟩
  by_cases h : fitsM l a s = true
  · obtain ⟨h1, h2, h3, h4⟩ := (fitsM_iff l a s).1 h
    have ha : 0 ≤ a := by simp [alignedM] at h3; omega
    have hb := bytesM_le4 s
    rw [if_pos h]; simp only [impl_PutNum.j0, impl_bytes, Option.bind_some]
    by_cases hv : 0 ≤ v ∧ v < limitM s
    · rw [decide_eq_true hv, h]
      have := impl_put_loop l h1 a.toNat (bytesM s).toNat (by omega) v hv.1 (by omega) (by omega) (bytesM s).toNat k 0 (by omega) (by omega)
      rw [show ((a.toNat : Nat) : Int) = a by omega, show (((bytesM s).toNat : Nat) : Int) = bytesM s by omega] at this
      simpa [putM] using this
    · rw [decide_eq_false hv]; simp
  · rw [if_neg h]; simp only [impl_PutNum.j0]; simp [h]

theorem wrap_small (x : Int) (n : Nat) (h : x = n) (hn : n ≤ 4294967296) : wrap64 x = (n : Int) := by subst h; exact wrap64_id (by omega) (by omega)
theorem impl_get_loop (l : List Int) (hb : ∀ x ∈ l, 0 ≤ x ∧ x ≤ 255) (hl : l.length ≤ 512) (a n : Nat) (hn : n ≤ 4) (ha : a + n ≤ l.length) (d : Nat) : ∀ (k i : Nat), i + d = n → d < k →
    impl_GetNum.l0 k l (a : Int) (leM l a i) (n : Int) i = some (leM l a n, true) := by
  induction d with
  | zero =>
    intro k i hi hk
    obtain ⟨k, rfl⟩ : ∃ m, k = m + 1 := ⟨k - 1, by omega⟩
    obtain rfl : i = n := by omega
    simp only [impl_GetNum.l0]; rw [if_neg (by omega)]
  | succ d ih =>
    intro k i hi hk
    obtain ⟨k, rfl⟩ : ∃ m, k = m + 1 := ⟨k - 1, by omega⟩
    have hi3 : i ≤ 3 := by omega
    have ha5 : a ≤ 512 := by omega
    have hin : (i : Int) < (n : Int) := by omega
    have hal : ((a + i : Nat) : Int) < (l.length : Int) := by omega
    have hnx : i + 1 + d = n := by omega
    have hkd : d < k := by omega
    have h8 : 8 * i ≤ 64 := by omega
    have hw1 : wrap64 ((a : Int) + (i : Int)) = ((a + i : Nat) : Int) := wrap_small _ _ (by omega) (by omega)
    have hw2 : wrap64 (8 * (i : Int)) = ((8 * i : Nat) : Int) := wrap_small _ _ (by clear hw1; omega) (by clear hw1; omega)
    have hw3 : wrap64 ((i : Int) + 1) = ((i + 1 : Nat) : Int) := wrap_small _ _ (by clear hw1 hw2; omega) (by clear hw1 hw2; omega)
    have hr := rd_byte l hb (a + i) (by clear hw1 hw2 hw3; omega)
    have hle := leM_bound l hb a i (by clear hw1 hw2 hw3 hr; omega)
    have hp : (256 : Int) ^ i ≤ 256 ^ 3 := pow_le_i 256 i 3 (by decide) hi3
    have hp1 : (0 : Int) < 256 ^ i := Int.pow_pos (by decide)
    have hp3 : (256 : Int) ^ 3 = 16777216 := by decide
    have hm1 : 0 ≤ rd l ((a + i : Nat) : Int) * 256 ^ i := Int.mul_nonneg hr.1 (Int.le_of_lt hp1)
    have hm2 : rd l ((a + i : Nat) : Int) * 256 ^ i ≤ 255 * 256 ^ i := Int.mul_le_mul_of_nonneg_right hr.2 (Int.le_of_lt hp1)
    have hmb : rd l ((a + i : Nat) : Int) * 256 ^ i ≤ 4278190080 := by rw [hp3] at hp; clear hw1 hw2 hw3; omega
    have hlb : leM l a i ≤ 4278190080 := by rw [hp3] at hp; clear hw1 hw2 hw3 hmb hm1 hm2; omega
    clear hp hp3 hm2
    have h2 : (2 : Int) ^ (8 * i) = 256 ^ i := by rw [Int.pow_mul, show (2 : Int) ^ 8 = 256 from by decide]
    have hs : shl .i64 (rd l ((a + i : Nat) : Int)) ((8 * i : Nat) : Int) = rd l ((a + i : Nat) : Int) * 256 ^ i := by
      unfold shl; rw [Int.toNat_natCast, Nat.min_eq_left (show 8 * i ≤ IntKind.i64.bits from h8), h2]
      exact i64wrap_id (Int.le_trans (by decide) hm1) (Int.le_trans hmb (by decide))
    have ho : Go.bits .or .i64 (leM l a i) (rd l ((a + i : Nat) : Int) * 256 ^ i) = leM l a (i + 1) := by
      rw [or_comm_i64, or_join (8 * i) _ _ hm1 (by rw [h2]; exact Int.mul_emod_left _ _) (Int.le_trans hmb (by decide)) hle.1 (by rw [h2]; exact hle.2) (Int.le_trans hlb (by decide))]
      simp only [leM]; exact Int.add_comm _ _
    simp only [impl_GetNum.l0]
    rw [if_pos hin, hw1, if_pos (Int.natCast_nonneg _), if_pos hal, hw2, if_pos (Int.natCast_nonneg _), hs, ho, hw3]
    exact ih k (i + 1) hnx hkd
theorem impl_get (k : Nat) (l : List Int) (a s : Int) (hl : l.length ≤ 1099511627776) (hk : l.length < k) (hk5 : 5 < k) :
    impl_GetNum.f k l a s = some (if fitsM l a s = true then (leM l a.toNat (bytesM s).toNat, true) else (0, false)) := by
  unfold impl_GetNum.f; rw [impl_fits_is k l a s hl hk, impl_bytes]; simp only [Option.bind_some]
  by_cases h : fitsM l a s = true
  · obtain ⟨h1, h2, h3, h4⟩ := (fitsM_iff l a s).1 h
    have ha : 0 ≤ a := by simp [alignedM] at h3; omega
    have hb := bytesM_le4 s
    rw [if_pos h, if_pos h]
    have := impl_get_loop l h2 h1 a.toNat (bytesM s).toNat (by omega) (by omega) (bytesM s).toNat k 0 (by omega) (by omega)
    rw [show ((a.toNat : Nat) : Int) = a by omega, show (((bytesM s).toNat : Nat) : Int) = bytesM s by omega] at this
    exact this
  · rw [if_neg h, if_neg h]

theorem impl_modelok (k : Nat) (m r : List Int) (t : Int) (f : List Int) (hm : m.length ≤ 1099511627776) (hr : r.length ≤ 1099511627776) (hf : f.length ≤ 1099511627776) (km : m.length < k) (kr : r.length < k) (kf : f.length < k) :
    impl_ModelOk.f k m r t f = some (modelOkM m r t f) := by
  unfold impl_ModelOk.f modelOkM
  rw [impl_fits_is k m 0 0 hm km, impl_devok k r t f hr hf kr kf]; simp only [Option.bind_some]
  by_cases h1 : (m.length : Int) = 192
  · have hf : fitsM m 0 0 = m.all byteM := by
      have ha : alignedM 0 0 = true := by decide
      unfold fitsM; rw [ha, h1, show bytesM 0 = 1 from rfl]; simp
    rw [if_pos h1, hf, h1]; cases m.all byteM <;> simp
  · rw [if_neg h1]; simp [h1]

theorem impl_ownmodel (m r f : List Int) (t : Int) (hm : m.length ≤ 1048576) (hr : r.length ≤ 1048576) (hf : f.length ≤ 1048576) : impl_ownModel.f m r t f = some (m, r, t, f) := by
  unfold impl_ownModel.f; rw [impl_clone_is m hm, impl_own_is r f t hr hf]; rfl
theorem impl_model_ram (k : Nat) (m r : List Int) (t : Int) (f : List Int) (w : Bool) (a s v x : Int) (c : Bool) (hm : modelOkM m r t f = true) (ha : alignedM a s = true) (hv : w = true → 0 ≤ v ∧ v < limitM s) (h : a < 192) (hk : 300 ≤ k) :
    impl_ModelDo.j2 (k + 1) w a s v false true m r t f m r t f = some (modelDoM m r t f w a s v) := by
  obtain ⟨hm1, _, _⟩ := (modelOkM_iff m r t f).1 hm
  have hfit := ram_fits m r t f a s hm ha h
  rw [modelDo_in m r t f w a s v hm ha hv, if_pos h, impl_ModelDo.j2, if_pos rfl]
  cases w
  · rw [if_neg (by simp), if_neg (by simp), impl_get k m a s (by omega) (by omega) (by omega), if_pos hfit]; simp
  · have hp : putOkM m a s v = true := by unfold putOkM; rw [hfit, decide_eq_true (hv rfl)]; rfl
    rw [if_pos rfl, if_pos rfl, impl_put k m a s v (by omega) (by omega)]; unfold putResM; rw [if_pos hp]; simp
theorem impl_model_in (k : Nat) (m r : List Int) (t : Int) (f : List Int) (w : Bool) (a s v : Int) (hm : modelOkM m r t f = true) (ha : alignedM a s = true) (hv : w = true → 0 ≤ v ∧ v < limitM s) (hk : 300 ≤ k) :
    impl_ModelDo.j0 (k + 8) w a s v false m r t f m r t f = some (modelDoM m r t f w a s v) := by
  obtain ⟨hm1, _, hd⟩ := (modelOkM_iff m r t f).1 hm
  have hr := dev_ro r t f hd
  have hf := dev_fo r t f hd
  have h0 := aligned_nonneg a s ha
  have hown := impl_ownmodel m r f t (by omega) (by omega) (by omega)
  rw [impl_ModelDo.j0, if_neg (by simp), impl_slave]; simp only [Option.bind_some]
  by_cases h : a < 192
  · rcases slaveM_ram a h0 h with e | e
    · rw [e, if_neg (by decide), impl_ModelDo.j1, if_neg (by simp), if_pos rfl, impl_model_ram (k + 5) m r t f w a s v 1 false hm ha hv h (by omega)]
    · rw [e, if_neg (by decide), impl_ModelDo.j1, if_neg (by simp), if_neg (by decide)]
      exact impl_model_ram (k + 5) m r t f w a s v 2 false hm ha hv h (by omega)
  rw [modelDo_in m r t f w a s v hm ha hv, if_neg h]
  by_cases h2 : a < 224
  · rw [slaveM_dev a (by omega) h2, if_pos rfl]
    by_cases hs : s = 2
    · subst hs
      rw [impl_ModelDo.j1, if_pos (show ((2 : Int) == 2) = true from rfl), wrap_dev a (by omega) h2, impl_do (k + 6) r f t (a - 192) v w (by omega) (by omega) (by omega) (by omega)]; simp only [Option.bind_some]
      cases hi : (devDoM r t f w (a - 192) v).2.2.2.2
      · rw [if_neg (by simp), hown, if_neg (by simp)]; rfl
      · rw [if_pos rfl, if_pos (by simp [h2])]
    · have hs' : (s == 2) = false := by simpa using hs
      rw [hs', impl_ModelDo.j1, if_neg (by simp), if_neg (by decide), impl_ModelDo.j2, if_neg (by simp), if_neg (by simp), hown, if_neg (fun g => hs g.2.1)]; rfl
  · rw [slaveM_none a (by omega), if_neg (by decide), impl_ModelDo.j1, if_neg (by simp), if_neg (by decide), impl_ModelDo.j2, if_neg (by decide), if_neg (by simp), hown, if_neg (fun g => h2 g.1)]; rfl
theorem impl_model (k : Nat) (m r : List Int) (t : Int) (f : List Int) (w : Bool) (a s v : Int) (hm : m.length ≤ 1048576) (hr : r.length ≤ 1048576) (hf : f.length ≤ 1048576) (km : m.length + 8 < k) (kr : r.length + 8 < k) (kf : f.length + 8 < k) (hk : 308 ≤ k) :
    impl_ModelDo.f k m r t f w a s v = some (modelDoM m r t f w a s v) := by
  unfold impl_ModelDo.f
  rw [impl_ownmodel m r f t hm hr hf, impl_modelok k m r t f (by omega) (by omega) (by omega) (by omega) (by omega) (by omega), impl_aligned]; simp only [Option.bind_some]
  obtain ⟨k, rfl⟩ : ∃ n, k = n + 8 := ⟨k - 8, by omega⟩
  cases hmo : modelOkM m r t f
  · rw [if_neg (by simp), modelDo_out m r t f w a s v (fun g => by rw [hmo] at g; exact absurd g.1 (by simp)), impl_ModelDo.j0, if_pos rfl]
  rw [if_pos rfl]
  cases ha : alignedM a s
  · rw [if_neg (by simp), modelDo_out m r t f w a s v (fun g => by rw [ha] at g; exact absurd g.2.1 (by simp)), impl_ModelDo.j0, if_pos rfl]
  rw [if_pos rfl]
  cases w
  · rw [if_neg (by simp), impl_model_in k m r t f false a s v hmo ha (fun g => absurd g (by simp)) (by omega)]
  · rw [if_pos rfl, impl_isnum]; simp only [Option.bind_some]
    by_cases hv : 0 ≤ v ∧ v < limitM s
    · rw [decide_eq_true hv]; simp only [Bool.not_true]; rw [impl_model_in k m r t f true a s v hmo ha (fun _ => hv) (by omega)]
    · rw [decide_eq_false hv]; simp only [Bool.not_false]; rw [modelDo_out m r t f true a s v (fun g => hv (g.2.2 rfl)), impl_ModelDo.j0, if_pos rfl]

theorem devDo_len (r f : List Int) (t a v : Int) (w : Bool) : (devDoM r t f w a v).1.length = r.length ∧ (f.length ≤ 4 → (devDoM r t f w a v).2.2.1.length ≤ 4) := by
  unfold devDoM
  (repeat' split) <;> simp <;> omega
theorem devDo_not (r f : List Int) (t a v : Int) (w : Bool) (h : (devDoM r t f w a v).2.2.2.2 = false) : devDoM r t f w a v = (r, t, f, 0, false) := by
  unfold devDoM at h ⊢
  by_cases c : devOkM r t f = true ∧ (w = true → wordM v = true)
  · rw [if_pos c] at h ⊢
    by_cases h16 : a = 16
    · rw [if_pos h16] at h; cases w <;> simp at h
    · rw [if_neg h16] at h ⊢
      by_cases h20 : a = 20
      · rw [if_pos h20] at h ⊢
        cases w
        · by_cases hl : 0 < f.length
          · simp [hl] at h
          · simp [hl]
        · by_cases hl : f.length < 4
          · simp [hl] at h
          · simp [hl]
      · rw [if_neg h20] at h ⊢
        by_cases hs : a = 0 ∨ a = 4 ∨ a = 8 ∨ a = 12
        · rw [if_pos hs] at h; cases w <;> simp at h
        · rw [if_neg hs]
  · rw [if_neg c]
theorem wordM_iff (x : Int) : wordM x = true ↔ 0 ≤ x ∧ x < 4294967296 := by unfold wordM; rw [decide_eq_true_eq]
theorem slot_nat (a : Int) (h : a = 0 ∨ a = 4 ∨ a = 8 ∨ a = 12) : ∃ n : Nat, a / 4 = (n : Int) ∧ n < 4 := by
  rcases h with rfl | rfl | rfl | rfl
  · exact ⟨0, rfl, by omega⟩
  · exact ⟨1, rfl, by omega⟩
  · exact ⟨2, rfl, by omega⟩
  · exact ⟨3, rfl, by omega⟩
theorem devDo_ok (r f : List Int) (t a v : Int) (w : Bool) (h : (devDoM r t f w a v).2.2.2.2 = true) : devOkM (devDoM r t f w a v).1 (devDoM r t f w a v).2.1 (devDoM r t f w a v).2.2.1 = true ∧ (w = true → (devDoM r t f w a v).2.2.2.1 = v) ∧ devOkM r t f = true ∧ (w = true → wordM v = true) := by
  by_cases c : devOkM r t f = true ∧ (w = true → wordM v = true)
  · rw [← and_assoc]; refine ⟨?_, c⟩
    unfold devDoM at h ⊢
    obtain ⟨hl, hf, hr, hff, ht0, ht1⟩ := (devOkM_iff r t f).1 c.1
    rw [if_pos c] at h ⊢
    by_cases h16 : a = 16
    · rw [if_pos h16]
      cases w
      · refine ⟨?_, by simp⟩
        have e : wrap64 (t + 1) = t + 1 := by unfold wrap64; omega
        have e2 : Int.tmod (t + 1) 4294967296 = (t + 1) % 4294967296 := Int.tmod_eq_emod_of_nonneg (by omega)
        show devOkM r (Int.tmod (wrap64 (t + 1)) 4294967296) f = true
        rw [e, e2, devOkM_iff]; exact ⟨hl, hf, hr, hff, by omega, by omega⟩
      · refine ⟨?_, by simp⟩
        show devOkM r v f = true
        have := (wordM_iff v).1 (c.2 rfl)
        rw [devOkM_iff]; exact ⟨hl, hf, hr, hff, this.1, this.2⟩
    · rw [if_neg h16] at h ⊢
      by_cases h20 : a = 20
      · rw [if_pos h20] at h ⊢
        cases w
        · rw [if_neg (by simp)] at h ⊢
          by_cases hl0 : 0 < f.length
          · rw [if_pos hl0]
            refine ⟨?_, by simp⟩
            show devOkM r t (f.drop 1) = true
            rw [devOkM_iff]; exact ⟨hl, by rw [List.length_drop]; omega, hr, fun x hx => hff x (List.mem_of_mem_drop hx), ht0, ht1⟩
          · rw [if_neg hl0] at h; simp at h
        · rw [if_pos rfl] at h ⊢
          by_cases hl4 : f.length < 4
          · rw [if_pos hl4]
            refine ⟨?_, by simp⟩
            show devOkM r t (f ++ [v]) = true
            have hv := (wordM_iff v).1 (c.2 rfl)
            rw [devOkM_iff]; refine ⟨hl, by rw [List.length_append]; simp; omega, hr, fun x hx => ?_, ht0, ht1⟩
            rw [List.mem_append, List.mem_singleton] at hx
            rcases hx with hx | rfl
            · exact hff x hx
            · exact hv
          · rw [if_neg hl4] at h; simp at h
      · rw [if_neg h20] at h ⊢
        by_cases hs : a = 0 ∨ a = 4 ∨ a = 8 ∨ a = 12
        · rw [if_pos hs] at h ⊢
          cases w
          · exact ⟨c.1, by simp⟩
          · refine ⟨?_, by simp⟩
            show devOkM (r.set (a / 4).toNat v) t f = true
            have hv := (wordM_iff v).1 (c.2 rfl)
            rw [devOkM_iff]; refine ⟨by rw [List.length_set]; exact hl, hf, fun x hx => ?_, hff, ht0, ht1⟩
            rcases List.mem_or_eq_of_mem_set hx with hx | rfl
            · exact hr x hx
            · exact hv
        · rw [if_neg hs] at h; simp at h
  · unfold devDoM at h; rw [if_neg c] at h; simp at h
/-- A register is read as it was written. -/
theorem devDo_again (r f : List Int) (t a v : Int) (h : (devDoM r t f true a v).2.2.2.2 = true) (ha : a < 16) : ∃ r', devDoM r t f true a v = (r', t, f, v, true) ∧ devDoM r' t f false a 0 = (r', t, f, v, true) := by
  obtain ⟨g1, g2, g3, g4⟩ := devDo_ok r f t a v true h
  have hl := dev_ro r t f g3
  have n16 : a ≠ 16 := by omega
  have n20 : a ≠ 20 := by omega
  have c : devOkM r t f = true ∧ (true = true → wordM v = true) := ⟨g3, g4⟩
  by_cases hs : a = 0 ∨ a = 4 ∨ a = 8 ∨ a = 12
  · have e : devDoM r t f true a v = (r.set (a / 4).toNat v, t, f, v, true) := by
      unfold devDoM; rw [if_pos c, if_neg n16, if_neg n20, if_pos hs, if_pos rfl]
    refine ⟨_, e, ?_⟩
    rw [e] at g1
    have c2 : devOkM (r.set (a / 4).toNat v) t f = true ∧ (false = true → wordM 0 = true) := ⟨g1, by simp⟩
    obtain ⟨n, hn, hn4⟩ := slot_nat a hs
    have hrd : rd (r.set (a / 4).toNat v) (a / 4) = v := by
      rw [hn, Int.toNat_natCast, rd_nat _ n (by rw [List.length_set]; omega), List.getElem_set_self]
    unfold devDoM; rw [if_pos c2, if_neg n16, if_neg n20, if_pos hs, if_neg (by simp), hrd]
  · unfold devDoM at h; rw [if_pos c, if_neg n16, if_neg n20, if_neg hs] at h; simp at h
/-- The queue keeps its order. -/
theorem devDo_queue (r f : List Int) (t v : Int) (w : Bool) (h : (devDoM r t f w 20 v).2.2.2.2 = true) : (w = true ∧ devDoM r t f w 20 v = (r, t, f ++ [v], v, true) ∧ f.length < 4) ∨ (w = false ∧ devDoM r t f w 20 v = (r, t, f.drop 1, rd f 0, true) ∧ 0 < f.length ∧ f.length ≤ 4) := by
  obtain ⟨g1, g2, g3, g4⟩ := devDo_ok r f t 20 v w h
  have hl := dev_fo r t f g3
  have c : devOkM r t f = true ∧ (w = true → wordM v = true) := ⟨g3, g4⟩
  unfold devDoM at h ⊢
  rw [if_pos c, if_neg (by omega), if_pos rfl] at h ⊢
  cases w
  · right
    rw [if_neg (by simp)] at h ⊢
    by_cases hl0 : 0 < f.length
    · rw [if_pos hl0]; exact ⟨rfl, rfl, hl0, hl⟩
    · rw [if_neg hl0] at h; simp at h
  · left
    rw [if_pos rfl] at h ⊢
    by_cases hl4 : f.length < 4
    · rw [if_pos hl4]; exact ⟨rfl, rfl, hl4⟩
    · rw [if_neg hl4] at h; simp at h

theorem modelDo_len (m r : List Int) (t : Int) (f : List Int) (w : Bool) (a s v : Int) : (modelDoM m r t f w a s v).1.length = m.length ∧ (modelDoM m r t f w a s v).2.1.length = r.length ∧ ((modelDoM m r t f w a s v).2.2.2.1.length ≤ 4 ∨ (modelDoM m r t f w a s v).2.2.2.1.length = f.length) := by
  by_cases c : modelOkM m r t f = true ∧ alignedM a s = true ∧ (w = true → 0 ≤ v ∧ v < limitM s)
  · rw [modelDo_in m r t f w a s v c.1 c.2.1 c.2.2]
    by_cases h : a < 192
    · rw [if_pos h]; cases w
      · exact ⟨rfl, rfl, .inr rfl⟩
      · exact ⟨putM_length _ _ _ _, rfl, .inr rfl⟩
    rw [if_neg h]
    by_cases h2 : a < 224 ∧ s = 2 ∧ (devDoM r t f w (a - 192) v).2.2.2.2 = true
    · rw [if_pos h2]
      obtain ⟨l1, l2⟩ := devDo_len r f t (a - 192) v w
      exact ⟨rfl, l1, .inl (l2 (dev_fo r t f ((modelOkM_iff m r t f).1 c.1).2.2))⟩
    · rw [if_neg h2]; exact ⟨rfl, rfl, .inr rfl⟩
  · rw [modelDo_out m r t f w a s v c]; exact ⟨rfl, rfl, .inr rfl⟩

theorem leM_set (l : List Int) (a j : Nat) (x : Int) (n : Nat) (h : a + n ≤ j) (hl : j < l.length) : leM (l.set j x) a n = leM l a n := by
  induction n with
  | zero => rfl
  | succ n ih =>
    simp only [leM]
    rw [ih (by omega), rd_nat _ (a + n) (by rw [List.length_set]; omega), rd_nat _ (a + n) (by omega), List.getElem_set_ne (by omega)]
theorem emod_step (v b c : Int) (hb : 0 ≤ b) : v % (b * c) = v % b + v / b % c * b := by
  rw [Int.emod_def v (b * c), ← Int.ediv_ediv_of_nonneg hb, Int.emod_def v b, Int.emod_def (v / b) c, Int.sub_mul, Int.mul_comm (c * (v / b / c)) b, ← Int.mul_assoc, Int.mul_comm (v / b) b]
  omega
theorem leM_putM (l : List Int) (a : Nat) (v : Int) (n : Nat) (h : a + n ≤ l.length) : leM (putM l a v n) a n = v % 256 ^ n := by
  induction n with
  | zero => simp only [leM, Int.pow_zero]; omega
  | succ n ih =>
    have hp : (0 : Int) < 256 ^ n := Int.pow_pos (by decide)
    have hl := putM_length l a v n
    simp only [leM, putM]
    rw [leM_set _ _ _ _ _ (Nat.le_refl _) (by omega), ih (by omega), rd_nat _ (a + n) (by rw [List.length_set]; omega), List.getElem_set_self, Int.pow_succ, emod_step v _ _ (Int.le_of_lt hp)]
theorem putM_bytes (l : List Int) (h : ∀ x ∈ l, 0 ≤ x ∧ x ≤ 255) (a : Nat) (v : Int) (n : Nat) : ∀ x ∈ putM l a v n, 0 ≤ x ∧ x ≤ 255 := by
  induction n with
  | zero => exact h
  | succ n ih =>
    intro x hx
    simp only [putM] at hx
    rcases List.mem_or_eq_of_mem_set hx with hx | rfl
    · exact ih x hx
    · omega
theorem limit_pow (s : Int) (h0 : 0 ≤ s) (h2 : s ≤ 2) : limitM s = 256 ^ (bytesM s).toNat := by
  rcases limitM_cases s with ⟨_, e, g⟩ | ⟨_, e, g⟩ | ⟨_, e, g⟩ | ⟨h', _, _⟩
  · rw [e, g]; decide
  · rw [e, g]; decide
  · rw [e, g]; decide
  · exact absurd ⟨h0, h2⟩ h'
/-- A refused beat changes nothing. -/
theorem modelDo_not (m r : List Int) (t : Int) (f : List Int) (w : Bool) (a s v : Int) (h : (modelDoM m r t f w a s v).2.2.2.2.2 ≠ 0) : modelDoM m r t f w a s v = (m, r, t, f, 0, 1) := by
  by_cases c : modelOkM m r t f = true ∧ alignedM a s = true ∧ (w = true → 0 ≤ v ∧ v < limitM s)
  · rw [modelDo_in m r t f w a s v c.1 c.2.1 c.2.2] at h ⊢
    by_cases h1 : a < 192
    · rw [if_pos h1] at h; exfalso; apply h; cases w <;> simp
    rw [if_neg h1] at h ⊢
    by_cases h2 : a < 224 ∧ s = 2 ∧ (devDoM r t f w (a - 192) v).2.2.2.2 = true
    · rw [if_pos h2] at h; exact absurd rfl h
    · rw [if_neg h2]
  · exact modelDo_out m r t f w a s v c
theorem modelDo_ok (m r : List Int) (t : Int) (f : List Int) (w : Bool) (a s v : Int) (h : (modelDoM m r t f w a s v).2.2.2.2.2 = 0) : modelOkM m r t f = true ∧ alignedM a s = true ∧ (w = true → 0 ≤ v ∧ v < limitM s) := by
  by_cases c : modelOkM m r t f = true ∧ alignedM a s = true ∧ (w = true → 0 ≤ v ∧ v < limitM s)
  · exact c
  · rw [modelDo_out m r t f w a s v c] at h; exact absurd h (by simp)
theorem put_ok (m r : List Int) (t : Int) (f : List Int) (a : Nat) (v : Int) (n : Nat) (h : modelOkM m r t f = true) : modelOkM (putM m a v n) r t f = true := by
  obtain ⟨h1, h2, h3⟩ := (modelOkM_iff m r t f).1 h
  exact (modelOkM_iff _ r t f).2 ⟨(putM_length m a v n).trans h1, putM_bytes m h2 a v n, h3⟩
/-- A beat to memory is read as it was written, and a read beat changes nothing. -/
theorem modelDo_ram (m r : List Int) (t : Int) (f : List Int) (w : Bool) (a s v : Int) (h : (modelDoM m r t f w a s v).2.2.2.2.2 = 0) (ha : a < 192) :
    ∃ m' n, modelDoM m r t f w a s v = (m', r, t, f, n, 0) ∧ modelOkM m' r t f = true ∧ m'.length = m.length ∧ (w = true → n = v) ∧ (w = false → m' = m) ∧ modelDoM m' r t f false a s 0 = (m', r, t, f, n, 0) := by
  obtain ⟨c1, c2, c3⟩ := modelDo_ok m r t f w a s v h
  have hfit := ram_fits m r t f a s c1 c2 ha
  cases w
  · refine ⟨m, leM m a.toNat (bytesM s).toNat, ?_, c1, rfl, by simp, fun _ => rfl, ?_⟩
    · rw [modelDo_in m r t f false a s v c1 c2 c3, if_pos ha, if_neg (by simp)]
    · rw [modelDo_in m r t f false a s 0 c1 c2 (by simp), if_pos ha, if_neg (by simp)]
  · have hv := c3 rfl
    have hok := put_ok m r t f a.toNat v (bytesM s).toNat c1
    refine ⟨putM m a.toNat v (bytesM s).toNat, v, ?_, hok, putM_length _ _ _ _, fun _ => rfl, by simp, ?_⟩
    · rw [modelDo_in m r t f true a s v c1 c2 c3, if_pos ha, if_pos rfl]
    · have h0 := aligned_nonneg a s c2
      obtain ⟨_, _, _, g4⟩ := (fitsM_iff m a s).1 hfit
      obtain ⟨_, g2, g3, _⟩ := (alignedM_iff a s).1 c2
      have hb := bytesM_le4 s
      have e : leM (putM m a.toNat v (bytesM s).toNat) a.toNat (bytesM s).toNat = v := by
        rw [leM_putM m a.toNat v _ (by omega), ← limit_pow s g2 g3]
        exact Int.emod_eq_of_lt hv.1 hv.2
      rw [modelDo_in _ r t f false a s 0 hok c2 (by simp), if_pos ha, if_neg (by simp), e]
/-- A beat to the device leaves the memory alone. -/
theorem modelDo_dev (m r : List Int) (t : Int) (f : List Int) (w : Bool) (a s v : Int) (h : (modelDoM m r t f w a s v).2.2.2.2.2 = 0) (ha : ¬ a < 192) :
    ∃ r' t' f' n, modelDoM m r t f w a s v = (m, r', t', f', n, 0) ∧ modelOkM m r' t' f' = true ∧ (w = true → n = v) := by
  obtain ⟨c1, c2, c3⟩ := modelDo_ok m r t f w a s v h
  rw [modelDo_in m r t f w a s v c1 c2 c3, if_neg ha] at h ⊢
  by_cases h2 : a < 224 ∧ s = 2 ∧ (devDoM r t f w (a - 192) v).2.2.2.2 = true
  · obtain ⟨d1, d2, _, _⟩ := devDo_ok r f t (a - 192) v w h2.2.2
    obtain ⟨g1, g2, _⟩ := (modelOkM_iff m r t f).1 c1
    rw [if_pos h2]
    exact ⟨_, _, _, _, rfl, (modelOkM_iff m _ _ _).2 ⟨g1, g2, d1⟩, d2⟩
  · rw [if_neg h2] at h; exact absurd h (by simp)

theorem and255_any (y : Int) : 0 ≤ Go.bits .and .i64 y 255 ∧ Go.bits .and .i64 y 255 ≤ 255 := by
  have e : ((BitVec.ofInt 64 y) &&& (BitVec.ofInt 64 255)).toNat ≤ 255 := by
    rw [BitVec.toNat_and]; exact Nat.and_le_right
  have h : Go.bits .and .i64 y 255 = ((((BitVec.ofInt 64 y) &&& (BitVec.ofInt 64 255)).toNat : Nat) : Int) := by
    unfold Go.bits; simp only []
    have e2 : (((BitVec.ofInt IntKind.i64.bits y &&& BitVec.ofInt IntKind.i64.bits 255).toNat : Nat) : Int) ≤ 255 := Int.ofNat_le.2 e
    exact wraps_i64 _ (Int.natCast_nonneg _) (Int.lt_of_le_of_lt e2 (by decide))
  rw [h]; omega
theorem byte_ok (b : List Int) (i h : Int) (hb : b.length ≤ 1048576) (hi : 0 ≤ i) : ∃ x i' h', spec_l1Byte.f b i h = some (x, i', h') ∧ 0 ≤ x ∧ x ≤ 255 ∧ 0 ≤ i' := by
  unfold spec_l1Byte.f
  by_cases hl : i < (b.length : Int)
  · rw [if_pos hl, if_pos hi]
    exact ⟨_, _, _, rfl, (and255_any _).1, (and255_any _).2, by rw [wrap64_id (by omega) (by omega)]; omega⟩
  · rw [if_neg hl]
    exact ⟨_, _, _, rfl, (and255_any _).1, (and255_any _).2, hi⟩
theorem four_ok (x y z w : Int) (hx : 0 ≤ x ∧ x ≤ 255) (hy : 0 ≤ y ∧ y ≤ 255) (hz : 0 ≤ z ∧ z ≤ 255) (hw : 0 ≤ w ∧ w ≤ 255) :
    wrap64 (wrap64 (wrap64 (wrap64 (x * 16777216) + wrap64 (y * 65536)) + wrap64 (z * 256)) + w) = x * 16777216 + y * 65536 + z * 256 + w := by
  have e1 : wrap64 (x * 16777216) = x * 16777216 := wrap64_id (by omega) (by omega)
  have e2 : wrap64 (y * 65536) = y * 65536 := wrap64_id (by clear e1; omega) (by clear e1; omega)
  have e3 : wrap64 (z * 256) = z * 256 := wrap64_id (by clear e1 e2; omega) (by clear e1 e2; omega)
  rw [e1, e2, e3]; clear e1 e2 e3
  have e4 : wrap64 (x * 16777216 + y * 65536) = x * 16777216 + y * 65536 := wrap64_id (by omega) (by omega)
  rw [e4]; clear e4
  have e5 : wrap64 (x * 16777216 + y * 65536 + z * 256) = x * 16777216 + y * 65536 + z * 256 := wrap64_id (by omega) (by omega)
  rw [e5]; clear e5
  exact wrap64_id (by omega) (by omega)
theorem tmod_in (x n : Int) (hx : 0 ≤ x) (hn : 0 < n) : 0 ≤ Int.tmod x n ∧ Int.tmod x n < n := by
  rw [Int.tmod_eq_emod_of_nonneg hx]; exact ⟨Int.emod_nonneg _ (by omega), Int.emod_lt_of_pos _ hn⟩
theorem below_ok (b : List Int) (i h n : Int) (hb : b.length ≤ 1048576) (hi : 0 ≤ i) : ∃ x i' h', spec_l1Below.f b i h n = some (x, i', h') ∧ 0 ≤ x ∧ (0 < n → x < n) ∧ 0 ≤ i' := by
  unfold spec_l1Below.f
  by_cases h0 : n ≤ 0
  · rw [if_pos h0]; exact ⟨_, _, _, rfl, by omega, by omega, hi⟩
  · rw [if_neg h0]
    obtain ⟨x1, i1, h1, e1, a1, b1, c1⟩ := byte_ok b i h hb hi
    have hn : ¬ n = 0 := by omega
    by_cases h2 : n ≤ 256
    · rw [if_pos h2, e1]; simp only [Option.bind_some]; rw [if_neg hn]
      have := tmod_in x1 n a1 (by omega)
      exact ⟨_, _, _, rfl, this.1, fun _ => this.2, c1⟩
    · rw [if_neg h2]
      obtain ⟨x2, i2, h2, e2, a2, b2, c2⟩ := byte_ok b i1 h1 hb c1
      obtain ⟨x3, i3, h3, e3, a3, b3, c3⟩ := byte_ok b i2 h2 hb c2
      obtain ⟨x4, i4, h4, e4, a4, b4, c4⟩ := byte_ok b i3 h3 hb c3
      rw [e1]; simp only [Option.bind_some]; rw [e2]; simp only [Option.bind_some]; rw [e3]; simp only [Option.bind_some]; rw [e4]; simp only [Option.bind_some]
      rw [if_neg hn, four_ok x1 x2 x3 x4 ⟨a1, b1⟩ ⟨a2, b2⟩ ⟨a3, b3⟩ ⟨a4, b4⟩]
      have := tmod_in (x1 * 16777216 + x2 * 65536 + x3 * 256 + x4) n (by omega) (by omega)
      exact ⟨_, _, _, rfl, this.1, fun _ => this.2, c4⟩

theorem new_loop (b : List Int) (hb : b.length ≤ 1048576) (d : Nat) : ∀ (k i : Nat) (h : Int), i + d = b.length → d < k → ∃ h', spec_l1New.l0 k b h i = some (b, 0, h') := by
  induction d with
  | zero =>
    intro k i h hi hk
    obtain ⟨k, rfl⟩ : ∃ m, k = m + 1 := ⟨k - 1, by omega⟩
    have hl : ¬ (i : Int) < (b.length : Int) := by omega
    exact ⟨h, by simp only [spec_l1New.l0]; rw [if_neg hl]⟩
  | succ d ih =>
    intro k i h hi hk
    obtain ⟨k, rfl⟩ : ∃ m, k = m + 1 := ⟨k - 1, by omega⟩
    have hl : (i : Int) < (b.length : Int) := by omega
    have hw : wrap64 ((i : Int) + 1) = ((i + 1 : Nat) : Int) := by unfold wrap64; omega
    simp only [spec_l1New.l0]; rw [if_pos hl]
    by_cases h4 : (i : Int) < 4000
    · rw [if_pos h4, if_pos (Int.natCast_nonneg _), hw]
      exact ih k (i + 1) _ (by clear hw; omega) (by clear hw; omega)
    · rw [if_neg h4]; exact ⟨_, rfl⟩
theorem new_ok (k : Nat) (b : List Int) (hb : b.length ≤ 1048576) (hk : b.length < k) : ∃ h, spec_l1New.f k b = some (b, 0, h) := by
  unfold spec_l1New.f
  exact new_loop b hb b.length k 0 _ (by omega) hk

theorem pick_ok (b : List Int) (i h : Int) (l : List Int) (hb : b.length ≤ 1048576) (hi : 0 ≤ i) (hl : 0 < l.length) : ∃ x i' h', spec_l1PickInt.f b i h l = some (x, i', h') ∧ x ∈ l ∧ 0 ≤ i' := by
  unfold spec_l1PickInt.f
  obtain ⟨x, i', h', e, h0, h1, h2⟩ := below_ok b i h (l.length : Int) hb hi
  have h1' := h1 (by omega)
  rw [e]; simp only [Option.bind_some]; rw [if_pos h0, if_pos h1']
  refine ⟨_, _, _, rfl, ?_, h2⟩
  unfold rd
  rw [List.getD_eq_getElem?_getD, List.getElem?_eq_getElem (show x.toNat < l.length by omega)]
  exact List.getElem_mem _

theorem value_ok (b : List Int) (i h s : Int) (hb : b.length ≤ 1048576) (hi : 0 ≤ i) : ∃ x i' h', spec_l4Value.f b i h s = some (x, i', h') ∧ -1 ≤ x ∧ x ≤ 4294967296 ∧ 0 ≤ i' := by
  have hL : 0 ≤ limitM s ∧ limitM s ≤ 4294967296 := by
    rcases limitM_cases s with ⟨_, _, h⟩ | ⟨_, _, h⟩ | ⟨_, _, h⟩ | ⟨_, _, h⟩ <;> omega
  have hw : wrap64 (limitM s - 1) = limitM s - 1 := wrap64_id (by omega) (by omega)
  have hm : 0 < mx 1 (limitM s) ∧ mx 1 (limitM s) ≤ 4294967296 := by unfold mx; split <;> omega
  unfold spec_l4Value.f
  obtain ⟨x1, i1, h1, e1, a1, b1, c1⟩ := below_ok b i h 256 hb hi
  have b1' := b1 (by omega)
  rw [e1]; simp only [Option.bind_some, spec_limit]
  obtain ⟨x2, i2, h2, e2, a2, b2, c2⟩ := below_ok b i1 h1 (mx 1 (limitM s)) hb c1
  have b2' := b2 hm.1
  rw [e2]; simp only [Option.bind_some]
  rw [hw]; clear hw
  obtain ⟨x, i', h', e, hx, c⟩ := pick_ok b i2 h2 [x1, x2, limitM s - 1, limitM s, 0, -1] hb c2 (by simp)
  rw [e]; simp only [Option.bind_some]
  refine ⟨x, i', h', rfl, ?_, ?_, c⟩ <;>
    · simp only [List.mem_cons, List.not_mem_nil, or_false] at hx
      rcases hx with rfl | rfl | rfl | rfl | rfl | rfl <;> omega

theorem once_ok (b : List Int) (i h n : Int) (hb : b.length ≤ 1048576) (hi : 0 ≤ i) : ∃ x i' h', spec_l1Once.f b i h n = some (x, i', h') ∧ 0 ≤ i' := by
  unfold spec_l1Once.f
  obtain ⟨x, i', h', e, _, _, c⟩ := below_ok b i h n hb hi
  rw [e]; exact ⟨_, _, _, rfl, c⟩
theorem dev_loop (b : List Int) (hb : b.length ≤ 1048576) (k : Nat) (d : Nat) : ∀ (n : Int) (i h : Int) (r : List Int) (t : Int) (f : List Int), n = (d : Int) → d ≤ 8 → 0 ≤ i → r.length = 4 → f.length ≤ 4 → 20 ≤ k →
    ∃ r' t' f' i' h', spec_l8Dev.l0 (k + d + 1) n b i h r t f = some (r', t', f', i', h') ∧ r'.length = 4 ∧ f'.length ≤ 4 ∧ 0 ≤ i' := by
  induction d with
  | zero =>
    intro n i h r t f hn _ hi hr hf hk
    rw [spec_l8Dev.l0, if_neg (by omega)]
    exact ⟨r, t, f, i, h, rfl, hr, hf, hi⟩
  | succ d ih =>
    intro n i h r t f hn hd hi hr hf hk
    have hw : wrap64 (n - 1) = (d : Int) := by subst hn; unfold wrap64; omega
    rw [spec_l8Dev.l0, if_pos (by omega), hw]; clear hw
    obtain ⟨x1, i1, h1, e1, c1⟩ := once_ok b i h 4 hb hi
    rw [e1]; simp only [Option.bind_some]
    obtain ⟨x2, i2, h2, e2, _, _, c2⟩ := below_ok b i1 h1 6 hb c1
    rw [e2]; simp only [Option.bind_some]
    obtain ⟨x3, i3, h3, e3, _, _, c3⟩ := value_ok b i2 h2 2 hb c2
    rw [e3]; simp only [Option.bind_some]
    rw [spec_do (k + (d + 1)) r f t _ _ _ (by omega) (by omega) (by omega) (by omega)]; simp only [Option.bind_some]
    obtain ⟨l1, l2⟩ := devDo_len r f t (wrap64 (4 * x2)) x3 (!x1)
    exact ih _ i3 h3 _ _ _ rfl (by omega) c3 (l1.trans hr) (l2 hf) hk
theorem dev_ok (k : Nat) (b : List Int) (i h : Int) (hb : b.length ≤ 1048576) (hi : 0 ≤ i) (hk : 40 ≤ k) : ∃ r t f i' h', spec_l8Dev.f k b i h = some (r, t, f, i', h') ∧ r.length = 4 ∧ f.length ≤ 4 ∧ 0 ≤ i' := by
  unfold spec_l8Dev.f
  have e : spec_DevNew.f = some (List.replicate 4 0, 0, []) := by unfold spec_DevNew.f; rw [if_pos (by omega)]
  rw [e]; simp only [Option.bind_some]
  obtain ⟨x, i1, h1, e1, a1, b1, c1⟩ := below_ok b i h 8 hb hi
  rw [e1]; simp only [Option.bind_some]
  have b1' := b1 (by omega)
  obtain ⟨k', rfl⟩ : ∃ k', k = k' + x.toNat + 1 := ⟨k - (x.toNat + 1), by omega⟩
  exact dev_loop b hb k' x.toNat x i1 h1 _ _ _ (by omega) (by omega) c1 (by simp) (by simp) (by omega)
theorem any_loop (b : List Int) (hb : b.length ≤ 1048576) (d : Nat) : ∀ (k : Nat) (i h : Int) (r : List Int) (t : Int) (f : List Int), f.length + d = 5 → 0 ≤ i → d < k →
    ∃ f' i' h', spec_l8Any.l0 k b i h r t f = some (r, t, f', i', h') ∧ f'.length ≤ 5 ∧ 0 ≤ i' := by
  induction d with
  | zero =>
    intro k i h r t f hf hi hk
    obtain ⟨k, rfl⟩ : ∃ m, k = m + 1 := ⟨k - 1, by omega⟩
    obtain ⟨x, i1, h1, e1, a1, b1, c1⟩ := below_ok b i h 2 hb hi
    have b1' := b1 (by omega)
    have hw : wrap64 (4 + x) = 4 + x := wrap64_id (by omega) (by omega)
    rw [spec_l8Any.l0, e1]; simp only [Option.bind_some]
    rw [hw, if_neg (by clear hw; omega)]
    exact ⟨f, i1, h1, rfl, by omega, c1⟩
  | succ d ih =>
    intro k i h r t f hf hi hk
    obtain ⟨k, rfl⟩ : ∃ m, k = m + 1 := ⟨k - 1, by omega⟩
    obtain ⟨x, i1, h1, e1, a1, b1, c1⟩ := below_ok b i h 2 hb hi
    have b1' := b1 (by omega)
    have hw : wrap64 (4 + x) = 4 + x := wrap64_id (by omega) (by omega)
    rw [spec_l8Any.l0, e1]; simp only [Option.bind_some]
    rw [hw]; clear hw
    by_cases hc : (f.length : Int) < 4 + x
    · rw [if_pos hc, if_pos (by omega)]
      exact ih k i1 h1 r t (f ++ [1]) (by rw [List.length_append]; simp; omega) c1 (by omega)
    · rw [if_neg hc]; exact ⟨f, i1, h1, rfl, by omega, c1⟩
theorem any_ok (k : Nat) (b : List Int) (i h : Int) (hb : b.length ≤ 1048576) (hi : 0 ≤ i) (hk : 40 ≤ k) : ∃ r t f i' h', spec_l8Any.f k b i h = some (r, t, f, i', h') ∧ r.length ≤ 4 ∧ f.length ≤ 5 ∧ 0 ≤ i' := by
  unfold spec_l8Any.f
  obtain ⟨r, t, f, i0, h0, e0, hr, hf, c0⟩ := dev_ok k b i h hb hi hk
  rw [e0]; simp only [Option.bind_some]
  obtain ⟨x, i1, h1, e1, a1, b1, c1⟩ := below_ok b i0 h0 12 hb c0
  rw [e1]; simp only [Option.bind_some]
  by_cases x0 : x = 0
  · rw [if_pos x0]
    obtain ⟨y, i2, h2, e2, _, c2⟩ := pick_ok b i1 h1 [(-1), 4294967295, 4294967296] hb c1 (by simp)
    rw [e2]; exact ⟨_, _, _, _, _, rfl, by omega, by omega, c2⟩
  rw [if_neg x0]
  by_cases x1 : x = 1
  · rw [if_pos x1, if_pos (by omega)]
    exact ⟨_, _, _, _, _, rfl, by rw [List.length_drop]; omega, by omega, c1⟩
  rw [if_neg x1]
  by_cases x2 : x = 2
  · rw [if_pos x2]
    obtain ⟨f', i', h', e, hf', c⟩ := any_loop b hb (5 - f.length) k i1 h1 r t f (by omega) c1 (by omega)
    rw [e]; exact ⟨_, _, _, _, _, rfl, by omega, hf', c⟩
  rw [if_neg x2]; exact ⟨_, _, _, _, _, rfl, by omega, by omega, c1⟩

theorem model_loop (b : List Int) (hb : b.length ≤ 1048576) (k : Nat) (d : Nat) : ∀ (n : Int) (i h : Int) (m r : List Int) (t : Int) (f : List Int), n = (d : Int) → d ≤ 8 → 0 ≤ i → m.length = 192 → 60 ≤ k →
    ∃ m' r' t' f' i' h', spec_l9Model.l0 (k + d + 1) n b i h m r t f = some (m', r', t', f', i', h') ∧ m'.length = 192 ∧ r'.length = 4 ∧ f'.length ≤ 4 ∧ 0 ≤ i' := by
  induction d with
  | zero =>
    intro n i h m r t f hn _ hi hm hk
    rw [spec_l9Model.l0, if_neg (by omega)]
    obtain ⟨r', t', f', i', h', e, hr, hf, c⟩ := dev_ok k b i h hb hi (by omega)
    rw [e]; exact ⟨m, r', t', f', i', h', rfl, hm, hr, hf, c⟩
  | succ d ih =>
    intro n i h m r t f hn hd hi hm hk
    have hw : wrap64 (n - 1) = (d : Int) := by subst hn; unfold wrap64; omega
    rw [spec_l9Model.l0, if_pos (by omega), hw]; clear hw
    obtain ⟨x1, i1, h1, e1, a1, b1, c1⟩ := below_ok b i h 192 hb hi
    have b1' := b1 (by omega)
    rw [e1]; simp only [Option.bind_some]
    obtain ⟨x2, i2, h2, e2, _, _, c2⟩ := below_ok b i1 h1 256 hb c1
    rw [e2]; simp only [Option.bind_some]
    rw [if_pos a1, if_pos (by omega)]
    exact ih _ i2 h2 _ r t f rfl (by omega) c2 (by rw [List.length_set]; exact hm) hk
theorem model_ok (k : Nat) (b : List Int) (i h : Int) (hb : b.length ≤ 1048576) (hi : 0 ≤ i) (hk : 100 ≤ k) : ∃ m r t f i' h', spec_l9Model.f k b i h = some (m, r, t, f, i', h') ∧ m.length = 192 ∧ r.length = 4 ∧ f.length ≤ 4 ∧ 0 ≤ i' := by
  unfold spec_l9Model.f
  have e : spec_DevNew.f = some (List.replicate 4 0, 0, []) := by unfold spec_DevNew.f; rw [if_pos (by omega)]
  have e' : spec_ModelNew.f = some (List.replicate 192 0, List.replicate 4 0, 0, []) := by unfold spec_ModelNew.f; rw [if_pos (by omega), e]; rfl
  rw [e']; simp only [Option.bind_some]
  obtain ⟨x, i1, h1, e1, a1, b1, c1⟩ := below_ok b i h 5 hb hi
  rw [e1]; simp only [Option.bind_some]
  have b1' := b1 (by omega)
  obtain ⟨k', rfl⟩ : ∃ k', k = k' + x.toNat + 1 := ⟨k - (x.toNat + 1), by omega⟩
  exact model_loop b hb k' x.toNat x i1 h1 _ _ _ _ (by omega) (by omega) c1 List.length_replicate (by omega)
theorem model_any_ok (k : Nat) (b : List Int) (i h : Int) (hb : b.length ≤ 1048576) (hi : 0 ≤ i) (hk : 100 ≤ k) : ∃ m r t f i' h', spec_l9Any.f k b i h = some (m, r, t, f, i', h') ∧ m.length ≤ 192 ∧ r.length ≤ 4 ∧ f.length ≤ 5 ∧ 0 ≤ i' := by
  unfold spec_l9Any.f
  obtain ⟨m, r, t, f, i0, h0, e0, hm, hr, hf, c0⟩ := model_ok k b i h hb hi hk
  rw [e0]; simp only [Option.bind_some]
  obtain ⟨x, i1, h1, e1, a1, b1, c1⟩ := below_ok b i0 h0 12 hb c0
  rw [e1]; simp only [Option.bind_some]
  by_cases x0 : x = 0
  · rw [if_pos x0, if_pos (by omega)]
    exact ⟨_, _, _, _, _, _, rfl, by rw [List.length_set]; omega, by omega, by omega, c1⟩
  rw [if_neg x0]
  by_cases x1 : x = 1
  · rw [if_pos x1, if_pos (by omega)]
    exact ⟨_, _, _, _, _, _, rfl, by rw [List.length_drop]; omega, by omega, by omega, c1⟩
  rw [if_neg x1]
  by_cases x2 : x = 2
  · rw [if_pos x2]
    obtain ⟨r', t', f', i', h', e, hr', hf', c⟩ := any_ok k b i1 h1 hb c1 (by omega)
    rw [e]; exact ⟨_, _, _, _, _, _, rfl, by omega, hr', hf', c⟩
  rw [if_neg x2]; exact ⟨_, _, _, _, _, _, rfl, by omega, by omega, by omega, c1⟩
theorem draw_modeldo (k : Nat) (b : List Int) (hb : b.length ≤ 1048576) (hk : b.length + 100 ≤ k) : ∃ m r t f w a s v, spec_DrawModelDo.f k b = some (m, r, t, f, w, a, s, v) ∧ m.length ≤ 192 ∧ r.length ≤ 4 ∧ f.length ≤ 5 := by
  unfold spec_DrawModelDo.f
  obtain ⟨h0, e0⟩ := new_ok k b hb (by omega)
  rw [e0]; simp only [Option.bind_some]
  obtain ⟨s, i1, h1, e1, _, c1⟩ := pick_ok b 0 h0 [2, 2, 1, 0, 3] hb (by omega) (by simp)
  rw [e1]; simp only [Option.bind_some]
  obtain ⟨x2, i2, h2, e2, _, _, c2⟩ := below_ok b i1 h1 128 hb c1
  rw [e2]; simp only [Option.bind_some]
  obtain ⟨x3, i3, h3, e3, _, _, c3⟩ := below_ok b i2 h2 64 hb c2
  rw [e3]; simp only [Option.bind_some]
  obtain ⟨x4, i4, h4, e4, _, _, c4⟩ := below_ok b i3 h3 32 hb c3
  rw [e4]; simp only [Option.bind_some]
  obtain ⟨x5, i5, h5, e5, _, _, c5⟩ := below_ok b i4 h4 32 hb c4
  rw [e5]; simp only [Option.bind_some]
  obtain ⟨a, i6, h6, e6, _, c6⟩ := pick_ok b i5 h5 [x2, wrap64 (128 + x3), wrap64 (192 + x4), wrap64 (192 + x5), 224, (-1)] hb c5 (by simp)
  rw [e6]; simp only [Option.bind_some]
  obtain ⟨q, i7, h7, e7, c7⟩ := once_ok b i6 h6 8 hb c6
  rw [e7]; simp only [Option.bind_some]
  obtain ⟨m, r, t, f, i8, h8, e8, hm, hr, hf, c8⟩ := model_any_ok k b i7 h7 hb c7 (by omega)
  obtain ⟨w, i9, h9, e9, c9⟩ := once_ok b i8 h8 2 hb c8
  obtain ⟨v, i10, h10, e10, _, _, c10⟩ := value_ok b i9 h9 s hb c9
  by_cases hq : q = true
  · rw [if_pos hq, e8]; simp only [Option.bind_some]
    rw [e9]; simp only [Option.bind_some]
    rw [e10]; exact ⟨_, _, _, _, _, _, _, _, rfl, hm, hr, hf⟩
  · rw [if_neg hq, e8]; simp only [Option.bind_some]
    rw [e9]; simp only [Option.bind_some]
    rw [e10]; exact ⟨_, _, _, _, _, _, _, _, rfl, hm, hr, hf⟩

theorem l5Ints_loop (a b : List Int) (hab : a.length = b.length) (hl : a.length ≤ 1099511627776) (d : Nat) : ∀ (k i : Nat), i + d = a.length → d < k → spec_l5Ints.l0 k a b i = some (decide (a.drop i = b.drop i)) := by
  induction d with
  | zero =>
    intro k i hi hk
    obtain ⟨k, rfl⟩ : ∃ m, k = m + 1 := ⟨k - 1, by omega⟩
    have h : ¬ (i : Int) < (a.length : Int) := by omega
    simp only [spec_l5Ints.l0]; rw [if_neg h, List.drop_eq_nil_of_le (by omega), List.drop_eq_nil_of_le (by omega)]; simp
  | succ d ih =>
    intro k i hi hk
    obtain ⟨k, rfl⟩ : ∃ m, k = m + 1 := ⟨k - 1, by omega⟩
    have h : (i : Int) < (a.length : Int) := by omega
    have h0 : (0 : Int) ≤ (i : Int) := by omega
    have hb : (i : Int) < (b.length : Int) := by omega
    have hia : i < a.length := by omega
    have hib : i < b.length := by omega
    simp only [spec_l5Ints.l0]; rw [if_pos h, if_pos h0, if_pos hb, rd_nat _ _ hia, rd_nat _ _ hib, wrap_succ (n := a.length) (by omega) hl, ih k (i + 1) (by omega) (by omega)]
    by_cases e : a[i] = b[i]
    · have hd : (a.drop i = b.drop i) ↔ (a.drop (i + 1) = b.drop (i + 1)) := by
        rw [List.drop_eq_getElem_cons hia, List.drop_eq_getElem_cons hib, List.cons.injEq]; exact ⟨fun h => h.2, fun h => ⟨e, h⟩⟩
      rw [if_pos e]; simp only [hd]
    · have hd : ¬ (a.drop i = b.drop i) := by
        rw [List.drop_eq_getElem_cons hia, List.drop_eq_getElem_cons hib, List.cons.injEq]; exact fun h => e h.1
      rw [if_neg e]; simp only [hd, decide_false]
theorem l5Ints_is (k : Nat) (a b : List Int) (hl : a.length ≤ 1099511627776) (hk : a.length < k) : spec_l5Ints.f k a b = some (decide (a = b)) := by
  unfold spec_l5Ints.f
  by_cases h : a.length = b.length
  · have h' : (a.length : Int) = (b.length : Int) := by omega
    rw [if_pos h']
    have := l5Ints_loop a b h hl a.length k 0 (by omega) hk
    simpa using this
  · have h' : ¬ (a.length : Int) = (b.length : Int) := by omega
    have hne : a ≠ b := fun e => h (by rw [e])
    rw [if_neg h']; simp [hne]

theorem samedev_refl (k : Nat) (r f : List Int) (t : Int) (hr : r.length ≤ 1099511627776) (hf : f.length ≤ 1099511627776) (kr : r.length < k) (kf : f.length < k) : spec_SameDev.f k r t f r t f = some true := by
  unfold spec_SameDev.f; rw [l5Ints_is k r r hr kr, l5Ints_is k f f hf kf]; simp
theorem samemodel_refl (k : Nat) (m r f : List Int) (t : Int) (hm : m.length ≤ 1099511627776) (hr : r.length ≤ 1099511627776) (hf : f.length ≤ 1099511627776) (km : m.length < k) (kr : r.length < k) (kf : f.length < k) : spec_SameModel.f k m r t f m r t f = some true := by
  unfold spec_SameModel.f; rw [l5Ints_is k m m hm km]; simp only [Option.bind_some, decide_true, if_true]; rw [samedev_refl k r f t hr hf kr kf]; rfl

theorem same_loop (l : List Int) (hl : l.length ≤ 1099511627776) (d : Nat) : ∀ (k i : Nat), i + d = l.length → d < k → laws_sameInts.l0 k l l i = some true := by
  induction d with
  | zero =>
    intro k i hi hk
    obtain ⟨k, rfl⟩ : ∃ m, k = m + 1 := ⟨k - 1, by omega⟩
    have h : ¬ (i : Int) < (l.length : Int) := by omega
    simp only [laws_sameInts.l0]; rw [if_neg h]
  | succ d ih =>
    intro k i hi hk
    obtain ⟨k, rfl⟩ : ∃ m, k = m + 1 := ⟨k - 1, by omega⟩
    have h : (i : Int) < (l.length : Int) := by omega
    have e := ih k (i + 1) (by omega) (by omega)
    simp only [laws_sameInts.l0]; rw [if_pos h, if_pos (Int.natCast_nonneg _), if_pos h, wrap_succ (n := l.length) (by omega) hl]
    simp only [if_true]; exact e
theorem same_refl (k : Nat) (l : List Int) (hl : l.length ≤ 1099511627776) (hk : l.length < k) : laws_sameInts.f k l l = some true := by
  unfold laws_sameInts.f; rw [if_pos rfl]; exact same_loop l hl l.length k 0 (by omega) hk

theorem models_at (k : Nat) (m r : List Int) (t : Int) (f : List Int) (w : Bool) (a s v : Int) (hm : m.length ≤ 192) (hr : r.length ≤ 4) (hf : f.length ≤ 5) (hk : 400 ≤ k) :
    laws_FnModels.j0 (k + 2) w a s v (modelDoM m r t f w a s v).2.2.2.2.1 (modelDoM m r t f w a s v).2.2.2.2.2 false m r t f (modelDoM m r t f w a s v).1 (modelDoM m r t f w a s v).2.1 (modelDoM m r t f w a s v).2.2.1 (modelDoM m r t f w a s v).2.2.2.1 = some true := by
  rw [laws_FnModels.j0, if_neg (by simp)]
  by_cases h : (modelDoM m r t f w a s v).2.2.2.2.2 = 0
  · rw [if_pos h]
    by_cases ha : a < 192
    · obtain ⟨m', n, e, hok, hl, hwv, hwm, eg⟩ := modelDo_ram m r t f w a s v h ha
      rw [e]; simp only []
      rw [impl_modelok (k + 1) m' r t f (by omega) (by omega) (by omega) (by omega) (by omega) (by omega), hok]; simp only [Option.bind_some, if_true]
      have hn : (if w = true then laws_FnModels.j1 (k + 1) w a s v n (n != v) m r t f m' r t f else laws_FnModels.j1 (k + 1) w a s v n false m r t f m' r t f) = laws_FnModels.j1 (k + 1) w a s v n false m r t f m' r t f := by
        by_cases hw : w = true
        · rw [if_pos hw, hwv hw, bne_self_eq_false]
        · rw [if_neg hw]
      rw [hn, laws_FnModels.j1, if_neg (by simp), if_pos ha, impl_model k m' r t f false a s 0 (by omega) (by omega) (by omega) (by omega) (by omega) (by omega) (by omega), eg]; simp only [Option.bind_some, if_true]
      rw [samemodel_refl k m' r f t (by omega) (by omega) (by omega) (by omega) (by omega) (by omega)]; simp only [Option.bind_some, if_true]
      by_cases hw : w = true
      · rw [if_pos hw, if_pos (hwv hw)]
      · rw [if_neg hw, if_neg hw]
        obtain rfl := hwm (by simpa using hw)
        rw [samemodel_refl k m' r f t (by omega) (by omega) (by omega) (by omega) (by omega) (by omega)]; simp
    · obtain ⟨r', t', f', n, e, hok, hwv⟩ := modelDo_dev m r t f w a s v h ha
      obtain ⟨l0, l1, l2⟩ := modelDo_len m r t f w a s v
      rw [e] at l0 l1 l2
      simp only [] at l0 l1 l2
      rw [e]; simp only []
      rw [impl_modelok (k + 1) m r' t' f' (by omega) (by omega) (by omega) (by omega) (by omega) (by omega), hok]; simp only [Option.bind_some, if_true]
      have hn : (if w = true then laws_FnModels.j1 (k + 1) w a s v n (n != v) m r t f m r' t' f' else laws_FnModels.j1 (k + 1) w a s v n false m r t f m r' t' f') = laws_FnModels.j1 (k + 1) w a s v n false m r t f m r' t' f' := by
        by_cases hw : w = true
        · rw [if_pos hw, hwv hw, bne_self_eq_false]
        · rw [if_neg hw]
      rw [hn, laws_FnModels.j1, if_neg (by simp), if_neg ha, same_refl k m (by omega) (by omega)]; rfl
  · rw [if_neg h, modelDo_not m r t f w a s v h]; simp only [if_true]
    rw [samemodel_refl (k + 1) m r f t (by omega) (by omega) (by omega) (by omega) (by omega) (by omega)]; rfl
theorem FnModels : laws_FnModels.Pure := by
  intro c _ _ _
  refine ⟨1048800 + 2, ?_⟩
  generalize hk : 1048800 = k
  unfold laws_FnModels.f laws_big.f; simp only [Option.bind_some]
  by_cases hb : (c.length : Int) > 1048576
  · rw [decide_eq_true hb]; simp
  · rw [decide_eq_false hb]; simp only [Bool.false_eq_true, if_false]
    obtain ⟨m, r, t, f, w, a, s, v, e, hm, hr, hf⟩ := draw_modeldo (k + 2) c (by omega) (by omega)
    obtain ⟨l0, l1, l2⟩ := modelDo_len m r t f w a s v
    have key := models_at k m r t f w a s v hm hr hf (by omega)
    rw [e]; simp only [Option.bind_some]
    rw [impl_model (k + 2) m r t f w a s v (by omega) (by omega) (by omega) (by omega) (by omega) (by omega) (by omega), spec_model (k + 2) m r t f w a s v (by omega) (by omega) (by omega) (by omega) (by omega) (by omega) (by omega)]; simp only [Option.bind_some, if_true]
    rw [samemodel_refl (k + 2) _ _ _ _ (by omega) (by omega) (by omega) (by omega) (by omega) (by omega)]; simp only [Option.bind_some, Bool.not_true]
    exact key

end Go.Proofs.Ythikbgjlcdkoaaa.Pure
