/- A register returns what was written last, the queue keeps its order and a refused access changes nothing, for every code. -/
import Derived.Test.YthikbgjlcdkoaaaMFnDevicesx
namespace Go.Proofs.Ythikbgjlcdkoaaa.Pure
open Go.RowKit Go.Proofs.Ythikbgjlcdkoaaa.MFnDevices Go.Proofs.YthikbgjlcdkoaaaW.PrintWords Go.Proofs.YthikbgjlcdkoaaaW.PrintLast Go.Proofs.YthikbgjlcdkoaaaW.PrintMore
set_option linter.unusedVariables false
set_option linter.unusedSimpArgs false
set_option maxHeartbeats 4000000

theorem wf_of {a : Int} (h : (Lit.int .i64 a).wf = true) : -9223372036854775808 ≤ a ∧ a ≤ 9223372036854775807 := by
  simp [Lit.wf, IntKind.min, IntKind.max, IntKind.signed, IntKind.bits] at h; omega
theorem pow_le_i (b i j : Nat) (h0 : 0 < b) (h : i ≤ j) : (b : Int) ^ i ≤ (b : Int) ^ j := by
  have h1 := Nat.pow_le_pow_right h0 h
  have h2 : ((b ^ i : Nat) : Int) ≤ ((b ^ j : Nat) : Int) := Int.ofNat_le.2 h1
  rwa [Int.natCast_pow, Int.natCast_pow] at h2
theorem wrap64_id {a : Int} (h0 : -9223372036854775808 ≤ a) (h1 : a ≤ 9223372036854775807) : wrap64 a = a := by unfold wrap64; omega

theorem wraps_i64 (n : Int) (h₀ : 0 ≤ n) (h₁ : n < 2 ^ 63) : IntKind.i64.wrap n = n := by rw [IntKind.wrap_i64]; omega
theorem and_mask (i : Nat) (hi : i ≤ 63) (x : Int) (h₀ : 0 ≤ x) (h₁ : x ≤ 9223372036854775807) : Go.bits .and .i64 x (2 ^ i - 1) = x % 2 ^ i :=
  bits_mask .i64 63 (by decide) wraps_i64 i hi x h₀ (by omega)
theorem or_join (i : Nat) (x y : Int) (hx₀ : 0 ≤ x) (hx : x % 2 ^ i = 0) (hx₁ : x ≤ 9223372036854775807) (hy₀ : 0 ≤ y) (hy : y < 2 ^ i) (hy₁ : y ≤ 9223372036854775807) : Go.bits .or .i64 x y = x + y :=
  bits_join .i64 63 (by decide) wraps_i64 i x y hx₀ hx (by omega) hy₀ hy (by omega)
theorem i64wrap_id {a : Int} (h0 : -9223372036854775808 ≤ a) (h1 : a ≤ 9223372036854775807) : IntKind.i64.wrap a = a := by rw [IntKind.wrap_i64]; omega
theorem and255 {x : Int} (h₀ : 0 ≤ x) (h₁ : x ≤ 9223372036854775807) : Go.bits .and .i64 x 255 = x % 256 := and_mask 8 (by decide) x h₀ h₁
theorem and127 {x : Int} (h₀ : 0 ≤ x) (h₁ : x ≤ 9223372036854775807) : Go.bits .and .i64 x 127 = x % 128 := and_mask 7 (by decide) x h₀ h₁
theorem or_comm_i64 (x y : Int) : Go.bits .or .i64 x y = Go.bits .or .i64 y x := by
  simp only [Go.bits, BitVec.or_comm]

theorem and255_any (y : Int) : 0 ≤ Go.bits .and .i64 y 255 ∧ Go.bits .and .i64 y 255 ≤ 255 := by
  have e : ((BitVec.ofInt 64 y) &&& (BitVec.ofInt 64 255)).toNat ≤ 255 := by
    rw [BitVec.toNat_and]; exact Nat.and_le_right
  have h : Go.bits .and .i64 y 255 = ((((BitVec.ofInt 64 y) &&& (BitVec.ofInt 64 255)).toNat : Nat) : Int) := by
    unfold Go.bits; simp only []
    have e2 : (((BitVec.ofInt IntKind.i64.bits y &&& BitVec.ofInt IntKind.i64.bits 255).toNat : Nat) : Int) ≤ 255 := Int.ofNat_le.2 e
    exact wraps_i64 _ (Int.natCast_nonneg _) (Int.lt_of_le_of_lt e2 (by decide))
  rw [h]; omega
theorem byte_ok (b : List Int) (i h : Int) (hb : b.length ≤ 1048576) (hi : 0 ≤ i) : ∃ x i' h', spec_l1Byte.f b i h = some (x, i', h') ∧ 0 ≤ x ∧ x ≤ 255 ∧ 0 ≤ i' := by
  unfold spec_l1Byte.f
  by_cases hl : i < (b.length : Int)
  · rw [if_pos hl, if_pos hi]
    exact ⟨_, _, _, rfl, (and255_any _).1, (and255_any _).2, by rw [wrap64_id (by omega) (by omega)]; omega⟩
  · rw [if_neg hl]
    exact ⟨_, _, _, rfl, (and255_any _).1, (and255_any _).2, hi⟩
theorem four_ok (x y z w : Int) (hx : 0 ≤ x ∧ x ≤ 255) (hy : 0 ≤ y ∧ y ≤ 255) (hz : 0 ≤ z ∧ z ≤ 255) (hw : 0 ≤ w ∧ w ≤ 255) :
    wrap64 (wrap64 (wrap64 (wrap64 (x * 16777216) + wrap64 (y * 65536)) + wrap64 (z * 256)) + w) = x * 16777216 + y * 65536 + z * 256 + w := by
  have e1 : wrap64 (x * 16777216) = x * 16777216 := wrap64_id (by omega) (by omega)
  have e2 : wrap64 (y * 65536) = y * 65536 := wrap64_id (by clear e1; omega) (by clear e1; omega)
  have e3 : wrap64 (z * 256) = z * 256 := wrap64_id (by clear e1 e2; omega) (by clear e1 e2; omega)
  rw [e1, e2, e3]; clear e1 e2 e3
  have e4 : wrap64 (x * 16777216 + y * 65536) = x * 16777216 + y * 65536 := wrap64_id (by omega) (by omega)
  rw [e4]; clear e4
  have e5 : wrap64 (x * 16777216 + y * 65536 + z * 256) = x * 16777216 + y * 65536 + z * 256 := wrap64_id (by omega) (by omega)
  rw [e5]; clear e5
  exact wrap64_id (by omega) (by omega)
theorem tmod_in (x n : Int) (hx : 0 ≤ x) (hn : 0 < n) : 0 ≤ Int.tmod x n ∧ Int.tmod x n < n := by
  rw [Int.tmod_eq_emod_of_nonneg hx]; exact ⟨Int.emod_nonneg _ (by omega), Int.emod_lt_of_pos _ hn⟩
theorem below_ok (b : List Int) (i h n : Int) (hb : b.length ≤ 1048576) (hi : 0 ≤ i) : ∃ x i' h', spec_l1Below.f b i h n = some (x, i', h') ∧ 0 ≤ x ∧ (0 < n → x < n) ∧ 0 ≤ i' := by
  unfold spec_l1Below.f
  by_cases h0 : n ≤ 0
  · rw [if_pos h0]; exact ⟨_, _, _, rfl, by omega, by omega, hi⟩
  · rw [if_neg h0]
    obtain ⟨x1, i1, h1, e1, a1, b1, c1⟩ := byte_ok b i h hb hi
    have hn : ¬ n = 0 := by omega
    by_cases h2 : n ≤ 256
    · rw [if_pos h2, e1]; simp only [Option.bind_some]; rw [if_neg hn]
      have := tmod_in x1 n a1 (by omega)
      exact ⟨_, _, _, rfl, this.1, fun _ => this.2, c1⟩
    · rw [if_neg h2]
      obtain ⟨x2, i2, h2, e2, a2, b2, c2⟩ := byte_ok b i1 h1 hb c1
      obtain ⟨x3, i3, h3, e3, a3, b3, c3⟩ := byte_ok b i2 h2 hb c2
      obtain ⟨x4, i4, h4, e4, a4, b4, c4⟩ := byte_ok b i3 h3 hb c3
      rw [e1]; simp only [Option.bind_some]; rw [e2]; simp only [Option.bind_some]; rw [e3]; simp only [Option.bind_some]; rw [e4]; simp only [Option.bind_some]
      rw [if_neg hn, four_ok x1 x2 x3 x4 ⟨a1, b1⟩ ⟨a2, b2⟩ ⟨a3, b3⟩ ⟨a4, b4⟩]
      have := tmod_in (x1 * 16777216 + x2 * 65536 + x3 * 256 + x4) n (by omega) (by omega)
      exact ⟨_, _, _, rfl, this.1, fun _ => this.2, c4⟩

theorem new_loop (b : List Int) (hb : b.length ≤ 1048576) (d : Nat) : ∀ (k i : Nat) (h : Int), i + d = b.length → d < k → ∃ h', spec_l1New.l0 k b h i = some (b, 0, h') := by
  induction d with
  | zero =>
    intro k i h hi hk
    obtain ⟨k, rfl⟩ : ∃ m, k = m + 1 := ⟨k - 1, by omega⟩
    have hl : ¬ (i : Int) < (b.length : Int) := by omega
    exact ⟨h, by simp only [spec_l1New.l0]; rw [if_neg hl]⟩
  | succ d ih =>
    intro k i h hi hk
    obtain ⟨k, rfl⟩ : ∃ m, k = m + 1 := ⟨k - 1, by omega⟩
    have hl : (i : Int) < (b.length : Int) := by omega
    have hw : wrap64 ((i : Int) + 1) = ((i + 1 : Nat) : Int) := by unfold wrap64; omega
    simp only [spec_l1New.l0]; rw [if_pos hl]
    by_cases h4 : (i : Int) < 4000
    · rw [if_pos h4, if_pos (Int.natCast_nonneg _), hw]
      exact ih k (i + 1) _ (by clear hw; omega) (by clear hw; omega)
    · rw [if_neg h4]; exact ⟨_, rfl⟩
theorem new_ok (k : Nat) (b : List Int) (hb : b.length ≤ 1048576) (hk : b.length < k) : ∃ h, spec_l1New.f k b = some (b, 0, h) := by
  unfold spec_l1New.f
  exact new_loop b hb b.length k 0 _ (by omega) hk

theorem pick_ok (b : List Int) (i h : Int) (l : List Int) (hb : b.length ≤ 1048576) (hi : 0 ≤ i) (hl : 0 < l.length) : ∃ x i' h', spec_l1PickInt.f b i h l = some (x, i', h') ∧ x ∈ l ∧ 0 ≤ i' := by
  unfold spec_l1PickInt.f
  obtain ⟨x, i', h', e, h0, h1, h2⟩ := below_ok b i h (l.length : Int) hb hi
  have h1' := h1 (by omega)
  rw [e]; simp only [Option.bind_some]; rw [if_pos h0, if_pos h1']
  refine ⟨_, _, _, rfl, ?_, h2⟩
  unfold rd
  rw [List.getD_eq_getElem?_getD, List.getElem?_eq_getElem (show x.toNat < l.length by omega)]
  exact List.getElem_mem _

theorem spec_in (a b c : Int) : spec_l1In.f a b c = some (decide (b ≤ a ∧ a ≤ c)) := by
  unfold spec_l1In.f; by_cases h : b ≤ a
  · rw [if_pos h]; simp [h]
  · rw [if_neg h]; simp [h]

/-- How many bytes a size has. -/
def bytesM (s : Int) : Int := if s = 0 then 1 else if s = 1 then 2 else if s = 2 then 4 else 0
theorem bytesM_cases (s : Int) : (s = 0 ∧ bytesM s = 1) ∨ (s = 1 ∧ bytesM s = 2) ∨ (s = 2 ∧ bytesM s = 4) ∨ (¬ (0 ≤ s ∧ s ≤ 2) ∧ bytesM s = 0) := by
  unfold bytesM; split
  · left; omega
  · split
    · right; left; omega
    · split
      · right; right; left; omega
      · right; right; right; omega
theorem shl_1_0 : shl .i64 1 0 = 1 := by decide
theorem shl_1_1 : shl .i64 1 1 = 2 := by decide
theorem shl_1_2 : shl .i64 1 2 = 4 := by decide

theorem spec_bytes (s : Int) : spec_BytesOf.f s = some (bytesM s) := by
  unfold spec_BytesOf.f; rw [spec_in]
  rcases bytesM_cases s with ⟨rfl, h⟩ | ⟨rfl, h⟩ | ⟨rfl, h⟩ | ⟨h0, h⟩
  · rfl
  · rfl
  · rfl
  · rw [h]; simp [h0]

/-- How many numbers a size has. -/
def limitM (s : Int) : Int := if s = 0 then 256 else if s = 1 then 65536 else if s = 2 then 4294967296 else 0
theorem limitM_cases (s : Int) : (s = 0 ∧ bytesM s = 1 ∧ limitM s = 256) ∨ (s = 1 ∧ bytesM s = 2 ∧ limitM s = 65536) ∨ (s = 2 ∧ bytesM s = 4 ∧ limitM s = 4294967296) ∨ (¬ (0 ≤ s ∧ s ≤ 2) ∧ bytesM s = 0 ∧ limitM s = 0) := by
  unfold limitM bytesM; split
  · left; omega
  · split
    · right; left; omega
    · split
      · right; right; left; omega
      · right; right; right; omega
theorem shl_1_8 : shl .i64 1 8 = 256 := by decide
theorem shl_1_16 : shl .i64 1 16 = 65536 := by decide
theorem shl_1_32 : shl .i64 1 32 = 4294967296 := by decide
theorem wrap64_8_1 : wrap64 8 = 8 := by unfold wrap64; omega
theorem wrap64_8_2 : wrap64 16 = 16 := by unfold wrap64; omega
theorem wrap64_8_4 : wrap64 32 = 32 := by unfold wrap64; omega

theorem spec_limit (s : Int) : spec_LimitOf.f s = some (limitM s) := by
  unfold spec_LimitOf.f; rw [spec_bytes]
  rcases limitM_cases s with ⟨rfl, h, k⟩ | ⟨rfl, h, k⟩ | ⟨rfl, h, k⟩ | ⟨h0, h, k⟩
  · rw [h, k]; simp [wrap64_8_1, shl_1_8]
  · rw [h, k]; simp [wrap64_8_2, shl_1_16]
  · rw [h, k]; simp [wrap64_8_4, shl_1_32]
  · rw [h, k]; rfl

theorem value_ok (b : List Int) (i h s : Int) (hb : b.length ≤ 1048576) (hi : 0 ≤ i) : ∃ x i' h', spec_l4Value.f b i h s = some (x, i', h') ∧ -1 ≤ x ∧ x ≤ 4294967296 ∧ 0 ≤ i' := by
  have hL : 0 ≤ limitM s ∧ limitM s ≤ 4294967296 := by
    rcases limitM_cases s with ⟨_, _, h⟩ | ⟨_, _, h⟩ | ⟨_, _, h⟩ | ⟨_, _, h⟩ <;> omega
  have hw : wrap64 (limitM s - 1) = limitM s - 1 := wrap64_id (by omega) (by omega)
  have hm : 0 < mx 1 (limitM s) ∧ mx 1 (limitM s) ≤ 4294967296 := by unfold mx; split <;> omega
  unfold spec_l4Value.f
  obtain ⟨x1, i1, h1, e1, a1, b1, c1⟩ := below_ok b i h 256 hb hi
  have b1' := b1 (by omega)
  rw [e1]; simp only [Option.bind_some, spec_limit]
  obtain ⟨x2, i2, h2, e2, a2, b2, c2⟩ := below_ok b i1 h1 (mx 1 (limitM s)) hb c1
  have b2' := b2 hm.1
  rw [e2]; simp only [Option.bind_some]
  rw [hw]; clear hw
  obtain ⟨x, i', h', e, hx, c⟩ := pick_ok b i2 h2 [x1, x2, limitM s - 1, limitM s, 0, -1] hb c2 (by simp)
  rw [e]; simp only [Option.bind_some]
  refine ⟨x, i', h', rfl, ?_, ?_, c⟩ <;>
    · simp only [List.mem_cons, List.not_mem_nil, or_false] at hx
      rcases hx with rfl | rfl | rfl | rfl | rfl | rfl <;> omega

theorem wrap_succ {i n : Nat} (h : i < n) (hn : n ≤ 1099511627776) : wrap64 ((i : Int) + 1) = ((i + 1 : Nat) : Int) := by unfold wrap64; omega
theorem rd_nat (l : List Int) (i : Nat) (h : i < l.length) : rd l (i : Int) = l[i] := by
  unfold rd; simp [List.getD_eq_getElem?_getD, List.getElem?_eq_getElem h]
theorem rdOf_nat {α : Type} (d : α) (l : List α) (i : Nat) (h : i < l.length) : rdOf d l (i : Int) = l[i] := by
  unfold rdOf; simp [List.getD_eq_getElem?_getD, List.getElem?_eq_getElem h]
theorem set_take {α : Type} (l : List α) (i : Nat) (x : α) (h : i < l.length) : (l.set i x).take (i + 1) = l.take i ++ [x] := by
  rw [List.take_succ_eq_append_getElem (by simpa using h), List.take_set, List.set_eq_of_length_le (by simp; omega)]; simp
theorem set_drop {α : Type} (l : List α) (i : Nat) (x : α) : (l.set i x).drop (i + 1) = l.drop (i + 1) := by
  rw [List.drop_set]; simp

def wordM (x : Int) : Bool := decide (0 ≤ x ∧ x < 4294967296)
/-- A device is valid. -/
def devOkM (r : List Int) (t : Int) (f : List Int) : Bool := decide ((r.length : Int) = 4) && decide ((f.length : Int) ≤ 4) && r.all wordM && f.all wordM && wordM t
theorem devOkM_iff (r : List Int) (t : Int) (f : List Int) : devOkM r t f = true ↔ r.length = 4 ∧ f.length ≤ 4 ∧ (∀ x ∈ r, 0 ≤ x ∧ x < 4294967296) ∧ (∀ x ∈ f, 0 ≤ x ∧ x < 4294967296) ∧ 0 ≤ t ∧ t < 4294967296 := by
  unfold devOkM; simp [wordM]; constructor
  · rintro ⟨⟨⟨⟨h1, h2⟩, h3⟩, h4⟩, h5⟩; exact ⟨by omega, by omega, h3, h4, h5⟩
  · rintro ⟨h1, h2, h3, h4, h5⟩; exact ⟨⟨⟨⟨by omega, by omega⟩, h3⟩, h4⟩, h5⟩
theorem word_alt (x : Int) : decide (0 ≤ x ∧ x ≤ 4294967295) = wordM x := by unfold wordM; rw [decide_eq_decide]; omega
theorem limit_two : limitM 2 = 4294967296 := rfl
theorem wrap_max : wrap64 (4294967296 - 1) = 4294967295 := by unfold wrap64; omega

/-- What a device answers to one access: its registers, its timer, its queue, the word and whether it was done. -/
def devDoM (r : List Int) (t : Int) (f : List Int) (w : Bool) (a v : Int) : List Int × Int × List Int × Int × Bool :=
  if devOkM r t f = true ∧ (w = true → wordM v = true) then
    (if a = 16 then (if w = true then (r, v, f, v, true) else (r, Int.tmod (wrap64 (t + 1)) 4294967296, f, t, true))
     else if a = 20 then
       (if w = true then (if f.length < 4 then (r, t, f ++ [v], v, true) else (r, t, f, 0, false))
        else (if 0 < f.length then (r, t, f.drop 1, rd f 0, true) else (r, t, f, 0, false)))
     else if a = 0 ∨ a = 4 ∨ a = 8 ∨ a = 12 then
       (if w = true then (r.set (a / 4).toNat v, t, f, v, true) else (r, t, f, rd r (a / 4), true))
     else (r, t, f, 0, false))
  else (r, t, f, 0, false)
theorem dev_slot (a : Int) (h0 : 0 ≤ a) (h1 : a < 16) (h4 : Int.tmod a 4 = 0) : a = 0 ∨ a = 4 ∨ a = 8 ∨ a = 12 := by
  rw [Int.tmod_eq_emod_of_nonneg h0] at h4; omega
theorem dev_at (a : Int) (h0 : 0 ≤ a) (h1 : a < 16) : wrap64 (Int.tdiv a 4) = a / 4 := by
  rw [Int.tdiv_eq_ediv_of_nonneg h0]; unfold wrap64; omega
theorem dev_fo (r : List Int) (t : Int) (f : List Int) (h : devOkM r t f = true) : f.length ≤ 4 := ((devOkM_iff r t f).mp h).2.1
theorem dev_ro (r : List Int) (t : Int) (f : List Int) (h : devOkM r t f = true) : r.length = 4 := ((devOkM_iff r t f).mp h).1

theorem spec_words_loop (l : List Int) (hl : l.length ≤ 1099511627776) (d : Nat) : ∀ (k i : Nat), i + d = l.length → d < k → spec_l8Words.l0 k l i = some ((l.drop i).all wordM) := by
  induction d with
  | zero =>
    intro k i hi hk
    obtain ⟨k, rfl⟩ : ∃ m, k = m + 1 := ⟨k - 1, by omega⟩
    have h : ¬ (i : Int) < (l.length : Int) := by omega
    simp only [spec_l8Words.l0]; rw [if_neg h, List.drop_eq_nil_of_le (by omega)]; simp
  | succ d ih =>
    intro k i hi hk
    obtain ⟨k, rfl⟩ : ∃ m, k = m + 1 := ⟨k - 1, by omega⟩
    have h : (i : Int) < (l.length : Int) := by omega
    have h0 : (0 : Int) ≤ (i : Int) := by omega
    have hil : i < l.length := by omega
    simp only [spec_l8Words.l0, spec_limit, Option.bind_some, limit_two, wrap_max]; rw [if_pos h, if_pos h0, spec_in, wrap_succ (n := l.length) (by omega) hl, ih k (i + 1) (by omega) (by omega), rd_nat _ _ hil, List.drop_eq_getElem_cons hil, word_alt]
    simp only [List.all_cons, Option.bind_some]
    cases wordM l[i] <;> simp
theorem spec_words (k : Nat) (l : List Int) (hl : l.length ≤ 1099511627776) (hk : l.length < k) : spec_l8Words.f k l = some (l.all wordM) := by
  unfold spec_l8Words.f
  have := spec_words_loop l hl l.length k 0 (by omega) hk
  simpa using this
theorem spec_devok (k : Nat) (r : List Int) (t : Int) (f : List Int) (hr : r.length ≤ 1099511627776) (hf : f.length ≤ 1099511627776) (kr : r.length < k) (kf : f.length < k) : spec_DevOk.f k r t f = some (devOkM r t f) := by
  unfold spec_DevOk.f devOkM
  rw [spec_words k r hr kr, spec_words k f hf kf, spec_limit, limit_two]; simp only [Option.bind_some]
  rw [wrap_max, spec_in, word_alt]; simp only [Option.bind_some]
  by_cases h1 : (r.length : Int) = 4 <;> by_cases h2 : (f.length : Int) ≤ 4 <;> cases r.all wordM <;> cases f.all wordM <;> cases wordM t <;> simp [h1, h2]

theorem spec_copy_is (r f : List Int) (t : Int) (hr : r.length ≤ 1048576) (hf : f.length ≤ 1048576) : spec_l8Copy.f r t f = some (r, t, f) := by
  unfold spec_l8Copy.f; simp only [Option.bind_some, List.nil_append, List.length_nil, Nat.zero_add]; rw [if_pos (by omega), if_pos (by omega)]
theorem spec_do_in (k : Nat) (r f : List Int) (t a v : Int) (w : Bool) (hr : r.length = 4) (hf : f.length ≤ 4) (h4 : Int.tmod a 4 = 0) : spec_DevDo.j0 (k + 8) w a v false r t f = some (
    (if a = 16 then (if w = true then (r, v, f, v, true) else (r, Int.tmod (wrap64 (t + 1)) 4294967296, f, t, true))
     else if a = 20 then
       (if w = true then (if f.length < 4 then (r, t, f ++ [v], v, true) else (r, t, f, 0, false))
        else (if 0 < f.length then (r, t, f.drop 1, rd f 0, true) else (r, t, f, 0, false)))
     else if a = 0 ∨ a = 4 ∨ a = 8 ∨ a = 12 then
       (if w = true then (r.set (a / 4).toNat v, t, f, v, true) else (r, t, f, rd r (a / 4), true))
     else (r, t, f, 0, false))) := by
  rw [spec_DevDo.j0, if_neg (by simp), spec_in]; simp only [Option.bind_some]
  by_cases hs : a = 0 ∨ a = 4 ∨ a = 8 ∨ a = 12
  · have e2 : wrap64 (Int.tdiv a 4) = a / 4 := dev_at a (by omega) (by omega)
    have n16 : a ≠ 16 := by omega
    have n20 : a ≠ 20 := by omega
    have hin : decide (0 ≤ a ∧ a ≤ 12) = true := by rw [decide_eq_true_eq]; omega
    have g0 : 0 ≤ a / 4 := by omega
    have g1 : a / 4 < (r.length : Int) := by omega
    rw [if_neg n16, if_neg n20, if_pos hs, if_pos hin]
    cases w
    · rw [spec_DevDo.j1, if_neg (by simp), spec_in]; simp only [Option.bind_some]
      rw [if_pos hin, e2, if_pos g0, if_pos g1, if_neg (by simp)]
    · rw [spec_DevDo.j1, if_pos rfl, e2, if_pos g0, if_pos g1, if_pos rfl]
  have hn : ¬ (0 ≤ a ∧ a ≤ 12) := by intro h; exact hs (dev_slot a h.1 (by omega) h4)
  rw [if_neg (by rw [decide_eq_true_eq]; exact hn), spec_DevDo.j1, if_neg (by simp), spec_in]; simp only [Option.bind_some]
  rw [if_neg (by rw [decide_eq_true_eq]; exact hn), if_neg hs]
  by_cases h16 : a = 16
  · subst h16; rw [if_pos rfl, if_pos rfl, spec_DevDo.j2]
    cases w
    · rw [if_neg (by simp), if_pos rfl, spec_limit, limit_two]; simp
    · rw [if_pos rfl, if_pos rfl]
  rw [if_neg h16, if_neg h16, spec_DevDo.j2, if_neg (by simp), if_neg h16]
  by_cases h20 : a = 20
  · subst h20; rw [if_pos rfl, if_pos rfl]
    cases w
    · rw [if_neg (by simp), if_neg (by simp), spec_DevDo.j3, if_neg (by simp), if_pos rfl, if_neg (by simp)]
      by_cases hl : 0 < f.length
      · have q1 : (f.length : Int) > 0 := by omega
        have q2 : 0 < (f.length : Int) := by omega
        have q3 : 1 ≤ (f.length : Int) := by omega
        rw [if_pos hl, if_pos q1, if_pos q2, if_pos q3]; rfl
      · have q1 : ¬ (f.length : Int) > 0 := by omega
        rw [if_neg hl, if_neg q1]
    · rw [if_pos rfl, if_pos rfl, spec_DevDo.j3]
      by_cases hl : f.length < 4
      · have q1 : decide ((f.length : Int) < 4) = true := by rw [decide_eq_true_eq]; omega
        have q2 : f.length < 17592186044416 := by omega
        rw [if_pos hl, if_pos q1, if_pos q2]
      · have q1 : ¬ decide ((f.length : Int) < 4) = true := by rw [decide_eq_true_eq]; omega
        rw [if_neg hl, if_neg q1, if_pos rfl, if_pos rfl]
  rw [if_neg h20, if_neg h20, spec_DevDo.j3, if_neg (by simp), if_neg h20]
theorem spec_do_out (k : Nat) (r f : List Int) (t a v : Int) (w : Bool) : spec_DevDo.j0 (k + 8) w a v true r t f = some (r, t, f, 0, false) := by
  rw [spec_DevDo.j0, if_pos rfl]
theorem spec_do (k : Nat) (r f : List Int) (t a v : Int) (w : Bool) (hr : r.length ≤ 1048576) (hf : f.length ≤ 1048576) (kr : r.length + 8 < k) (kf : f.length + 8 < k) :
    spec_DevDo.f k r t f w a v = some (devDoM r t f w a v) := by
  unfold spec_DevDo.f
  rw [spec_copy_is r f t hr hf, spec_devok k r t f (by omega) (by omega) (by omega) (by omega)]; simp only [Option.bind_some]
  obtain ⟨k, rfl⟩ : ∃ m, k = m + 8 := ⟨k - 8, by omega⟩
  unfold devDoM
  cases hd : devOkM r t f
  · rw [if_neg (by simp), if_neg (by simp), spec_do_out]
  · rw [if_pos rfl, spec_limit, limit_two]; simp only [Option.bind_some]
    rw [wrap_max, spec_in, word_alt]; simp only [Option.bind_some]
    by_cases h4 : Int.tmod a 4 = 0
    · rw [if_pos h4]
      cases w
      · rw [if_neg (by simp), if_pos (by simp), spec_do_in k r f t a v false (dev_ro r t f hd) (dev_fo r t f hd) h4]
      · rw [if_pos rfl]
        cases hv : wordM v
        · rw [if_neg (by simp)]; simp only [Bool.not_false]; rw [spec_do_out]
        · rw [if_pos (by simp)]; simp only [Bool.not_true]; rw [spec_do_in k r f t a v true (dev_ro r t f hd) (dev_fo r t f hd) h4]; simp
    · have n16 : a ≠ 16 := by rintro rfl; exact h4 rfl
      have n20 : a ≠ 20 := by rintro rfl; exact h4 rfl
      have ns : ¬ (a = 0 ∨ a = 4 ∨ a = 8 ∨ a = 12) := by rintro (rfl | rfl | rfl | rfl) <;> exact h4 rfl
      rw [if_neg h4, if_neg n16, if_neg n20, if_neg ns, spec_do_out, ite_self]

theorem devDo_len (r f : List Int) (t a v : Int) (w : Bool) : (devDoM r t f w a v).1.length = r.length ∧ (f.length ≤ 4 → (devDoM r t f w a v).2.2.1.length ≤ 4) := by
  unfold devDoM
  (repeat' split) <;> simp <;> omega
theorem devDo_not (r f : List Int) (t a v : Int) (w : Bool) (h : (devDoM r t f w a v).2.2.2.2 = false) : devDoM r t f w a v = (r, t, f, 0, false) := by
  unfold devDoM at h ⊢
  by_cases c : devOkM r t f = true ∧ (w = true → wordM v = true)
  · rw [if_pos c] at h ⊢
    by_cases h16 : a = 16
    · rw [if_pos h16] at h; cases w <;> simp at h
    · rw [if_neg h16] at h ⊢
      by_cases h20 : a = 20
      · rw [if_pos h20] at h ⊢
        cases w
        · by_cases hl : 0 < f.length
          · simp [hl] at h
          · simp [hl]
        · by_cases hl : f.length < 4
          · simp [hl] at h
          · simp [hl]
      · rw [if_neg h20] at h ⊢
        by_cases hs : a = 0 ∨ a = 4 ∨ a = 8 ∨ a = 12
        · rw [if_pos hs] at h; cases w <;> simp at h
        · rw [if_neg hs]
  · rw [if_neg c]
theorem wordM_iff (x : Int) : wordM x = true ↔ 0 ≤ x ∧ x < 4294967296 := by unfold wordM; rw [decide_eq_true_eq]
theorem slot_nat (a : Int) (h : a = 0 ∨ a = 4 ∨ a = 8 ∨ a = 12) : ∃ n : Nat, a / 4 = (n : Int) ∧ n < 4 := by
  rcases h with rfl | rfl | rfl | rfl
  · exact ⟨0, rfl, by omega⟩
  · exact ⟨1, rfl, by omega⟩
  · exact ⟨2, rfl, by omega⟩
  · exact ⟨3, rfl, by omega⟩
theorem devDo_ok (r f : List Int) (t a v : Int) (w : Bool) (h : (devDoM r t f w a v).2.2.2.2 = true) : devOkM (devDoM r t f w a v).1 (devDoM r t f w a v).2.1 (devDoM r t f w a v).2.2.1 = true ∧ (w = true → (devDoM r t f w a v).2.2.2.1 = v) ∧ devOkM r t f = true ∧ (w = true → wordM v = true) := by
  by_cases c : devOkM r t f = true ∧ (w = true → wordM v = true)
  · rw [← and_assoc]; refine ⟨?_, c⟩
    unfold devDoM at h ⊢
    obtain ⟨hl, hf, hr, hff, ht0, ht1⟩ := (devOkM_iff r t f).1 c.1
    rw [if_pos c] at h ⊢
    by_cases h16 : a = 16
    · rw [if_pos h16]
      cases w
      · refine ⟨?_, by simp⟩
        have e : wrap64 (t + 1) = t + 1 := by unfold wrap64; omega
        have e2 : Int.tmod (t + 1) 4294967296 = (t + 1) % 4294967296 := Int.tmod_eq_emod_of_nonneg (by omega)
        show devOkM r (Int.tmod (wrap64 (t + 1)) 4294967296) f = true
        rw [e, e2, devOkM_iff]; exact ⟨hl, hf, hr, hff, by omega, by omega⟩
      · refine ⟨?_, by simp⟩
        show devOkM r v f = true
        have := (wordM_iff v).1 (c.2 rfl)
        rw [devOkM_iff]; exact ⟨hl, hf, hr, hff, this.1, this.2⟩
    · rw [if_neg h16] at h ⊢
      by_cases h20 : a = 20
      · rw [if_pos h20] at h ⊢
        cases w
        · rw [if_neg (by simp)] at h ⊢
          by_cases hl0 : 0 < f.length
          · rw [if_pos hl0]
            refine ⟨?_, by simp⟩
            show devOkM r t (f.drop 1) = true
            rw [devOkM_iff]; exact ⟨hl, by rw [List.length_drop]; omega, hr, fun x hx => hff x (List.mem_of_mem_drop hx), ht0, ht1⟩
          · rw [if_neg hl0] at h; simp at h
        · rw [if_pos rfl] at h ⊢
          by_cases hl4 : f.length < 4
          · rw [if_pos hl4]
            refine ⟨?_, by simp⟩
            show devOkM r t (f ++ [v]) = true
            have hv := (wordM_iff v).1 (c.2 rfl)
            rw [devOkM_iff]; refine ⟨hl, by rw [List.length_append]; simp; omega, hr, fun x hx => ?_, ht0, ht1⟩
            rw [List.mem_append, List.mem_singleton] at hx
            rcases hx with hx | rfl
            · exact hff x hx
            · exact hv
          · rw [if_neg hl4] at h; simp at h
      · rw [if_neg h20] at h ⊢
        by_cases hs : a = 0 ∨ a = 4 ∨ a = 8 ∨ a = 12
        · rw [if_pos hs] at h ⊢
          cases w
          · exact ⟨c.1, by simp⟩
          · refine ⟨?_, by simp⟩
            show devOkM (r.set (a / 4).toNat v) t f = true
            have hv := (wordM_iff v).1 (c.2 rfl)
            rw [devOkM_iff]; refine ⟨by rw [List.length_set]; exact hl, hf, fun x hx => ?_, hff, ht0, ht1⟩
            rcases List.mem_or_eq_of_mem_set hx with hx | rfl
            · exact hr x hx
            · exact hv
        · rw [if_neg hs] at h; simp at h
  · unfold devDoM at h; rw [if_neg c] at h; simp at h
/-- A register is read as it was written. -/
theorem devDo_again (r f : List Int) (t a v : Int) (h : (devDoM r t f true a v).2.2.2.2 = true) (ha : a < 16) : ∃ r', devDoM r t f true a v = (r', t, f, v, true) ∧ devDoM r' t f false a 0 = (r', t, f, v, true) := by
  obtain ⟨g1, g2, g3, g4⟩ := devDo_ok r f t a v true h
  have hl := dev_ro r t f g3
  have n16 : a ≠ 16 := by omega
  have n20 : a ≠ 20 := by omega
  have c : devOkM r t f = true ∧ (true = true → wordM v = true) := ⟨g3, g4⟩
  by_cases hs : a = 0 ∨ a = 4 ∨ a = 8 ∨ a = 12
  · have e : devDoM r t f true a v = (r.set (a / 4).toNat v, t, f, v, true) := by
      unfold devDoM; rw [if_pos c, if_neg n16, if_neg n20, if_pos hs, if_pos rfl]
    refine ⟨_, e, ?_⟩
    rw [e] at g1
    have c2 : devOkM (r.set (a / 4).toNat v) t f = true ∧ (false = true → wordM 0 = true) := ⟨g1, by simp⟩
    obtain ⟨n, hn, hn4⟩ := slot_nat a hs
    have hrd : rd (r.set (a / 4).toNat v) (a / 4) = v := by
      rw [hn, Int.toNat_natCast, rd_nat _ n (by rw [List.length_set]; omega), List.getElem_set_self]
    unfold devDoM; rw [if_pos c2, if_neg n16, if_neg n20, if_pos hs, if_neg (by simp), hrd]
  · unfold devDoM at h; rw [if_pos c, if_neg n16, if_neg n20, if_neg hs] at h; simp at h
/-- The queue keeps its order. -/
theorem devDo_queue (r f : List Int) (t v : Int) (w : Bool) (h : (devDoM r t f w 20 v).2.2.2.2 = true) : (w = true ∧ devDoM r t f w 20 v = (r, t, f ++ [v], v, true) ∧ f.length < 4) ∨ (w = false ∧ devDoM r t f w 20 v = (r, t, f.drop 1, rd f 0, true) ∧ 0 < f.length ∧ f.length ≤ 4) := by
  obtain ⟨g1, g2, g3, g4⟩ := devDo_ok r f t 20 v w h
  have hl := dev_fo r t f g3
  have c : devOkM r t f = true ∧ (w = true → wordM v = true) := ⟨g3, g4⟩
  unfold devDoM at h ⊢
  rw [if_pos c, if_neg (by omega), if_pos rfl] at h ⊢
  cases w
  · right
    rw [if_neg (by simp)] at h ⊢
    by_cases hl0 : 0 < f.length
    · rw [if_pos hl0]; exact ⟨rfl, rfl, hl0, hl⟩
    · rw [if_neg hl0] at h; simp at h
  · left
    rw [if_pos rfl] at h ⊢
    by_cases hl4 : f.length < 4
    · rw [if_pos hl4]; exact ⟨rfl, rfl, hl4⟩
    · rw [if_neg hl4] at h; simp at h

theorem once_ok (b : List Int) (i h n : Int) (hb : b.length ≤ 1048576) (hi : 0 ≤ i) : ∃ x i' h', spec_l1Once.f b i h n = some (x, i', h') ∧ 0 ≤ i' := by
  unfold spec_l1Once.f
  obtain ⟨x, i', h', e, _, _, c⟩ := below_ok b i h n hb hi
  rw [e]; exact ⟨_, _, _, rfl, c⟩
theorem dev_loop (b : List Int) (hb : b.length ≤ 1048576) (k : Nat) (d : Nat) : ∀ (n : Int) (i h : Int) (r : List Int) (t : Int) (f : List Int), n = (d : Int) → d ≤ 8 → 0 ≤ i → r.length = 4 → f.length ≤ 4 → 20 ≤ k →
    ∃ r' t' f' i' h', spec_l8Dev.l0 (k + d + 1) n b i h r t f = some (r', t', f', i', h') ∧ r'.length = 4 ∧ f'.length ≤ 4 ∧ 0 ≤ i' := by
  induction d with
  | zero =>
    intro n i h r t f hn _ hi hr hf hk
    rw [spec_l8Dev.l0, if_neg (by omega)]
    exact ⟨r, t, f, i, h, rfl, hr, hf, hi⟩
  | succ d ih =>
    intro n i h r t f hn hd hi hr hf hk
    have hw : wrap64 (n - 1) = (d : Int) := by subst hn; unfold wrap64; omega
    rw [spec_l8Dev.l0, if_pos (by omega), hw]; clear hw
    obtain ⟨x1, i1, h1, e1, c1⟩ := once_ok b i h 4 hb hi
    rw [e1]; simp only [Option.bind_some]
    obtain ⟨x2, i2, h2, e2, _, _, c2⟩ := below_ok b i1 h1 6 hb c1
    rw [e2]; simp only [Option.bind_some]
    obtain ⟨x3, i3, h3, e3, _, _, c3⟩ := value_ok b i2 h2 2 hb c2
    rw [e3]; simp only [Option.bind_some]
    rw [spec_do (k + (d + 1)) r f t _ _ _ (by omega) (by omega) (by omega) (by omega)]; simp only [Option.bind_some]
    obtain ⟨l1, l2⟩ := devDo_len r f t (wrap64 (4 * x2)) x3 (!x1)
    exact ih _ i3 h3 _ _ _ rfl (by omega) c3 (l1.trans hr) (l2 hf) hk
theorem dev_ok (k : Nat) (b : List Int) (i h : Int) (hb : b.length ≤ 1048576) (hi : 0 ≤ i) (hk : 40 ≤ k) : ∃ r t f i' h', spec_l8Dev.f k b i h = some (r, t, f, i', h') ∧ r.length = 4 ∧ f.length ≤ 4 ∧ 0 ≤ i' := by
  unfold spec_l8Dev.f
  have e : spec_DevNew.f = some (List.replicate 4 0, 0, []) := by unfold spec_DevNew.f; rw [if_pos (by omega)]
  rw [e]; simp only [Option.bind_some]
  obtain ⟨x, i1, h1, e1, a1, b1, c1⟩ := below_ok b i h 8 hb hi
  rw [e1]; simp only [Option.bind_some]
  have b1' := b1 (by omega)
  obtain ⟨k', rfl⟩ : ∃ k', k = k' + x.toNat + 1 := ⟨k - (x.toNat + 1), by omega⟩
  exact dev_loop b hb k' x.toNat x i1 h1 _ _ _ (by omega) (by omega) c1 (by simp) (by simp) (by omega)
theorem any_loop (b : List Int) (hb : b.length ≤ 1048576) (d : Nat) : ∀ (k : Nat) (i h : Int) (r : List Int) (t : Int) (f : List Int), f.length + d = 5 → 0 ≤ i → d < k →
    ∃ f' i' h', spec_l8Any.l0 k b i h r t f = some (r, t, f', i', h') ∧ f'.length ≤ 5 ∧ 0 ≤ i' := by
  induction d with
  | zero =>
    intro k i h r t f hf hi hk
    obtain ⟨k, rfl⟩ : ∃ m, k = m + 1 := ⟨k - 1, by omega⟩
    obtain ⟨x, i1, h1, e1, a1, b1, c1⟩ := below_ok b i h 2 hb hi
    have b1' := b1 (by omega)
    have hw : wrap64 (4 + x) = 4 + x := wrap64_id (by omega) (by omega)
    rw [spec_l8Any.l0, e1]; simp only [Option.bind_some]
    rw [hw, if_neg (by clear hw; omega)]
    exact ⟨f, i1, h1, rfl, by omega, c1⟩
  | succ d ih =>
    intro k i h r t f hf hi hk
    obtain ⟨k, rfl⟩ : ∃ m, k = m + 1 := ⟨k - 1, by omega⟩
    obtain ⟨x, i1, h1, e1, a1, b1, c1⟩ := below_ok b i h 2 hb hi
    have b1' := b1 (by omega)
    have hw : wrap64 (4 + x) = 4 + x := wrap64_id (by omega) (by omega)
    rw [spec_l8Any.l0, e1]; simp only [Option.bind_some]
    rw [hw]; clear hw
    by_cases hc : (f.length : Int) < 4 + x
    · rw [if_pos hc, if_pos (by omega)]
      exact ih k i1 h1 r t (f ++ [1]) (by rw [List.length_append]; simp; omega) c1 (by omega)
    · rw [if_neg hc]; exact ⟨f, i1, h1, rfl, by omega, c1⟩
theorem any_ok (k : Nat) (b : List Int) (i h : Int) (hb : b.length ≤ 1048576) (hi : 0 ≤ i) (hk : 40 ≤ k) : ∃ r t f i' h', spec_l8Any.f k b i h = some (r, t, f, i', h') ∧ r.length ≤ 4 ∧ f.length ≤ 5 ∧ 0 ≤ i' := by
  unfold spec_l8Any.f
  obtain ⟨r, t, f, i0, h0, e0, hr, hf, c0⟩ := dev_ok k b i h hb hi hk
  rw [e0]; simp only [Option.bind_some]
  obtain ⟨x, i1, h1, e1, a1, b1, c1⟩ := below_ok b i0 h0 12 hb c0
  rw [e1]; simp only [Option.bind_some]
  by_cases x0 : x = 0
  · rw [if_pos x0]
    obtain ⟨y, i2, h2, e2, _, c2⟩ := pick_ok b i1 h1 [(-1), 4294967295, 4294967296] hb c1 (by simp)
    rw [e2]; exact ⟨_, _, _, _, _, rfl, by omega, by omega, c2⟩
  rw [if_neg x0]
  by_cases x1 : x = 1
  · rw [if_pos x1, if_pos (by omega)]
    exact ⟨_, _, _, _, _, rfl, by rw [List.length_drop]; omega, by omega, c1⟩
  rw [if_neg x1]
  by_cases x2 : x = 2
  · rw [if_pos x2]
    obtain ⟨f', i', h', e, hf', c⟩ := any_loop b hb (5 - f.length) k i1 h1 r t f (by omega) c1 (by omega)
    rw [e]; exact ⟨_, _, _, _, _, rfl, by omega, hf', c⟩
  rw [if_neg x2]; exact ⟨_, _, _, _, _, rfl, by omega, by omega, c1⟩

theorem draw_devdo (k : Nat) (b : List Int) (hb : b.length ≤ 1048576) (hk : b.length + 40 ≤ k) : ∃ r t f w a v, spec_DrawDevDo.f k b = some (r, t, f, w, a, v) ∧ r.length ≤ 4 ∧ f.length ≤ 5 := by
  unfold spec_DrawDevDo.f
  obtain ⟨h0, e0⟩ := new_ok k b hb (by omega)
  rw [e0]; simp only [Option.bind_some]
  obtain ⟨r, t, f, i1, h1, e1, hr, hf, c1⟩ := any_ok k b 0 h0 hb (by omega) (by omega)
  rw [e1]; simp only [Option.bind_some]
  obtain ⟨w, i2, h2, e2, c2⟩ := once_ok b i1 h1 2 hb c1
  rw [e2]; simp only [Option.bind_some]
  obtain ⟨a, i3, h3, e3, _, c3⟩ := pick_ok b i2 h2 [0, 4, 12, 16, 16, 20, 20, 24, (-4), 2] hb c2 (by simp)
  rw [e3]; simp only [Option.bind_some]
  obtain ⟨v, i4, h4, e4, _, _, c4⟩ := value_ok b i3 h3 2 hb c3
  rw [e4]; exact ⟨_, _, _, _, _, _, rfl, hr, hf⟩

theorem impl_in (a b c : Int) : impl_within.f a b c = some (decide (b ≤ a ∧ a ≤ c)) := by
  unfold impl_within.f; by_cases h : b ≤ a
  · rw [if_pos h]; simp [h]
  · rw [if_neg h]; simp [h]

theorem impl_bytes (s : Int) : impl_BytesOf.f s = some (bytesM s) := by
  unfold impl_BytesOf.f; rw [impl_in]
  rcases bytesM_cases s with ⟨rfl, h⟩ | ⟨rfl, h⟩ | ⟨rfl, h⟩ | ⟨h0, h⟩
  · rfl
  · rfl
  · rfl
  · rw [h]; simp [h0]

theorem impl_limit (s : Int) : impl_LimitOf.f s = some (limitM s) := by
  unfold impl_LimitOf.f; rw [impl_bytes]
  rcases limitM_cases s with ⟨rfl, h, k⟩ | ⟨rfl, h, k⟩ | ⟨rfl, h, k⟩ | ⟨h0, h, k⟩
  · rw [h, k]; simp [wrap64_8_1, shl_1_8]
  · rw [h, k]; simp [wrap64_8_2, shl_1_16]
  · rw [h, k]; simp [wrap64_8_4, shl_1_32]
  · rw [h, k]; rfl

theorem impl_isnum (v s : Int) : impl_isNum.f v s = some (decide (0 ≤ v ∧ v < limitM s)) := by
  unfold impl_isNum.f; rw [impl_limit]; simp only [Option.bind_some]
  have hw : wrap64 (limitM s - 1) = limitM s - 1 := by
    rcases limitM_cases s with ⟨_, _, h⟩ | ⟨_, _, h⟩ | ⟨_, _, h⟩ | ⟨_, _, h⟩ <;> rw [h] <;> unfold wrap64 <;> omega
  rw [hw, impl_in]; simp only [Option.bind_some]
  congr 1; rw [decide_eq_decide]; omega

theorem impl_devok_one (x : Int) : impl_DevOk_1.f x = some (!wordM x) := by unfold impl_DevOk_1.f; rw [impl_isnum, limit_two]; rfl
theorem impl_idx2_loop (l : List Int) (hl : l.length ≤ 1099511627776) (d : Nat) : ∀ (k i : Nat), i + d = l.length → d < k →
    ∃ r, slices_IndexFunc_at_impl_DevOk_1.l0 k l (l.length : Int) i = some r ∧ decide (r ≥ 0) = !(l.drop i).all wordM := by
  induction d with
  | zero =>
    intro k i hi hk
    obtain ⟨k, rfl⟩ : ∃ m, k = m + 1 := ⟨k - 1, by omega⟩
    have h : ¬ (i : Int) < (l.length : Int) := by omega
    exact ⟨-1, by simp only [slices_IndexFunc_at_impl_DevOk_1.l0]; rw [if_neg h], by rw [List.drop_eq_nil_of_le (by omega)]; rfl⟩
  | succ d ih =>
    intro k i hi hk
    obtain ⟨k, rfl⟩ : ∃ m, k = m + 1 := ⟨k - 1, by omega⟩
    have h : (i : Int) < (l.length : Int) := by omega
    have h0 : (0 : Int) ≤ (i : Int) := by omega
    have hil : i < l.length := by omega
    obtain ⟨r, h1, h2⟩ := ih k (i + 1) (by omega) (by omega)
    simp only [slices_IndexFunc_at_impl_DevOk_1.l0]; rw [if_pos h, if_pos h0, if_pos h, impl_devok_one, wrap_succ (n := l.length) (by omega) hl, rd_nat _ _ hil, List.drop_eq_getElem_cons hil]
    simp only [List.all_cons, Option.bind_some]
    cases e : wordM l[i] with
    | true => exact ⟨r, by simpa using h1, by simpa using h2⟩
    | false => exact ⟨(i : Int), by simp, by simp⟩
theorem impl_contains2 (k : Nat) (l : List Int) (hl : l.length ≤ 1099511627776) (hk : l.length < k) : slices_ContainsFunc_at_impl_DevOk_1.f k l = some (!l.all wordM) := by
  unfold slices_ContainsFunc_at_impl_DevOk_1.f slices_IndexFunc_at_impl_DevOk_1.f
  obtain ⟨r, h1, h2⟩ := impl_idx2_loop l hl l.length k 0 (by omega) hk
  rw [show ((0 : Nat) : Int) = 0 from rfl] at h1
  rw [h1]; simp only [Option.bind_some]; rw [h2]; simp
theorem impl_devok (k : Nat) (r : List Int) (t : Int) (f : List Int) (hr : r.length ≤ 1099511627776) (hf : f.length ≤ 1099511627776) (kr : r.length < k) (kf : f.length < k) : impl_DevOk.f k r t f = some (devOkM r t f) := by
  have hw : decide (0 ≤ t ∧ t < 4294967296) = wordM t := rfl
  unfold impl_DevOk.f devOkM
  rw [impl_contains2 k r hr kr, impl_contains2 k f hf kf, impl_isnum, limit_two, hw]; simp only [Option.bind_some]
  by_cases h1 : (r.length : Int) = 4 <;> by_cases h2 : (f.length : Int) ≤ 4 <;> cases r.all wordM <;> cases f.all wordM <;> cases wordM t <;> simp [h1, h2]

theorem impl_clone_is (l : List Int) (h : l.length ≤ 1048576) : slices_Clone_int_int.f l = some l := by
  unfold slices_Clone_int_int.f; simp; omega
theorem impl_own_is (r f : List Int) (t : Int) (hr : r.length ≤ 1048576) (hf : f.length ≤ 1048576) : impl_ownDev.f r t f = some (r, t, f) := by
  unfold impl_ownDev.f; rw [impl_clone_is r hr, impl_clone_is f hf]; rfl
theorem impl_do_in (k : Nat) (r f : List Int) (t a v : Int) (w : Bool) (hr : r.length = 4) (hf : f.length ≤ 4) : impl_DevDo.j0 (k + 8) w a v false r t f r t f = some (
    (if a = 16 then (if w = true then (r, v, f, v, true) else (r, Int.tmod (wrap64 (t + 1)) 4294967296, f, t, true))
     else if a = 20 then
       (if w = true then (if f.length < 4 then (r, t, f ++ [v], v, true) else (r, t, f, 0, false))
        else (if 0 < f.length then (r, t, f.drop 1, rd f 0, true) else (r, t, f, 0, false)))
     else if a = 0 ∨ a = 4 ∨ a = 8 ∨ a = 12 then
       (if w = true then (r.set (a / 4).toNat v, t, f, v, true) else (r, t, f, rd r (a / 4), true))
     else (r, t, f, 0, false))) := by
  have hd : slices_Clone_int_int.f (f.drop 1) = some (f.drop 1) := impl_clone_is _ (by rw [List.length_drop]; omega)
  rw [impl_DevDo.j0, if_neg (by simp)]
  by_cases h16 : a = 16
  · subst h16; rw [if_pos rfl, if_pos rfl, impl_DevDo.j1]
    cases w
    · rw [if_neg (by simp), if_pos rfl, impl_limit, limit_two]; simp
    · rw [if_pos rfl, if_pos rfl]
  rw [if_neg h16, if_neg h16, impl_DevDo.j1, if_neg (by simp), if_neg h16]
  by_cases h20 : a = 20
  · subst h20; rw [if_pos rfl, if_pos rfl]
    cases w
    · rw [if_neg (by simp), if_neg (by simp), impl_DevDo.j2, if_neg (by simp), if_pos rfl, if_neg (by simp), impl_DevDo.j3]
      by_cases hl : 0 < f.length
      · have q1 : decide ((f.length : Int) > 0) = true := by rw [decide_eq_true_eq]; omega
        have q2 : 0 < (f.length : Int) := by omega
        have q3 : 1 ≤ (f.length : Int) := by omega
        rw [if_pos hl, if_pos q1, if_pos q2, if_pos q3, hd]; rfl
      · have q1 : ¬ decide ((f.length : Int) > 0) = true := by rw [decide_eq_true_eq]; omega
        have q2 : (20 : Int) ≥ 16 := by omega
        rw [if_neg hl, if_neg q1, if_pos q2, impl_DevDo.j4, if_pos rfl]
    · rw [if_pos rfl, if_pos rfl, impl_DevDo.j2]
      by_cases hl : f.length < 4
      · have q1 : decide ((f.length : Int) < 4) = true := by rw [decide_eq_true_eq]; omega
        have q2 : f.length < 17592186044416 := by omega
        rw [if_pos hl, if_pos q1, if_pos q2]
      · have q1 : ¬ decide ((f.length : Int) < 4) = true := by rw [decide_eq_true_eq]; omega
        have q2 : (20 : Int) ≥ 16 := by omega
        rw [if_neg hl, if_neg q1, if_pos rfl, if_pos rfl, impl_DevDo.j3, if_neg (by simp), if_pos q2, impl_DevDo.j4, if_pos rfl]
  rw [if_neg h20, if_neg h20, impl_DevDo.j2, if_neg (by simp), if_neg h20, impl_DevDo.j3, if_neg (by simp)]
  by_cases hs : a = 0 ∨ a = 4 ∨ a = 8 ∨ a = 12
  · have n16 : ¬ a ≥ 16 := by omega
    have n0 : ¬ a < 0 := by omega
    have e : Int.tmod a 4 = 0 := by rcases hs with rfl | rfl | rfl | rfl <;> rfl
    have e2 : wrap64 (Int.tdiv a 4) = a / 4 := dev_at a (by omega) (by omega)
    have g0 : 0 ≤ a / 4 := by omega
    have g1 : a / 4 < (r.length : Int) := by omega
    rw [if_pos hs, if_neg n16, if_neg n0, impl_DevDo.j4, e, e2, if_neg (by simp)]
    cases w
    · rw [if_neg (by simp), if_pos g0, if_pos g1, if_neg (by simp)]
    · rw [if_pos rfl, if_pos g0, if_pos g1, if_pos rfl]
  · rw [if_neg hs]
    by_cases g1 : a ≥ 16
    · rw [if_pos g1, impl_DevDo.j4, if_pos rfl]
    rw [if_neg g1]
    by_cases g2 : a < 0
    · rw [if_pos g2, impl_DevDo.j4, if_pos rfl]
    rw [if_neg g2, impl_DevDo.j4, if_pos]
    have := dev_slot a (by omega) (by omega)
    simp only [bne_iff_ne, ne_eq]; intro h; exact hs (this h)
theorem impl_do (k : Nat) (r f : List Int) (t a v : Int) (w : Bool) (hr : r.length ≤ 1048576) (hf : f.length ≤ 1048576) (kr : r.length + 8 < k) (kf : f.length + 8 < k) :
    impl_DevDo.f k r t f w a v = some (devDoM r t f w a v) := by
  unfold impl_DevDo.f
  rw [impl_own_is r f t hr hf, impl_devok k r t f (by omega) (by omega) (by omega) (by omega)]; simp only [Option.bind_some]
  obtain ⟨k, rfl⟩ : ∃ m, k = m + 8 := ⟨k - 8, by omega⟩
  unfold devDoM
  cases hd : devOkM r t f
  · rw [if_neg (by simp), if_neg (by simp), impl_DevDo.j0, if_pos rfl]
  · rw [if_pos rfl, impl_isnum, limit_two]; simp only [Option.bind_some]
    have hw : decide (0 ≤ v ∧ v < 4294967296) = wordM v := rfl
    rw [hw]
    cases w
    · rw [if_neg (by simp), if_pos (by simp), impl_do_in k r f t a v false (dev_ro r t f hd) (dev_fo r t f hd)]
    · rw [if_pos rfl]
      cases hv : wordM v
      · rw [if_neg (by simp)]; simp only [Bool.not_false]; rw [impl_DevDo.j0, if_pos rfl]
      · rw [if_pos (by simp)]; simp only [Bool.not_true]; rw [impl_do_in k r f t a v true (dev_ro r t f hd) (dev_fo r t f hd)]; simp

theorem l5Ints_loop (a b : List Int) (hab : a.length = b.length) (hl : a.length ≤ 1099511627776) (d : Nat) : ∀ (k i : Nat), i + d = a.length → d < k → spec_l5Ints.l0 k a b i = some (decide (a.drop i = b.drop i)) := by
  induction d with
  | zero =>
    intro k i hi hk
    obtain ⟨k, rfl⟩ : ∃ m, k = m + 1 := ⟨k - 1, by omega⟩
    have h : ¬ (i : Int) < (a.length : Int) := by omega
    simp only [spec_l5Ints.l0]; rw [if_neg h, List.drop_eq_nil_of_le (by omega), List.drop_eq_nil_of_le (by omega)]; simp
  | succ d ih =>
    intro k i hi hk
    obtain ⟨k, rfl⟩ : ∃ m, k = m + 1 := ⟨k - 1, by omega⟩
    have h : (i : Int) < (a.length : Int) := by omega
    have h0 : (0 : Int) ≤ (i : Int) := by omega
    have hb : (i : Int) < (b.length : Int) := by omega
    have hia : i < a.length := by omega
    have hib : i < b.length := by omega
    simp only [spec_l5Ints.l0]; rw [if_pos h, if_pos h0, if_pos hb, rd_nat _ _ hia, rd_nat _ _ hib, wrap_succ (n := a.length) (by omega) hl, ih k (i + 1) (by omega) (by omega)]
    by_cases e : a[i] = b[i]
    · have hd : (a.drop i = b.drop i) ↔ (a.drop (i + 1) = b.drop (i + 1)) := by
        rw [List.drop_eq_getElem_cons hia, List.drop_eq_getElem_cons hib, List.cons.injEq]; exact ⟨fun h => h.2, fun h => ⟨e, h⟩⟩
      rw [if_pos e]; simp only [hd]
    · have hd : ¬ (a.drop i = b.drop i) := by
        rw [List.drop_eq_getElem_cons hia, List.drop_eq_getElem_cons hib, List.cons.injEq]; exact fun h => e h.1
      rw [if_neg e]; simp only [hd, decide_false]
theorem l5Ints_is (k : Nat) (a b : List Int) (hl : a.length ≤ 1099511627776) (hk : a.length < k) : spec_l5Ints.f k a b = some (decide (a = b)) := by
  unfold spec_l5Ints.f
  by_cases h : a.length = b.length
  · have h' : (a.length : Int) = (b.length : Int) := by omega
    rw [if_pos h']
    have := l5Ints_loop a b h hl a.length k 0 (by omega) hk
    simpa using this
  · have h' : ¬ (a.length : Int) = (b.length : Int) := by omega
    have hne : a ≠ b := fun e => h (by rw [e])
    rw [if_neg h']; simp [hne]

theorem samedev_refl (k : Nat) (r f : List Int) (t : Int) (hr : r.length ≤ 1099511627776) (hf : f.length ≤ 1099511627776) (kr : r.length < k) (kf : f.length < k) : spec_SameDev.f k r t f r t f = some true := by
  unfold spec_SameDev.f; rw [l5Ints_is k r r hr kr, l5Ints_is k f f hf kf]; simp
theorem devices_at (k : Nat) (r f : List Int) (t a v : Int) (w : Bool) (hr : r.length ≤ 4) (hf : f.length ≤ 5) (hk : 100 ≤ k) :
    laws_FnDevices.j0 (k + 3) w a v (devDoM r t f w a v).2.2.2.1 (devDoM r t f w a v).2.2.2.2 false r t f (devDoM r t f w a v).1 (devDoM r t f w a v).2.1 (devDoM r t f w a v).2.2.1 = some true := by
  rw [laws_FnDevices.j0]; simp only [Bool.false_eq_true, if_false]
  cases his : (devDoM r t f w a v).2.2.2.2
  · rw [if_neg (by simp), devDo_not r f t a v w his]; simp only [if_true]
    rw [samedev_refl (k + 2) r f t (by omega) (by omega) (by omega) (by omega)]; rfl
  · rw [if_pos rfl]
    obtain ⟨g1, g2, g3, g4⟩ := devDo_ok r f t a v w his
    obtain ⟨l1, l2⟩ := devDo_len r f t a v w
    have hl2 := l2 (dev_fo r t f g3)
    rw [impl_devok (k + 2) _ _ _ (by omega) (by omega) (by omega) (by omega), g1]; simp only [Option.bind_some, if_true]
    have hn : (if w = true then laws_FnDevices.j1 (k + 2) w a v (devDoM r t f w a v).2.2.2.1 ((devDoM r t f w a v).2.2.2.1 != v) r t f (devDoM r t f w a v).1 (devDoM r t f w a v).2.1 (devDoM r t f w a v).2.2.1 else laws_FnDevices.j1 (k + 2) w a v (devDoM r t f w a v).2.2.2.1 false r t f (devDoM r t f w a v).1 (devDoM r t f w a v).2.1 (devDoM r t f w a v).2.2.1)
        = laws_FnDevices.j1 (k + 2) w a v (devDoM r t f w a v).2.2.2.1 false r t f (devDoM r t f w a v).1 (devDoM r t f w a v).2.1 (devDoM r t f w a v).2.2.1 := by
      by_cases hw : w = true
      · rw [if_pos hw, g2 hw, bne_self_eq_false]
      · rw [if_neg hw]
    rw [hn, laws_FnDevices.j1]; simp only [Bool.false_eq_true, if_false]
    have rest : ∀ (_ : ¬ (w = true ∧ a < 16)), laws_FnDevices.j2 (k + 1) w a v (devDoM r t f w a v).2.2.2.1 false r t f (devDoM r t f w a v).1 (devDoM r t f w a v).2.1 (devDoM r t f w a v).2.2.1 = some true := by
      intro _
      rw [laws_FnDevices.j2]; simp only [Bool.false_eq_true, if_false]
      by_cases h20 : a = 20
      · subst h20; rw [if_pos rfl]
        rcases devDo_queue r f t v w his with ⟨hw, e, hlt⟩ | ⟨hw, e, h0, h4⟩
        · have hw1 : wrap64 ((f.length : Int) + 1) = (f.length : Int) + 1 := wrap64_id (by omega) (by omega)
          have hlen : ((f ++ [v]).length : Int) = (f.length : Int) + 1 := by rw [List.length_append]; simp
          have hrd : rd (f ++ [v]) (f.length : Int) = v := by
            rw [rd_nat _ f.length (by rw [List.length_append]; simp)]; simp
          rw [e]; simp only []
          rw [if_pos hw, hw1, if_pos hlen, if_pos (Int.natCast_nonneg _), if_pos (by rw [hlen]; exact Int.lt_succ _), if_pos hrd]
        · have hw1 : wrap64 ((f.length : Int) - 1) = (f.length : Int) - 1 := wrap64_id (by omega) (by omega)
          have hlen : ((f.drop 1).length : Int) = (f.length : Int) - 1 := by rw [List.length_drop]; clear hw1; omega
          have h0' : 0 < (f.length : Int) := by clear hw1; omega
          rw [e]; simp only []
          rw [if_neg (by rw [hw]; simp), hw1, if_pos hlen, if_pos h0']; simp
      · rw [if_neg h20]
    by_cases hw : w = true
    · rw [if_pos hw]
      by_cases ha : a < 16
      · rw [decide_eq_true ha, laws_FnDevices.j2]; simp only [if_true]
        subst hw
        obtain ⟨r', e1, e2⟩ := devDo_again r f t a v his ha
        rw [e1] at l1 hl2
        rw [e1]; simp only [] at l1 hl2 ⊢
        rw [impl_do k r' f t a 0 false (by omega) (by omega) (by omega) (by omega), e2]; simp
      · rw [decide_eq_false ha]; exact rest (fun h => ha h.2)
    · rw [if_neg hw]; exact rest (fun h => hw h.1)
theorem FnDevices : laws_FnDevices.Pure := by
  intro c _ _ _
  refine ⟨1048700 + 3, ?_⟩
  generalize hk : 1048700 = k
  unfold laws_FnDevices.f laws_big.f; simp only [Option.bind_some]
  by_cases hb : (c.length : Int) > 1048576
  · rw [decide_eq_true hb]; simp
  · rw [decide_eq_false hb]; simp only [Bool.false_eq_true, if_false]
    obtain ⟨r, t, f, w, a, v, e, hr, hf⟩ := draw_devdo (k + 3) c (by omega) (by omega)
    obtain ⟨l1, l2⟩ := devDo_len r f t a v w
    have l3 : (devDoM r t f w a v).2.2.1.length ≤ 100 := by
      cases his : (devDoM r t f w a v).2.2.2.2
      · rw [devDo_not r f t a v w his]; show f.length ≤ 100; omega
      · have := l2 (dev_fo r t f (devDo_ok r f t a v w his).2.2.1); omega
    have key := devices_at k r f t a v w hr hf (by omega)
    rw [e]; simp only [Option.bind_some]
    rw [impl_do (k + 3) r f t a v w (by omega) (by omega) (by omega) (by omega), spec_do (k + 3) r f t a v w (by omega) (by omega) (by omega) (by omega)]; simp only [Option.bind_some, if_true, bne_self_eq_false, Bool.false_eq_true, if_false]
    rw [samedev_refl (k + 3) _ _ _ (by omega) (by omega) (by omega) (by omega)]; simp only [Option.bind_some, if_true]
    rw [impl_devok (k + 3) r t f (by omega) (by omega) (by omega) (by omega), spec_devok (k + 3) r t f (by omega) (by omega) (by omega) (by omega)]; simp only [Option.bind_some, bne_self_eq_false]
    exact key

end Go.Proofs.Ythikbgjlcdkoaaa.Pure
