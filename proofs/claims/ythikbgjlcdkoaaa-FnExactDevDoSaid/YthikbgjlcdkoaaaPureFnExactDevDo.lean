/- The program's DevDo answers as the reference's and leaves its argument alone, for every device, direction, place and word. -/
import Derived.Test.YthikbgjlcdkoaaaMFnExactDevDox
namespace Go.Proofs.Ythikbgjlcdkoaaa.Pure
open Go.RowKit Go.Proofs.Ythikbgjlcdkoaaa.MFnExactDevDo Go.Proofs.YthikbgjlcdkoaaaW.PrintWords Go.Proofs.YthikbgjlcdkoaaaW.PrintLast Go.Proofs.YthikbgjlcdkoaaaW.PrintMore
set_option linter.unusedVariables false
set_option linter.unusedSimpArgs false
set_option maxHeartbeats 4000000

/-- How many bytes a size has. -/
def bytesM (s : Int) : Int := if s = 0 then 1 else if s = 1 then 2 else if s = 2 then 4 else 0
theorem bytesM_cases (s : Int) : (s = 0 ∧ bytesM s = 1) ∨ (s = 1 ∧ bytesM s = 2) ∨ (s = 2 ∧ bytesM s = 4) ∨ (¬ (0 ≤ s ∧ s ≤ 2) ∧ bytesM s = 0) := by
  unfold bytesM; split
  · left; omega
  · split
    · right; left; omega
    · split
      · right; right; left; omega
      · right; right; right; omega
theorem shl_1_0 : shl .i64 1 0 = 1 := by decide
theorem shl_1_1 : shl .i64 1 1 = 2 := by decide
theorem shl_1_2 : shl .i64 1 2 = 4 := by decide

/-- How many numbers a size has. -/
def limitM (s : Int) : Int := if s = 0 then 256 else if s = 1 then 65536 else if s = 2 then 4294967296 else 0
theorem limitM_cases (s : Int) : (s = 0 ∧ bytesM s = 1 ∧ limitM s = 256) ∨ (s = 1 ∧ bytesM s = 2 ∧ limitM s = 65536) ∨ (s = 2 ∧ bytesM s = 4 ∧ limitM s = 4294967296) ∨ (¬ (0 ≤ s ∧ s ≤ 2) ∧ bytesM s = 0 ∧ limitM s = 0) := by
  unfold limitM bytesM; split
  · left; omega
  · split
    · right; left; omega
    · split
      · right; right; left; omega
      · right; right; right; omega
theorem shl_1_8 : shl .i64 1 8 = 256 := by decide
theorem shl_1_16 : shl .i64 1 16 = 65536 := by decide
theorem shl_1_32 : shl .i64 1 32 = 4294967296 := by decide
theorem wrap64_8_1 : wrap64 8 = 8 := by unfold wrap64; omega
theorem wrap64_8_2 : wrap64 16 = 16 := by unfold wrap64; omega
theorem wrap64_8_4 : wrap64 32 = 32 := by unfold wrap64; omega

theorem wf_of {a : Int} (h : (Lit.int .i64 a).wf = true) : -9223372036854775808 ≤ a ∧ a ≤ 9223372036854775807 := by
  simp [Lit.wf, IntKind.min, IntKind.max, IntKind.signed, IntKind.bits] at h; omega
theorem pow_le_i (b i j : Nat) (h0 : 0 < b) (h : i ≤ j) : (b : Int) ^ i ≤ (b : Int) ^ j := by
  have h1 := Nat.pow_le_pow_right h0 h
  have h2 : ((b ^ i : Nat) : Int) ≤ ((b ^ j : Nat) : Int) := Int.ofNat_le.2 h1
  rwa [Int.natCast_pow, Int.natCast_pow] at h2
theorem wrap64_id {a : Int} (h0 : -9223372036854775808 ≤ a) (h1 : a ≤ 9223372036854775807) : wrap64 a = a := by unfold wrap64; omega

theorem wrap_succ {i n : Nat} (h : i < n) (hn : n ≤ 1099511627776) : wrap64 ((i : Int) + 1) = ((i + 1 : Nat) : Int) := by unfold wrap64; omega
theorem rd_nat (l : List Int) (i : Nat) (h : i < l.length) : rd l (i : Int) = l[i] := by
  unfold rd; simp [List.getD_eq_getElem?_getD, List.getElem?_eq_getElem h]
theorem rdOf_nat {α : Type} (d : α) (l : List α) (i : Nat) (h : i < l.length) : rdOf d l (i : Int) = l[i] := by
  unfold rdOf; simp [List.getD_eq_getElem?_getD, List.getElem?_eq_getElem h]
theorem set_take {α : Type} (l : List α) (i : Nat) (x : α) (h : i < l.length) : (l.set i x).take (i + 1) = l.take i ++ [x] := by
  rw [List.take_succ_eq_append_getElem (by simpa using h), List.take_set, List.set_eq_of_length_le (by simp; omega)]; simp
theorem set_drop {α : Type} (l : List α) (i : Nat) (x : α) : (l.set i x).drop (i + 1) = l.drop (i + 1) := by
  rw [List.drop_set]; simp

def wordM (x : Int) : Bool := decide (0 ≤ x ∧ x < 4294967296)
/-- A device is valid. -/
def devOkM (r : List Int) (t : Int) (f : List Int) : Bool := decide ((r.length : Int) = 4) && decide ((f.length : Int) ≤ 4) && r.all wordM && f.all wordM && wordM t
theorem devOkM_iff (r : List Int) (t : Int) (f : List Int) : devOkM r t f = true ↔ r.length = 4 ∧ f.length ≤ 4 ∧ (∀ x ∈ r, 0 ≤ x ∧ x < 4294967296) ∧ (∀ x ∈ f, 0 ≤ x ∧ x < 4294967296) ∧ 0 ≤ t ∧ t < 4294967296 := by
  unfold devOkM; simp [wordM]; constructor
  · rintro ⟨⟨⟨⟨h1, h2⟩, h3⟩, h4⟩, h5⟩; exact ⟨by omega, by omega, h3, h4, h5⟩
  · rintro ⟨h1, h2, h3, h4, h5⟩; exact ⟨⟨⟨⟨by omega, by omega⟩, h3⟩, h4⟩, h5⟩
theorem word_alt (x : Int) : decide (0 ≤ x ∧ x ≤ 4294967295) = wordM x := by unfold wordM; rw [decide_eq_decide]; omega
theorem limit_two : limitM 2 = 4294967296 := rfl
theorem wrap_max : wrap64 (4294967296 - 1) = 4294967295 := by unfold wrap64; omega

/-- What a device answers to one access: its registers, its timer, its queue, the word and whether it was done. -/
def devDoM (r : List Int) (t : Int) (f : List Int) (w : Bool) (a v : Int) : List Int × Int × List Int × Int × Bool :=
  if devOkM r t f = true ∧ (w = true → wordM v = true) then
    (if a = 16 then (if w = true then (r, v, f, v, true) else (r, Int.tmod (wrap64 (t + 1)) 4294967296, f, t, true))
     else if a = 20 then
       (if w = true then (if f.length < 4 then (r, t, f ++ [v], v, true) else (r, t, f, 0, false))
        else (if 0 < f.length then (r, t, f.drop 1, rd f 0, true) else (r, t, f, 0, false)))
     else if a = 0 ∨ a = 4 ∨ a = 8 ∨ a = 12 then
       (if w = true then (r.set (a / 4).toNat v, t, f, v, true) else (r, t, f, rd r (a / 4), true))
     else (r, t, f, 0, false))
  else (r, t, f, 0, false)
theorem dev_slot (a : Int) (h0 : 0 ≤ a) (h1 : a < 16) (h4 : Int.tmod a 4 = 0) : a = 0 ∨ a = 4 ∨ a = 8 ∨ a = 12 := by
  rw [Int.tmod_eq_emod_of_nonneg h0] at h4; omega
theorem dev_at (a : Int) (h0 : 0 ≤ a) (h1 : a < 16) : wrap64 (Int.tdiv a 4) = a / 4 := by
  rw [Int.tdiv_eq_ediv_of_nonneg h0]; unfold wrap64; omega
theorem dev_fo (r : List Int) (t : Int) (f : List Int) (h : devOkM r t f = true) : f.length ≤ 4 := ((devOkM_iff r t f).mp h).2.1
theorem dev_ro (r : List Int) (t : Int) (f : List Int) (h : devOkM r t f = true) : r.length = 4 := ((devOkM_iff r t f).mp h).1

theorem spec_in (a b c : Int) : spec_l1In.f a b c = some (decide (b ≤ a ∧ a ≤ c)) := by
  unfold spec_l1In.f; by_cases h : b ≤ a
  · rw [if_pos h]; simp [h]
  · rw [if_neg h]; simp [h]

theorem spec_bytes (s : Int) : spec_BytesOf.f s = some (bytesM s) := by
  unfold spec_BytesOf.f; rw [spec_in]
  rcases bytesM_cases s with ⟨rfl, h⟩ | ⟨rfl, h⟩ | ⟨rfl, h⟩ | ⟨h0, h⟩
  · rfl
  · rfl
  · rfl
  · rw [h]; simp [h0]

theorem spec_limit (s : Int) : spec_LimitOf.f s = some (limitM s) := by
  unfold spec_LimitOf.f; rw [spec_bytes]
  rcases limitM_cases s with ⟨rfl, h, k⟩ | ⟨rfl, h, k⟩ | ⟨rfl, h, k⟩ | ⟨h0, h, k⟩
  · rw [h, k]; simp [wrap64_8_1, shl_1_8]
  · rw [h, k]; simp [wrap64_8_2, shl_1_16]
  · rw [h, k]; simp [wrap64_8_4, shl_1_32]
  · rw [h, k]; rfl

theorem spec_words_loop (l : List Int) (hl : l.length ≤ 1099511627776) (d : Nat) : ∀ (k i : Nat), i + d = l.length → d < k → spec_l8Words.l0 k l i = some ((l.drop i).all wordM) := by
  induction d with
  | zero =>
    intro k i hi hk
    obtain ⟨k, rfl⟩ : ∃ m, k = m + 1 := ⟨k - 1, by omega⟩
    have h : ¬ (i : Int) < (l.length : Int) := by omega
    simp only [spec_l8Words.l0]; rw [if_neg h, List.drop_eq_nil_of_le (by omega)]; simp
  | succ d ih =>
    intro k i hi hk
    obtain ⟨k, rfl⟩ : ∃ m, k = m + 1 := ⟨k - 1, by omega⟩
    have h : (i : Int) < (l.length : Int) := by omega
    have h0 : (0 : Int) ≤ (i : Int) := by omega
    have hil : i < l.length := by omega
    simp only [spec_l8Words.l0, spec_limit, Option.bind_some, limit_two, wrap_max]; rw [if_pos h, if_pos h0, spec_in, wrap_succ (n := l.length) (by omega) hl, ih k (i + 1) (by omega) (by omega), rd_nat _ _ hil, List.drop_eq_getElem_cons hil, word_alt]
    simp only [List.all_cons, Option.bind_some]
    cases wordM l[i] <;> simp
theorem spec_words (k : Nat) (l : List Int) (hl : l.length ≤ 1099511627776) (hk : l.length < k) : spec_l8Words.f k l = some (l.all wordM) := by
  unfold spec_l8Words.f
  have := spec_words_loop l hl l.length k 0 (by omega) hk
  simpa using this
theorem spec_devok (k : Nat) (r : List Int) (t : Int) (f : List Int) (hr : r.length ≤ 1099511627776) (hf : f.length ≤ 1099511627776) (kr : r.length < k) (kf : f.length < k) : spec_DevOk.f k r t f = some (devOkM r t f) := by
  unfold spec_DevOk.f devOkM
  rw [spec_words k r hr kr, spec_words k f hf kf, spec_limit, limit_two]; simp only [Option.bind_some]
  rw [wrap_max, spec_in, word_alt]; simp only [Option.bind_some]
  by_cases h1 : (r.length : Int) = 4 <;> by_cases h2 : (f.length : Int) ≤ 4 <;> cases r.all wordM <;> cases f.all wordM <;> cases wordM t <;> simp [h1, h2]

theorem spec_copy_is (r f : List Int) (t : Int) (hr : r.length ≤ 1048576) (hf : f.length ≤ 1048576) : spec_l8Copy.f r t f = some (r, t, f) := by
  unfold spec_l8Copy.f; simp only [Option.bind_some, List.nil_append, List.length_nil, Nat.zero_add]; rw [if_pos (by omega), if_pos (by omega)]
theorem spec_do_in (k : Nat) (r f : List Int) (t a v : Int) (w : Bool) (hr : r.length = 4) (hf : f.length ≤ 4) (h4 : Int.tmod a 4 = 0) : spec_DevDo.j0 (k + 8) w a v false r t f = some (
    (if a = 16 then (if w = true then (r, v, f, v, true) else (r, Int.tmod (wrap64 (t + 1)) 4294967296, f, t, true))
     else if a = 20 then
       (if w = true then (if f.length < 4 then (r, t, f ++ [v], v, true) else (r, t, f, 0, false))
        else (if 0 < f.length then (r, t, f.drop 1, rd f 0, true) else (r, t, f, 0, false)))
     else if a = 0 ∨ a = 4 ∨ a = 8 ∨ a = 12 then
       (if w = true then (r.set (a / 4).toNat v, t, f, v, true) else (r, t, f, rd r (a / 4), true))
     else (r, t, f, 0, false))) := by
  rw [spec_DevDo.j0, if_neg (by simp), spec_in]; simp only [Option.bind_some]
  by_cases hs : a = 0 ∨ a = 4 ∨ a = 8 ∨ a = 12
  · have e2 : wrap64 (Int.tdiv a 4) = a / 4 := dev_at a (by omega) (by omega)
    have n16 : a ≠ 16 := by omega
    have n20 : a ≠ 20 := by omega
    have hin : decide (0 ≤ a ∧ a ≤ 12) = true := by rw [decide_eq_true_eq]; omega
    have g0 : 0 ≤ a / 4 := by omega
    have g1 : a / 4 < (r.length : Int) := by omega
    rw [if_neg n16, if_neg n20, if_pos hs, if_pos hin]
    cases w
    · rw [spec_DevDo.j1, if_neg (by simp), spec_in]; simp only [Option.bind_some]
      rw [if_pos hin, e2, if_pos g0, if_pos g1, if_neg (by simp)]
    · rw [spec_DevDo.j1, if_pos rfl, e2, if_pos g0, if_pos g1, if_pos rfl]
  have hn : ¬ (0 ≤ a ∧ a ≤ 12) := by intro h; exact hs (dev_slot a h.1 (by omega) h4)
  rw [if_neg (by rw [decide_eq_true_eq]; exact hn), spec_DevDo.j1, if_neg (by simp), spec_in]; simp only [Option.bind_some]
  rw [if_neg (by rw [decide_eq_true_eq]; exact hn), if_neg hs]
  by_cases h16 : a = 16
  · subst h16; rw [if_pos rfl, if_pos rfl, spec_DevDo.j2]
    cases w
    · rw [if_neg (by simp), if_pos rfl, spec_limit, limit_two]; simp
    · rw [if_pos rfl, if_pos rfl]
  rw [if_neg h16, if_neg h16, spec_DevDo.j2, if_neg (by simp), if_neg h16]
  by_cases h20 : a = 20
  · subst h20; rw [if_pos rfl, if_pos rfl]
    cases w
    · rw [if_neg (by simp), if_neg (by simp), spec_DevDo.j3, if_neg (by simp), if_pos rfl, if_neg (by simp)]
      by_cases hl : 0 < f.length
      · have q1 : (f.length : Int) > 0 := by omega
        have q2 : 0 < (f.length : Int) := by omega
        have q3 : 1 ≤ (f.length : Int) := by omega
        rw [if_pos hl, if_pos q1, if_pos q2, if_pos q3]; rfl
      · have q1 : ¬ (f.length : Int) > 0 := by omega
        rw [if_neg hl, if_neg q1]
    · rw [if_pos rfl, if_pos rfl, spec_DevDo.j3]
      by_cases hl : f.length < 4
      · have q1 : decide ((f.length : Int) < 4) = true := by rw [decide_eq_true_eq]; omega
        have q2 : f.length < 17592186044416 := by omega
        rw [if_pos hl, if_pos q1, if_pos q2]
      · have q1 : ¬ decide ((f.length : Int) < 4) = true := by rw [decide_eq_true_eq]; omega
        rw [if_neg hl, if_neg q1, if_pos rfl, if_pos rfl]
  rw [if_neg h20, if_neg h20, spec_DevDo.j3, if_neg (by simp), if_neg h20]
theorem spec_do_out (k : Nat) (r f : List Int) (t a v : Int) (w : Bool) : spec_DevDo.j0 (k + 8) w a v true r t f = some (r, t, f, 0, false) := by
  rw [spec_DevDo.j0, if_pos rfl]
theorem spec_do (k : Nat) (r f : List Int) (t a v : Int) (w : Bool) (hr : r.length ≤ 1048576) (hf : f.length ≤ 1048576) (kr : r.length + 8 < k) (kf : f.length + 8 < k) :
    spec_DevDo.f k r t f w a v = some (devDoM r t f w a v) := by
  unfold spec_DevDo.f
  rw [spec_copy_is r f t hr hf, spec_devok k r t f (by omega) (by omega) (by omega) (by omega)]; simp only [Option.bind_some]
  obtain ⟨k, rfl⟩ : ∃ m, k = m + 8 := ⟨k - 8, by omega⟩
  unfold devDoM
  cases hd : devOkM r t f
  · rw [if_neg (by simp), if_neg (by simp), spec_do_out]
  · rw [if_pos rfl, spec_limit, limit_two]; simp only [Option.bind_some]
    rw [wrap_max, spec_in, word_alt]; simp only [Option.bind_some]
    by_cases h4 : Int.tmod a 4 = 0
    · rw [if_pos h4]
      cases w
      · rw [if_neg (by simp), if_pos (by simp), spec_do_in k r f t a v false (dev_ro r t f hd) (dev_fo r t f hd) h4]
      · rw [if_pos rfl]
        cases hv : wordM v
        · rw [if_neg (by simp)]; simp only [Bool.not_false]; rw [spec_do_out]
        · rw [if_pos (by simp)]; simp only [Bool.not_true]; rw [spec_do_in k r f t a v true (dev_ro r t f hd) (dev_fo r t f hd) h4]; simp
    · have n16 : a ≠ 16 := by rintro rfl; exact h4 rfl
      have n20 : a ≠ 20 := by rintro rfl; exact h4 rfl
      have ns : ¬ (a = 0 ∨ a = 4 ∨ a = 8 ∨ a = 12) := by rintro (rfl | rfl | rfl | rfl) <;> exact h4 rfl
      rw [if_neg h4, if_neg n16, if_neg n20, if_neg ns, spec_do_out, ite_self]

theorem impl_in (a b c : Int) : impl_within.f a b c = some (decide (b ≤ a ∧ a ≤ c)) := by
  unfold impl_within.f; by_cases h : b ≤ a
  · rw [if_pos h]; simp [h]
  · rw [if_neg h]; simp [h]

theorem impl_bytes (s : Int) : impl_BytesOf.f s = some (bytesM s) := by
  unfold impl_BytesOf.f; rw [impl_in]
  rcases bytesM_cases s with ⟨rfl, h⟩ | ⟨rfl, h⟩ | ⟨rfl, h⟩ | ⟨h0, h⟩
  · rfl
  · rfl
  · rfl
  · rw [h]; simp [h0]

theorem impl_limit (s : Int) : impl_LimitOf.f s = some (limitM s) := by
  unfold impl_LimitOf.f; rw [impl_bytes]
  rcases limitM_cases s with ⟨rfl, h, k⟩ | ⟨rfl, h, k⟩ | ⟨rfl, h, k⟩ | ⟨h0, h, k⟩
  · rw [h, k]; simp [wrap64_8_1, shl_1_8]
  · rw [h, k]; simp [wrap64_8_2, shl_1_16]
  · rw [h, k]; simp [wrap64_8_4, shl_1_32]
  · rw [h, k]; rfl

theorem impl_isnum (v s : Int) : impl_isNum.f v s = some (decide (0 ≤ v ∧ v < limitM s)) := by
  unfold impl_isNum.f; rw [impl_limit]; simp only [Option.bind_some]
  have hw : wrap64 (limitM s - 1) = limitM s - 1 := by
    rcases limitM_cases s with ⟨_, _, h⟩ | ⟨_, _, h⟩ | ⟨_, _, h⟩ | ⟨_, _, h⟩ <;> rw [h] <;> unfold wrap64 <;> omega
  rw [hw, impl_in]; simp only [Option.bind_some]
  congr 1; rw [decide_eq_decide]; omega

theorem impl_devok_one (x : Int) : impl_DevOk_1.f x = some (!wordM x) := by unfold impl_DevOk_1.f; rw [impl_isnum, limit_two]; rfl
theorem impl_idx2_loop (l : List Int) (hl : l.length ≤ 1099511627776) (d : Nat) : ∀ (k i : Nat), i + d = l.length → d < k →
    ∃ r, slices_IndexFunc_at_impl_DevOk_1.l0 k l (l.length : Int) i = some r ∧ decide (r ≥ 0) = !(l.drop i).all wordM := by
  induction d with
  | zero =>
    intro k i hi hk
    obtain ⟨k, rfl⟩ : ∃ m, k = m + 1 := ⟨k - 1, by omega⟩
    have h : ¬ (i : Int) < (l.length : Int) := by omega
    exact ⟨-1, by simp only [slices_IndexFunc_at_impl_DevOk_1.l0]; rw [if_neg h], by rw [List.drop_eq_nil_of_le (by omega)]; rfl⟩
  | succ d ih =>
    intro k i hi hk
    obtain ⟨k, rfl⟩ : ∃ m, k = m + 1 := ⟨k - 1, by omega⟩
    have h : (i : Int) < (l.length : Int) := by omega
    have h0 : (0 : Int) ≤ (i : Int) := by omega
    have hil : i < l.length := by omega
    obtain ⟨r, h1, h2⟩ := ih k (i + 1) (by omega) (by omega)
    simp only [slices_IndexFunc_at_impl_DevOk_1.l0]; rw [if_pos h, if_pos h0, if_pos h, impl_devok_one, wrap_succ (n := l.length) (by omega) hl, rd_nat _ _ hil, List.drop_eq_getElem_cons hil]
    simp only [List.all_cons, Option.bind_some]
    cases e : wordM l[i] with
    | true => exact ⟨r, by simpa using h1, by simpa using h2⟩
    | false => exact ⟨(i : Int), by simp, by simp⟩
theorem impl_contains2 (k : Nat) (l : List Int) (hl : l.length ≤ 1099511627776) (hk : l.length < k) : slices_ContainsFunc_at_impl_DevOk_1.f k l = some (!l.all wordM) := by
  unfold slices_ContainsFunc_at_impl_DevOk_1.f slices_IndexFunc_at_impl_DevOk_1.f
  obtain ⟨r, h1, h2⟩ := impl_idx2_loop l hl l.length k 0 (by omega) hk
  rw [show ((0 : Nat) : Int) = 0 from rfl] at h1
  rw [h1]; simp only [Option.bind_some]; rw [h2]; simp
theorem impl_devok (k : Nat) (r : List Int) (t : Int) (f : List Int) (hr : r.length ≤ 1099511627776) (hf : f.length ≤ 1099511627776) (kr : r.length < k) (kf : f.length < k) : impl_DevOk.f k r t f = some (devOkM r t f) := by
  have hw : decide (0 ≤ t ∧ t < 4294967296) = wordM t := rfl
  unfold impl_DevOk.f devOkM
  rw [impl_contains2 k r hr kr, impl_contains2 k f hf kf, impl_isnum, limit_two, hw]; simp only [Option.bind_some]
  by_cases h1 : (r.length : Int) = 4 <;> by_cases h2 : (f.length : Int) ≤ 4 <;> cases r.all wordM <;> cases f.all wordM <;> cases wordM t <;> simp [h1, h2]

theorem impl_clone_is (l : List Int) (h : l.length ≤ 1048576) : slices_Clone_int_int.f l = some l := by
  unfold slices_Clone_int_int.f; simp; omega
theorem impl_own_is (r f : List Int) (t : Int) (hr : r.length ≤ 1048576) (hf : f.length ≤ 1048576) : impl_ownDev.f r t f = some (r, t, f) := by
  unfold impl_ownDev.f; rw [impl_clone_is r hr, impl_clone_is f hf]; rfl
theorem impl_do_in (k : Nat) (r f : List Int) (t a v : Int) (w : Bool) (hr : r.length = 4) (hf : f.length ≤ 4) : impl_DevDo.j0 (k + 8) w a v false r t f r t f = some (
    (if a = 16 then (if w = true then (r, v, f, v, true) else (r, Int.tmod (wrap64 (t + 1)) 4294967296, f, t, true))
     else if a = 20 then
       (if w = true then (if f.length < 4 then (r, t, f ++ [v], v, true) else (r, t, f, 0, false))
        else (if 0 < f.length then (r, t, f.drop 1, rd f 0, true) else (r, t, f, 0, false)))
     else if a = 0 ∨ a = 4 ∨ a = 8 ∨ a = 12 then
       (if w = true then (r.set (a / 4).toNat v, t, f, v, true) else (r, t, f, rd r (a / 4), true))
     else (r, t, f, 0, false))) := by
  have hd : slices_Clone_int_int.f (f.drop 1) = some (f.drop 1) := impl_clone_is _ (by rw [List.length_drop]; omega)
  rw [impl_DevDo.j0, if_neg (by simp)]
  by_cases h16 : a = 16
  · subst h16; rw [if_pos rfl, if_pos rfl, impl_DevDo.j1]
    cases w
    · rw [if_neg (by simp), if_pos rfl, impl_limit, limit_two]; simp
    · rw [if_pos rfl, if_pos rfl]
  rw [if_neg h16, if_neg h16, impl_DevDo.j1, if_neg (by simp), if_neg h16]
  by_cases h20 : a = 20
  · subst h20; rw [if_pos rfl, if_pos rfl]
    cases w
    · rw [if_neg (by simp), if_neg (by simp), impl_DevDo.j2, if_neg (by simp), if_pos rfl, if_neg (by simp), impl_DevDo.j3]
      by_cases hl : 0 < f.length
      · have q1 : decide ((f.length : Int) > 0) = true := by rw [decide_eq_true_eq]; omega
        have q2 : 0 < (f.length : Int) := by omega
        have q3 : 1 ≤ (f.length : Int) := by omega
        rw [if_pos hl, if_pos q1, if_pos q2, if_pos q3, hd]; rfl
      · have q1 : ¬ decide ((f.length : Int) > 0) = true := by rw [decide_eq_true_eq]; omega
        have q2 : (20 : Int) ≥ 16 := by omega
        rw [if_neg hl, if_neg q1, if_pos q2, impl_DevDo.j4, if_pos rfl]
    · rw [if_pos rfl, if_pos rfl, impl_DevDo.j2]
      by_cases hl : f.length < 4
      · have q1 : decide ((f.length : Int) < 4) = true := by rw [decide_eq_true_eq]; omega
        have q2 : f.length < 17592186044416 := by omega
        rw [if_pos hl, if_pos q1, if_pos q2]
      · have q1 : ¬ decide ((f.length : Int) < 4) = true := by rw [decide_eq_true_eq]; omega
        have q2 : (20 : Int) ≥ 16 := by omega
        rw [if_neg hl, if_neg q1, if_pos rfl, if_pos rfl, impl_DevDo.j3, if_neg (by simp), if_pos q2, impl_DevDo.j4, if_pos rfl]
  rw [if_neg h20, if_neg h20, impl_DevDo.j2, if_neg (by simp), if_neg h20, impl_DevDo.j3, if_neg (by simp)]
  by_cases hs : a = 0 ∨ a = 4 ∨ a = 8 ∨ a = 12
  · have n16 : ¬ a ≥ 16 := by omega
    have n0 : ¬ a < 0 := by omega
    have e : Int.tmod a 4 = 0 := by rcases hs with rfl | rfl | rfl | rfl <;> rfl
    have e2 : wrap64 (Int.tdiv a 4) = a / 4 := dev_at a (by omega) (by omega)
    have g0 : 0 ≤ a / 4 := by omega
    have g1 : a / 4 < (r.length : Int) := by omega
    rw [if_pos hs, if_neg n16, if_neg n0, impl_DevDo.j4, e, e2, if_neg (by simp)]
    cases w
    · rw [if_neg (by simp), if_pos g0, if_pos g1, if_neg (by simp)]
    · rw [if_pos rfl, if_pos g0, if_pos g1, if_pos rfl]
  · rw [if_neg hs]
    by_cases g1 : a ≥ 16
    · rw [if_pos g1, impl_DevDo.j4, if_pos rfl]
    rw [if_neg g1]
    by_cases g2 : a < 0
    · rw [if_pos g2, impl_DevDo.j4, if_pos rfl]
    rw [if_neg g2, impl_DevDo.j4, if_pos]
    have := dev_slot a (by omega) (by omega)
    simp only [bne_iff_ne, ne_eq]; intro h; exact hs (this h)
theorem impl_do (k : Nat) (r f : List Int) (t a v : Int) (w : Bool) (hr : r.length ≤ 1048576) (hf : f.length ≤ 1048576) (kr : r.length + 8 < k) (kf : f.length + 8 < k) :
    impl_DevDo.f k r t f w a v = some (devDoM r t f w a v) := by
  unfold impl_DevDo.f
  rw [impl_own_is r f t hr hf, impl_devok k r t f (by omega) (by omega) (by omega) (by omega)]; simp only [Option.bind_some]
  obtain ⟨k, rfl⟩ : ∃ m, k = m + 8 := ⟨k - 8, by omega⟩
  unfold devDoM
  cases hd : devOkM r t f
  · rw [if_neg (by simp), if_neg (by simp), impl_DevDo.j0, if_pos rfl]
  · rw [if_pos rfl, impl_isnum, limit_two]; simp only [Option.bind_some]
    have hw : decide (0 ≤ v ∧ v < 4294967296) = wordM v := rfl
    rw [hw]
    cases w
    · rw [if_neg (by simp), if_pos (by simp), impl_do_in k r f t a v false (dev_ro r t f hd) (dev_fo r t f hd)]
    · rw [if_pos rfl]
      cases hv : wordM v
      · rw [if_neg (by simp)]; simp only [Bool.not_false]; rw [impl_DevDo.j0, if_pos rfl]
      · rw [if_pos (by simp)]; simp only [Bool.not_true]; rw [impl_do_in k r f t a v true (dev_ro r t f hd) (dev_fo r t f hd)]; simp

theorem szInt_is (l : List Int) (a : Int) (h0 : 0 ≤ a) (h1 : a ≤ 1048576) (hl : l.length ≤ 9223372036854775807) : laws_szIntS.f l a = some (if a < l.length then -1 else a - l.length) := by
  have hw : wrap64 (a - (l.length : Int)) = a - l.length := wrap64_id (by omega) (by omega)
  unfold laws_szIntS.f; rw [hw]
  by_cases h : a < l.length
  · rw [if_pos h, if_pos (by omega)]
  · rw [if_neg h, if_neg (by omega)]

theorem szDev_is (r f : List Int) (t a : Int) (h0 : 0 ≤ a) (h1 : a ≤ 1048576) (hr : r.length ≤ 9223372036854775807) (hf : f.length ≤ 9223372036854775807) :
    laws_szDev.f r t f a = some (if a < r.length + f.length then -1 else a - r.length - f.length) := by
  unfold laws_szDev.f; rw [szInt_is r a h0 h1 hr]; simp only [Option.bind_some]
  by_cases h : a < r.length
  · rw [if_pos h, if_pos (show a < r.length + f.length by omega)]; simp
  · rw [if_neg h, if_neg (show ¬ a - (r.length : Int) < 0 by omega), szInt_is f _ (by omega) (by omega) hf]; simp only [Option.bind_some]
    by_cases h2 : a - r.length < f.length
    · rw [if_pos h2, if_pos (show a < r.length + f.length by omega)]; simp
    · rw [if_neg h2, if_neg (show ¬ a < r.length + f.length by omega), if_neg (by omega)]

theorem toIntS_loop (l : List Int) (hl : l.length ≤ 1099511627776) (d : Nat) : ∀ (k : Nat) (o : List Int) (i : Nat), o.length = l.length → i + d = l.length → o.take i = l.take i → d < k → laws_toIntS.l0 k l o i = some l := by
  induction d with
  | zero =>
    intro k o i ho hi he hk
    obtain ⟨k, rfl⟩ : ∃ m, k = m + 1 := ⟨k - 1, by omega⟩
    have h : ¬ (i : Int) < (l.length : Int) := by omega
    simp only [laws_toIntS.l0]; rw [if_neg h]
    rw [List.take_of_length_le (by omega), List.take_of_length_le (by omega)] at he
    rw [he]
  | succ d ih =>
    intro k o i ho hi he hk
    obtain ⟨k, rfl⟩ : ∃ m, k = m + 1 := ⟨k - 1, by omega⟩
    have h : (i : Int) < (l.length : Int) := by omega
    have h' : (i : Int) < (o.length : Int) := by omega
    have h0 : (0 : Int) ≤ (i : Int) := by omega
    have hil : i < l.length := by omega
    simp only [laws_toIntS.l0]; rw [if_pos h, if_pos h0, if_pos h', wrap_succ (n := l.length) (by omega) hl, Int.toNat_natCast, rd_nat _ _ hil]
    refine ih k _ (i + 1) (by simpa using ho) (by omega) ?_ (by omega)
    rw [set_take _ _ _ (by omega), he, List.take_succ_eq_append_getElem hil]
theorem toIntS_all (k : Nat) (l : List Int) (hl : l.length ≤ 1099511627776) (hk : l.length < k) : laws_toIntS.f k l = some l := by
  unfold laws_toIntS.f
  have h0 : (0 : Int) ≤ (l.length : Int) := by omega
  have h1 : ((l.length : Int)).toNat ≤ 35184372088832 := by omega
  rw [if_pos h0, if_pos h1]
  exact toIntS_loop l hl l.length k _ 0 (by simp) (by omega) (by simp) hk

theorem toDev_all (k : Nat) (r f : List Int) (t : Int) (hr : r.length ≤ 1099511627776) (hf : f.length ≤ 1099511627776) (kr : r.length < k) (kf : f.length < k) : laws_toDev.f k r t f = some (r, t, f) := by
  unfold laws_toDev.f; rw [toIntS_all k r hr kr, toIntS_all k f hf kf]; rfl

theorem eqIntS_loop (l : List Int) (hl : l.length ≤ 1099511627776) (d : Nat) : ∀ (k i : Nat), i + d = l.length → d < k → laws_eqIntS.l0 k l l i = some true := by
  induction d with
  | zero =>
    intro k i hi hk
    obtain ⟨k, rfl⟩ : ∃ m, k = m + 1 := ⟨k - 1, by omega⟩
    have h : ¬ (i : Int) < (l.length : Int) := by omega
    simp only [laws_eqIntS.l0]; rw [if_neg h]
  | succ d ih =>
    intro k i hi hk
    obtain ⟨k, rfl⟩ : ∃ m, k = m + 1 := ⟨k - 1, by omega⟩
    have h : (i : Int) < (l.length : Int) := by omega
    have h0 : (0 : Int) ≤ (i : Int) := by omega
    have e := ih k (i + 1) (by omega) (by omega)
    simp only [laws_eqIntS.l0]; rw [if_pos h, if_pos h0, if_pos h, wrap_succ (n := l.length) (by omega) hl]
    simp only [if_true]; exact e
theorem eqIntS_refl (l : List Int) (hl : l.length ≤ 1099511627776) (k : Nat) (hk : l.length < k) : laws_eqIntS.f k l l = some true := by
  unfold laws_eqIntS.f; rw [if_pos rfl]; exact eqIntS_loop l hl l.length k 0 (by omega) hk

theorem eqDev_refl (k : Nat) (r f : List Int) (t : Int) (hr : r.length ≤ 1099511627776) (hf : f.length ≤ 1099511627776) (kr : r.length < k) (kf : f.length < k) : laws_eqDev.f k r t f r t f = some true := by
  unfold laws_eqDev.f; rw [eqIntS_refl r hr k kr]; simp only [Option.bind_some, if_true]; rw [eqIntS_refl f hf k kf]; simp

/-- What marking lays. -/
def seqInt : Int → Nat → List Int
  | _, 0 => []
  | a, d + 1 => a :: seqInt (a + 1) d
theorem seqInt_length (d : Nat) : ∀ a, (seqInt a d).length = d := by
  induction d with
  | zero => intro a; rfl
  | succ d ih => intro a; simp [seqInt, ih]
theorem markIntS_loop (d : Nat) : ∀ (k : Nat) (l : List Int) (a : Int) (i : Nat), l.length ≤ 1099511627776 → 0 ≤ a → a + d ≤ 4611686018427387904 → i + d = l.length → d < k →
    laws_markIntS.l0 k l a i = some (a + d, l.take i ++ seqInt a d) := by
  induction d with
  | zero =>
    intro k l a i hl ha hb hi hk
    obtain ⟨k, rfl⟩ : ∃ m, k = m + 1 := ⟨k - 1, by omega⟩
    have h : ¬ (i : Int) < (l.length : Int) := by omega
    simp only [laws_markIntS.l0]; rw [if_neg h]; simp [seqInt, List.take_of_length_le (show l.length ≤ i by omega)]
  | succ d ih =>
    intro k l a i hl ha hb hi hk
    obtain ⟨k, rfl⟩ : ∃ m, k = m + 1 := ⟨k - 1, by omega⟩
    have h : (i : Int) < (l.length : Int) := by omega
    have h0 : (0 : Int) ≤ (i : Int) := by omega
    have hw : wrap64 (a + 1) = a + 1 := wrap64_id (by omega) (by omega)
    simp only [laws_markIntS.l0]; rw [if_pos h, if_pos h0, wrap_succ (n := l.length) (by omega) hl, hw, Int.toNat_natCast, ih k _ _ (i + 1) (by simpa using hl) (by omega) (by omega) (by simp; omega) (by omega)]
    rw [set_take _ _ _ (by omega)]
    simp [seqInt]; omega
theorem markIntS_all (k : Nat) (l : List Int) (a : Int) (hl : l.length ≤ 1099511627776) (ha : 0 ≤ a) (hb : a ≤ 2305843009213693952) (hk : l.length < k) :
    laws_markIntS.f k l a = some (a + l.length, seqInt a l.length) := by
  unfold laws_markIntS.f
  have := markIntS_loop l.length k l a 0 hl ha (by omega) (by omega) hk
  simpa using this

theorem heldIntS_loop (d : Nat) : ∀ (k : Nat) (l : List Int) (a : Int) (i : Nat), l.length ≤ 1099511627776 → 0 ≤ a → a + d ≤ 4611686018427387904 → i + d = l.length → l.drop i = seqInt a d → d < k →
    laws_heldIntS.l0 k l a i = some (a + d) := by
  induction d with
  | zero =>
    intro k l a i hl ha hb hi he hk
    obtain ⟨k, rfl⟩ : ∃ m, k = m + 1 := ⟨k - 1, by omega⟩
    have h : ¬ (i : Int) < (l.length : Int) := by omega
    simp only [laws_heldIntS.l0]; rw [if_neg h]; simp
  | succ d ih =>
    intro k l a i hl ha hb hi he hk
    obtain ⟨k, rfl⟩ : ∃ m, k = m + 1 := ⟨k - 1, by omega⟩
    have h : (i : Int) < (l.length : Int) := by omega
    have h0 : (0 : Int) ≤ (i : Int) := by omega
    have hw : wrap64 (a + 1) = a + 1 := wrap64_id (by omega) (by omega)
    have hil : i < l.length := by omega
    rw [List.drop_eq_getElem_cons hil] at he
    simp only [seqInt, List.cons.injEq] at he
    have e := ih k l (a + 1) (i + 1) hl (by omega) (by omega) (by omega) he.2 (by omega)
    simp only [laws_heldIntS.l0]; rw [if_pos h, if_pos h0, rd_nat _ _ hil, he.1, wrap_succ (n := l.length) (by omega) hl, hw]
    rw [if_pos rfl]; rw [e]; congr 1; omega
theorem heldIntS_all (k n : Nat) (a : Int) (hl : n ≤ 1099511627776) (ha : 0 ≤ a) (hb : a ≤ 2305843009213693952) (hk : n < k) :
    laws_heldIntS.f k (seqInt a n) a = some (a + n) := by
  unfold laws_heldIntS.f
  exact heldIntS_loop n k _ a 0 (by rw [seqInt_length]; exact hl) ha (by omega) (by rw [seqInt_length]; omega) (by simp) hk

theorem markDev_all (k : Nat) (r f : List Int) (t a : Int) (hr : r.length ≤ 1073741824) (hf : f.length ≤ 1073741824) (ha : 0 ≤ a) (hb : a ≤ 1099511627776) (kr : r.length < k) (kf : f.length < k) :
    laws_markDev.f k r t f a = some (a + r.length + f.length, seqInt a r.length, seqInt (a + r.length) f.length) := by
  unfold laws_markDev.f
  rw [markIntS_all k r a (by omega) (by omega) (by omega) kr]; simp only [Option.bind_some]
  rw [markIntS_all k f _ (by omega) (by omega) (by omega) kf]; simp
theorem heldDev_all (k : Nat) (r f : Nat) (t a : Int) (hr : r ≤ 1073741824) (hf : f ≤ 1073741824) (ha : 0 ≤ a) (hb : a ≤ 1099511627776) (kr : r < k) (kf : f < k) :
    laws_heldDev.f k (seqInt a r) t (seqInt (a + r) f) a = some (a + r + f) := by
  unfold laws_heldDev.f
  rw [heldIntS_all k r a (by omega) (by omega) (by omega) kr]; simp only [Option.bind_some]
  rw [if_neg (by omega), heldIntS_all k f _ (by omega) (by omega) (by omega) kf]; simp only [Option.bind_some]
  rw [if_neg (by omega)]

theorem devDo_len (r f : List Int) (t a v : Int) (w : Bool) (hr : r.length ≤ 1048576) (hf : f.length ≤ 1048576) : (devDoM r t f w a v).1.length ≤ 1048580 ∧ (devDoM r t f w a v).2.2.1.length ≤ 1048580 := by
  unfold devDoM
  (repeat' split) <;> simp <;> omega
theorem FnExactDevDo (r : List Int) (t : Int) (f : List Int) (w : Bool) (a v : Int) (hr : r.length ≤ 9223372036854775807) (_ : (Lit.int .i64 t).wf = true) (hf : f.length ≤ 9223372036854775807) (_ : (Lit.int .i64 a).wf = true) (_ : (Lit.int .i64 v).wf = true) : ∃ k, laws_FnExactDevDo.f k r t f w a v = some true := by
  refine ⟨1048600 + 3, ?_⟩
  generalize hk : 1048600 = k
  unfold laws_FnExactDevDo.f
  rw [szDev_is r f t _ (by omega) (by omega) hr hf]; simp only [Option.bind_some]
  by_cases h : (1048576 : Int) < r.length + f.length
  · rw [if_pos h]; simp
  · rw [if_neg h, if_neg (by omega), toDev_all (k + 3) r f t (by omega) (by omega) (by omega) (by omega)]; simp only [Option.bind_some]
    rw [spec_do (k + 3) r f t a v w (by omega) (by omega) (by omega) (by omega), impl_do (k + 3) r f t a v w (by omega) (by omega) (by omega) (by omega)]
    obtain ⟨l1, l2⟩ := devDo_len r f t a v w (by omega) (by omega)
    rcases hg : devDoM r t f w a v with ⟨r', t', f', n, b⟩
    rw [hg] at l1 l2
    simp only [Option.bind_some] at l1 l2 ⊢
    rw [eqDev_refl (k + 3) r' f' t' (by omega) (by omega) (by omega) (by omega)]; simp only [Option.bind_some, if_true, bne_self_eq_false]
    rw [laws_FnExactDevDo.j0, if_neg (by simp), toDev_all (k + 2) r f t (by omega) (by omega) (by omega) (by omega)]; simp only [Option.bind_some]
    rw [eqDev_refl (k + 2) r f t (by omega) (by omega) (by omega) (by omega)]; simp only [Option.bind_some, if_true]
    rw [markDev_all (k + 2) r f t 1 (by omega) (by omega) (by omega) (by omega) (by omega) (by omega)]; simp only [Option.bind_some]
    rw [if_neg (by omega), eqDev_refl (k + 2) r' f' t' (by omega) (by omega) (by omega) (by omega)]; simp only [Option.bind_some, if_true, bne_self_eq_false]
    rw [laws_FnExactDevDo.j1, if_neg (by simp), markDev_all (k + 1) r' f' t' 1 (by omega) (by omega) (by omega) (by omega) (by omega) (by omega)]; simp only [Option.bind_some]
    rw [heldDev_all (k + 1) r'.length f'.length t' 1 (by omega) (by omega) (by omega) (by omega) (by omega) (by omega)]; simp only [Option.bind_some, if_true]
    rw [if_neg (by omega), toDev_all (k + 1) r f t (by omega) (by omega) (by omega) (by omega)]; simp only [Option.bind_some]
    rw [impl_do (k + 1) r f t a v w (by omega) (by omega) (by omega) (by omega), hg]; simp only [Option.bind_some]
    rw [eqDev_refl (k + 1) r' f' t' (by omega) (by omega) (by omega) (by omega)]; simp only [Option.bind_some, if_true, bne_self_eq_false]
    rw [laws_FnExactDevDo.j2, if_neg (by simp), heldDev_all k r'.length f'.length t' 1 (by omega) (by omega) (by omega) (by omega) (by omega) (by omega)]; simp only [Option.bind_some, if_true]
    rw [if_neg (by omega)]

end Go.Proofs.Ythikbgjlcdkoaaa.Pure
