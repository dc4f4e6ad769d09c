/- A burst has the required number of beats in one page, and a wrapping burst returns to its start, for every code. -/
import Derived.Test.YtbljihnmljcgiaaMFnBurstsx
namespace Go.Proofs.Ytbljihnmljcgiaa.Pure
open Go.RowKit Go.Proofs.Ytbljihnmljcgiaa.MFnBursts Go.Proofs.YtbljihnmljcgiaaW.PrintWords Go.Proofs.YtbljihnmljcgiaaW.PrintLast Go.Proofs.YtbljihnmljcgiaaW.PrintMore
set_option linter.unusedVariables false
set_option linter.unusedSimpArgs false
set_option maxHeartbeats 4000000

/-- How many bytes a size has. -/
def bytesM (s : Int) : Int := if s = 0 then 1 else if s = 1 then 2 else if s = 2 then 4 else 0
theorem bytesM_cases (s : Int) : (s = 0 ∧ bytesM s = 1) ∨ (s = 1 ∧ bytesM s = 2) ∨ (s = 2 ∧ bytesM s = 4) ∨ (¬ (0 ≤ s ∧ s ≤ 2) ∧ bytesM s = 0) := by
  unfold bytesM; split
  · left; omega
  · split
    · right; left; omega
    · split
      · right; right; left; omega
      · right; right; right; omega
theorem shl_1_0 : shl .i64 1 0 = 1 := by decide
theorem shl_1_1 : shl .i64 1 1 = 2 := by decide
theorem shl_1_2 : shl .i64 1 2 = 4 := by decide

/-- An address fits a size. -/
def alignedM (a s : Int) : Bool := decide (0 ≤ a ∧ 0 ≤ s ∧ s ≤ 2 ∧ a % bytesM s = 0)
theorem tmod_pos {a b : Int} (h : 0 ≤ a) : Int.tmod a b = a % b := Int.tmod_eq_emod_of_nonneg h

/-- How many beats a burst has. -/
def beatsM (s : Int) : Int := if s = 0 then 1 else if s = 1 then 4 else if s = 2 then 4 else if s = 3 then 8 else 0
theorem beatsM_cases (s : Int) : (s = 0 ∧ beatsM s = 1) ∨ (s = 1 ∧ beatsM s = 4) ∨ (s = 2 ∧ beatsM s = 4) ∨ (s = 3 ∧ beatsM s = 8) ∨ (¬ (0 ≤ s ∧ s ≤ 3) ∧ beatsM s = 0) := by
  unfold beatsM; split
  · left; omega
  · split
    · right; left; omega
    · split
      · right; right; left; omega
      · split
        · right; right; right; left; omega
        · right; right; right; right; omega

theorem wf_of {a : Int} (h : (Lit.int .i64 a).wf = true) : -9223372036854775808 ≤ a ∧ a ≤ 9223372036854775807 := by
  simp [Lit.wf, IntKind.min, IntKind.max, IntKind.signed, IntKind.bits] at h; omega
theorem pow_le_i (b i j : Nat) (h0 : 0 < b) (h : i ≤ j) : (b : Int) ^ i ≤ (b : Int) ^ j := by
  have h1 := Nat.pow_le_pow_right h0 h
  have h2 : ((b ^ i : Nat) : Int) ≤ ((b ^ j : Nat) : Int) := Int.ofNat_le.2 h1
  rwa [Int.natCast_pow, Int.natCast_pow] at h2
theorem wrap64_id {a : Int} (h0 : -9223372036854775808 ≤ a) (h1 : a ≤ 9223372036854775807) : wrap64 a = a := by unfold wrap64; omega

/-- The next address of a burst; -1 where there is none. -/
def nextM (a s b : Int) : Int :=
  if alignedM a s = true ∧ a < 512 ∧ beatsM b ≠ 0 then (if b = 2 ∧ (a + bytesM s) % (4 * bytesM s) = 0 then a + bytesM s - 4 * bytesM s else a + bytesM s) else -1
theorem alignedM_iff (a s : Int) : alignedM a s = true ↔ 0 ≤ a ∧ 0 ≤ s ∧ s ≤ 2 ∧ a % bytesM s = 0 := by unfold alignedM; simp
theorem bytesM_pos {s : Int} (h0 : 0 ≤ s) (h2 : s ≤ 2) : 1 ≤ bytesM s ∧ bytesM s ≤ 4 := by
  rcases bytesM_cases s with ⟨_, h⟩ | ⟨_, h⟩ | ⟨_, h⟩ | ⟨h', h⟩ <;> omega
theorem bytesM_le (s : Int) : 0 ≤ bytesM s ∧ bytesM s ≤ 4 := by
  rcases bytesM_cases s with ⟨_, h⟩ | ⟨_, h⟩ | ⟨_, h⟩ | ⟨h', h⟩ <;> omega

/-- So many addresses from one on; none where there is no next one. -/
def chainM : Nat → Int → Int → Int → Option (List Int)
  | 0, _, _, _ => some []
  | n + 1, a, s, b => if nextM a s b < 0 then none else (chainM n (nextM a s b) s b).map (a :: ·)
/-- The addresses of a burst. -/
def burstM (a s b : Int) : List Int := (chainM (beatsM b).toNat a s b).getD []
theorem chainM_length (n : Nat) : ∀ a s b l, chainM n a s b = some l → l.length = n := by
  induction n with
  | zero => intro a s b l h; simp only [chainM, Option.some.injEq] at h; rw [← h]; rfl
  | succ n ih =>
    intro a s b l h
    simp only [chainM] at h
    by_cases hn : nextM a s b < 0
    · rw [if_pos hn] at h; simp at h
    · rw [if_neg hn] at h
      obtain ⟨m, hm, rfl⟩ := Option.map_eq_some_iff.1 h
      simp [ih _ _ _ _ hm]
theorem beatsM_le (b : Int) : 0 ≤ beatsM b ∧ beatsM b ≤ 8 := by
  rcases beatsM_cases b with ⟨_, h⟩ | ⟨_, h⟩ | ⟨_, h⟩ | ⟨_, h⟩ | ⟨_, h⟩ <;> omega
theorem burstM_length (a s b : Int) : (burstM a s b).length ≤ 8 := by
  unfold burstM
  have := beatsM_le b
  cases h : chainM (beatsM b).toNat a s b with
  | none => simp
  | some l => have := chainM_length _ _ _ _ _ h; simp; omega

theorem wrap_succ {i n : Nat} (h : i < n) (hn : n ≤ 1099511627776) : wrap64 ((i : Int) + 1) = ((i + 1 : Nat) : Int) := by unfold wrap64; omega
theorem rd_nat (l : List Int) (i : Nat) (h : i < l.length) : rd l (i : Int) = l[i] := by
  unfold rd; simp [List.getD_eq_getElem?_getD, List.getElem?_eq_getElem h]
theorem rdOf_nat {α : Type} (d : α) (l : List α) (i : Nat) (h : i < l.length) : rdOf d l (i : Int) = l[i] := by
  unfold rdOf; simp [List.getD_eq_getElem?_getD, List.getElem?_eq_getElem h]
theorem set_take {α : Type} (l : List α) (i : Nat) (x : α) (h : i < l.length) : (l.set i x).take (i + 1) = l.take i ++ [x] := by
  rw [List.take_succ_eq_append_getElem (by simpa using h), List.take_set, List.set_eq_of_length_le (by simp; omega)]; simp
theorem set_drop {α : Type} (l : List α) (i : Nat) (x : α) : (l.set i x).drop (i + 1) = l.drop (i + 1) := by
  rw [List.drop_set]; simp

def pgM (x : Int) : Int := wrap64 (Int.tdiv x 64)
/-- All in one page, and not none. -/
def pageM (l : List Int) : Bool := l.all (fun x => pgM x == pgM (rd l 0)) && decide ((l.length : Int) > 0)

theorem spec_in (a b c : Int) : spec_l1In.f a b c = some (decide (b ≤ a ∧ a ≤ c)) := by
  unfold spec_l1In.f; by_cases h : b ≤ a
  · rw [if_pos h]; simp [h]
  · rw [if_neg h]; simp [h]

theorem spec_bytes (s : Int) : spec_BytesOf.f s = some (bytesM s) := by
  unfold spec_BytesOf.f; rw [spec_in]
  rcases bytesM_cases s with ⟨rfl, h⟩ | ⟨rfl, h⟩ | ⟨rfl, h⟩ | ⟨h0, h⟩
  · rfl
  · rfl
  · rfl
  · rw [h]; simp [h0]

theorem spec_aligned (a s : Int) : spec_Aligned.f a s = some (alignedM a s) := by
  unfold spec_Aligned.f alignedM; rw [spec_bytes]
  by_cases ha : 0 ≤ a
  · rcases bytesM_cases s with ⟨rfl, h⟩ | ⟨rfl, h⟩ | ⟨rfl, h⟩ | ⟨h0, h⟩
    · rw [h]; simp [ha]
    · rw [h]; simp [ha, tmod_pos ha]; rfl
    · rw [h]; simp [ha, tmod_pos ha]; rfl
    · rw [h]; simp; intros; omega
  · rcases bytesM_cases s with ⟨rfl, h⟩ | ⟨rfl, h⟩ | ⟨rfl, h⟩ | ⟨h0, h⟩ <;> rw [h] <;> simp [ha]

theorem spec_beats (s : Int) : spec_BeatsOf.f s = some (beatsM s) := by
  unfold spec_BeatsOf.f; rw [spec_in]
  rcases beatsM_cases s with ⟨rfl, h⟩ | ⟨rfl, h⟩ | ⟨rfl, h⟩ | ⟨rfl, h⟩ | ⟨h0, h⟩
  · rfl
  · rfl
  · rfl
  · rfl
  · rw [h]; simp [h0]

theorem spec_next (k : Nat) (a s b : Int) : spec_NextAddr.f (k + 1) a s b = some (nextM a s b) := by
  unfold spec_NextAddr.f nextM; simp only [spec_aligned, spec_beats, spec_bytes, spec_in, Option.bind_some, spec_NextAddr.j0]
  by_cases h : alignedM a s = true
  · obtain ⟨h0, h1, h2, _⟩ := (alignedM_iff a s).1 h
    have hb := bytesM_pos h1 h2
    by_cases h3 : a < 512
    · have hw1 : wrap64 (a + bytesM s) = a + bytesM s := wrap64_id (by omega) (by omega)
      have hw2 : wrap64 (4 * bytesM s) = 4 * bytesM s := wrap64_id (by omega) (by omega)
      have hw3 : wrap64 (a + bytesM s - 4 * bytesM s) = a + bytesM s - 4 * bytesM s := wrap64_id (by omega) (by omega)
      have hn : ¬ 4 * bytesM s = 0 := by omega
      have hm : Int.tmod (a + bytesM s) (4 * bytesM s) = (a + bytesM s) % (4 * bytesM s) := tmod_pos (by omega)
      have h5 : decide (0 ≤ a ∧ a ≤ 511) = true := by simp; omega
      have h6 : ¬ a ≥ 512 := by omega
      by_cases h4 : beatsM b = 0
      · simp [h, h4, h5, h6]
      · by_cases h7 : b = 2
        · subst h7; simp only [h, h3, h4, h5, h6, hw1, hw2, hw3, hn, hm, if_true, if_false, beq_iff_eq, decide_true, decide_false, and_self, ne_eq, not_false_eq_true, true_and, Bool.false_eq_true, beq_eq_false_iff_ne]
          split <;> rfl
        · simp [h, h3, h4, h5, h6, h7, hw1]
    · have h5 : decide (0 ≤ a ∧ a ≤ 511) = false := by simp; omega
      have h6 : a ≥ 512 := by omega
      have h5' : ¬ (0 ≤ a ∧ a ≤ 511) := by omega
      simp [h, h3, h5', h6]
  · simp [h]

theorem spec_burst_loop (s b : Int) (d : Nat) : ∀ (k : Nat) (a : Int) (acc : List Int), (acc.length : Int) + d = beatsM b → d + 2 ≤ k →
    spec_BurstAddrs.l0 k a s b acc = some (match chainM d a s b with | some l => acc ++ l | none => []) := by
  have hb := beatsM_le b
  induction d with
  | zero =>
    intro k a acc hd hk
    obtain ⟨k, rfl⟩ : ∃ m, k = m + 1 := ⟨k - 1, by omega⟩
    have h : ¬ (acc.length : Int) < beatsM b := by omega
    simp only [spec_BurstAddrs.l0, spec_beats, Option.bind_some]; rw [if_neg h, if_neg h]; simp [chainM]
  | succ d ih =>
    intro k a acc hd hk
    obtain ⟨k, rfl⟩ : ∃ m, k = m + 1 + 1 := ⟨k - 2, by omega⟩
    have h : (acc.length : Int) < beatsM b := by omega
    have hl : acc.length < 17592186044416 := by omega
    rw [spec_BurstAddrs.l0]; simp only [spec_beats, spec_next, Option.bind_some]; rw [if_pos h]
    simp only [chainM]
    by_cases hn : nextM a s b < 0
    · have hn' : ¬ nextM a s b ≥ 0 := by omega
      rw [if_neg hn', if_pos h, if_pos hn]
    · have hn' : nextM a s b ≥ 0 := by omega
      rw [if_pos hn', if_pos hl, if_neg hn, ih (k + 1) _ _ (by simp; omega) (by omega)]
      cases chainM d (nextM a s b) s b <;> simp
theorem spec_burst (k : Nat) (a s b : Int) : spec_BurstAddrs.f (k + 10) a s b = some (burstM a s b) := by
  have hb := beatsM_le b
  unfold spec_BurstAddrs.f burstM
  rw [spec_burst_loop s b (beatsM b).toNat _ a [] (by simp; omega) (by omega)]
  cases chainM (beatsM b).toNat a s b <;> simp

theorem spec_page_loop (l : List Int) (hl : l.length ≤ 1099511627776) (d : Nat) : ∀ (k i : Nat), i + d = l.length → d < k →
    spec_BurstOk.l0 k l i = some ((l.drop i).all (fun x => pgM x == pgM (rd l 0)) && decide ((l.length : Int) > 0)) := by
  induction d with
  | zero =>
    intro k i hi hk
    obtain ⟨k, rfl⟩ : ∃ m, k = m + 1 := ⟨k - 1, by omega⟩
    have h : ¬ (i : Int) < (l.length : Int) := by omega
    simp only [spec_BurstOk.l0]; rw [if_neg h, List.drop_eq_nil_of_le (by omega)]; simp
  | succ d ih =>
    intro k i hi hk
    obtain ⟨k, rfl⟩ : ∃ m, k = m + 1 := ⟨k - 1, by omega⟩
    have h : (i : Int) < (l.length : Int) := by omega
    have h0 : (0 : Int) ≤ (i : Int) := by omega
    have hp : (0 : Int) < (l.length : Int) := by omega
    have hil : i < l.length := by omega
    simp only [spec_BurstOk.l0]; rw [if_pos h, if_pos h0, if_pos hp, wrap_succ (n := l.length) (by omega) hl, ih k (i + 1) (by omega) (by omega), rd_nat _ _ hil, List.drop_eq_getElem_cons hil]
    simp only [List.all_cons]
    by_cases e : pgM l[i] = pgM (rd l 0)
    · have e' : wrap64 (Int.tdiv l[i] 64) = wrap64 (Int.tdiv (rd l 0) 64) := e
      rw [if_pos e', e]; simp
    · have e' : ¬ wrap64 (Int.tdiv l[i] 64) = wrap64 (Int.tdiv (rd l 0) 64) := e
      rw [if_neg e']; simp [e]
theorem spec_burstok (k : Nat) (a s b : Int) : spec_BurstOk.f (k + 10) a s b = some (pageM (burstM a s b)) := by
  have hl := burstM_length a s b
  unfold spec_BurstOk.f; rw [spec_burst]; simp only [Option.bind_some]
  have := spec_page_loop (burstM a s b) (by omega) (burstM a s b).length (k + 10) 0 (by omega) (by omega)
  simpa [pageM] using this

theorem impl_in (a b c : Int) : impl_within.f a b c = some (decide (b ≤ a ∧ a ≤ c)) := by
  unfold impl_within.f; by_cases h : b ≤ a
  · rw [if_pos h]; simp [h]
  · rw [if_neg h]; simp [h]

theorem impl_bytes (s : Int) : impl_BytesOf.f s = some (bytesM s) := by
  unfold impl_BytesOf.f; rw [impl_in]
  rcases bytesM_cases s with ⟨rfl, h⟩ | ⟨rfl, h⟩ | ⟨rfl, h⟩ | ⟨h0, h⟩
  · rfl
  · rfl
  · rfl
  · rw [h]; simp [h0]

theorem impl_aligned (a s : Int) : impl_Aligned.f a s = some (alignedM a s) := by
  unfold impl_Aligned.f alignedM; rw [impl_in, impl_bytes]
  by_cases ha : 0 ≤ a
  · rcases bytesM_cases s with ⟨rfl, h⟩ | ⟨rfl, h⟩ | ⟨rfl, h⟩ | ⟨h0, h⟩
    · rw [h]; simp [ha]
    · rw [h]; simp [ha, tmod_pos ha]; rfl
    · rw [h]; simp [ha, tmod_pos ha]; rfl
    · rw [h]; simp [h0]; intros; omega
  · rcases bytesM_cases s with ⟨rfl, h⟩ | ⟨rfl, h⟩ | ⟨rfl, h⟩ | ⟨h0, h⟩ <;> rw [h] <;> simp [ha]

theorem impl_beats (s : Int) : impl_BeatsOf.f s = some (beatsM s) := by
  unfold impl_BeatsOf.f; rw [impl_in]
  rcases beatsM_cases s with ⟨rfl, h⟩ | ⟨rfl, h⟩ | ⟨rfl, h⟩ | ⟨rfl, h⟩ | ⟨h0, h⟩
  · rfl
  · rfl
  · rfl
  · rfl
  · rw [h]; simp [h0]

theorem impl_next (k : Nat) (a s b : Int) : impl_NextAddr.f (k + 1) a s b = some (nextM a s b) := by
  unfold impl_NextAddr.f nextM; simp only [impl_aligned, impl_beats, impl_bytes, Option.bind_some, impl_NextAddr.j0]
  by_cases h : alignedM a s = true
  · obtain ⟨h0, h1, h2, _⟩ := (alignedM_iff a s).1 h
    have hb := bytesM_pos h1 h2
    by_cases h3 : a < 512
    · have hw1 : wrap64 (a + bytesM s) = a + bytesM s := wrap64_id (by omega) (by omega)
      have hw2 : wrap64 (4 * bytesM s) = 4 * bytesM s := wrap64_id (by omega) (by omega)
      have hw3 : wrap64 (a + bytesM s - 4 * bytesM s) = a + bytesM s - 4 * bytesM s := wrap64_id (by omega) (by omega)
      have hn : ¬ 4 * bytesM s = 0 := by omega
      have hm : Int.tmod (a + bytesM s) (4 * bytesM s) = (a + bytesM s) % (4 * bytesM s) := tmod_pos (by omega)
      have h5 : decide (0 ≤ a ∧ a ≤ 511) = true := by simp; omega
      have h6 : ¬ a ≥ 512 := by omega
      by_cases h4 : beatsM b = 0
      · simp [h, h4, h5, h6]
      · by_cases h7 : b = 2
        · subst h7; simp only [h, h3, h4, h5, h6, hw1, hw2, hw3, hn, hm, if_true, if_false, beq_iff_eq, decide_true, decide_false, and_self, ne_eq, not_false_eq_true, true_and, Bool.false_eq_true, beq_eq_false_iff_ne]
          split <;> rfl
        · simp [h, h3, h4, h5, h6, h7, hw1]
    · have h5 : decide (0 ≤ a ∧ a ≤ 511) = false := by simp; omega
      have h6 : a ≥ 512 := by omega
      have h5' : ¬ (0 ≤ a ∧ a ≤ 511) := by omega
      simp [h, h3, h5', h6]
  · simp [h]

theorem impl_burst_loop (s b : Int) (d : Nat) : ∀ (k : Nat) (a : Int) (acc : List Int) (i : Nat), (i : Int) + d = beatsM b → acc.length = i → d + 2 ≤ k →
    impl_BurstAddrs.l0 k a s b acc (beatsM b) i = some (match chainM d a s b with | some l => acc ++ l | none => []) := by
  have hb := beatsM_le b
  induction d with
  | zero =>
    intro k a acc i hd hl hk
    obtain ⟨k, rfl⟩ : ∃ m, k = m + 1 := ⟨k - 1, by omega⟩
    have h : ¬ (i : Int) < beatsM b := by omega
    simp only [impl_BurstAddrs.l0]; rw [if_neg h]; simp [chainM]
  | succ d ih =>
    intro k a acc i hd hl hk
    obtain ⟨k, rfl⟩ : ∃ m, k = m + 1 + 1 := ⟨k - 2, by omega⟩
    have h : (i : Int) < beatsM b := by omega
    have hl' : acc.length < 17592186044416 := by omega
    have hi1 : wrap64 ((i : Int) + 1) = ((i + 1 : Nat) : Int) := by unfold wrap64; omega
    rw [impl_BurstAddrs.l0]; simp only [impl_next, Option.bind_some]; rw [if_pos h]
    simp only [chainM]
    by_cases hn : nextM a s b < 0
    · rw [if_pos hn, if_pos hn]
    · rw [if_neg hn, if_pos hl', if_neg hn, hi1, ih (k + 1) _ _ (i + 1) (by omega) (by simp; omega) (by omega)]
      cases chainM d (nextM a s b) s b <;> simp
theorem impl_burst (k : Nat) (a s b : Int) : impl_BurstAddrs.f (k + 10) a s b = some (burstM a s b) := by
  have hb := beatsM_le b
  unfold impl_BurstAddrs.f burstM
  rw [impl_beats]; simp only [Option.bind_some]
  have := impl_burst_loop s b (beatsM b).toNat (k + 10) a [] 0 (by omega) rfl (by omega)
  rw [show ((0 : Nat) : Int) = 0 from rfl] at this
  rw [this]
  cases chainM (beatsM b).toNat a s b <;> simp

theorem impl_page_loop (l : List Int) (hl : l.length ≤ 1099511627776) (d : Nat) : ∀ (k i : Nat), i + d = l.length → d < k →
    impl_BurstOk.l0 k l l (l.length : Int) i = some ((l.drop i).all (fun x => pgM x == pgM (rd l 0)) && decide ((l.length : Int) > 0)) := by
  induction d with
  | zero =>
    intro k i hi hk
    obtain ⟨k, rfl⟩ : ∃ m, k = m + 1 := ⟨k - 1, by omega⟩
    have h : ¬ (i : Int) < (l.length : Int) := by omega
    simp only [impl_BurstOk.l0]; rw [if_neg h, List.drop_eq_nil_of_le (by omega)]; simp
  | succ d ih =>
    intro k i hi hk
    obtain ⟨k, rfl⟩ : ∃ m, k = m + 1 := ⟨k - 1, by omega⟩
    have h : (i : Int) < (l.length : Int) := by omega
    have h0 : (0 : Int) ≤ (i : Int) := by omega
    have hp : (0 : Int) < (l.length : Int) := by omega
    have hil : i < l.length := by omega
    simp only [impl_BurstOk.l0]; rw [if_pos h, if_pos h0, if_pos h, if_pos hp, wrap_succ (n := l.length) (by omega) hl, ih k (i + 1) (by omega) (by omega), rd_nat _ _ hil, List.drop_eq_getElem_cons hil]
    simp only [List.all_cons]
    by_cases e : pgM l[i] = pgM (rd l 0)
    · have e' : wrap64 (Int.tdiv l[i] 64) = wrap64 (Int.tdiv (rd l 0) 64) := e
      rw [if_pos e', e]; simp
    · have e' : ¬ wrap64 (Int.tdiv l[i] 64) = wrap64 (Int.tdiv (rd l 0) 64) := e
      rw [if_neg e']; simp [e]
theorem impl_burstok (k : Nat) (a s b : Int) : impl_BurstOk.f (k + 10) a s b = some (pageM (burstM a s b)) := by
  have hl := burstM_length a s b
  unfold impl_BurstOk.f; rw [impl_burst]; simp only [Option.bind_some]
  have := impl_page_loop (burstM a s b) (by omega) (burstM a s b).length (k + 10) 0 (by omega) (by omega)
  simpa [pageM] using this

theorem wraps_i64 (n : Int) (h₀ : 0 ≤ n) (h₁ : n < 2 ^ 63) : IntKind.i64.wrap n = n := by rw [IntKind.wrap_i64]; omega
theorem and_mask (i : Nat) (hi : i ≤ 63) (x : Int) (h₀ : 0 ≤ x) (h₁ : x ≤ 9223372036854775807) : Go.bits .and .i64 x (2 ^ i - 1) = x % 2 ^ i :=
  bits_mask .i64 63 (by decide) wraps_i64 i hi x h₀ (by omega)
theorem or_join (i : Nat) (x y : Int) (hx₀ : 0 ≤ x) (hx : x % 2 ^ i = 0) (hx₁ : x ≤ 9223372036854775807) (hy₀ : 0 ≤ y) (hy : y < 2 ^ i) (hy₁ : y ≤ 9223372036854775807) : Go.bits .or .i64 x y = x + y :=
  bits_join .i64 63 (by decide) wraps_i64 i x y hx₀ hx (by omega) hy₀ hy (by omega)
theorem i64wrap_id {a : Int} (h0 : -9223372036854775808 ≤ a) (h1 : a ≤ 9223372036854775807) : IntKind.i64.wrap a = a := by rw [IntKind.wrap_i64]; omega
theorem and255 {x : Int} (h₀ : 0 ≤ x) (h₁ : x ≤ 9223372036854775807) : Go.bits .and .i64 x 255 = x % 256 := and_mask 8 (by decide) x h₀ h₁
theorem and127 {x : Int} (h₀ : 0 ≤ x) (h₁ : x ≤ 9223372036854775807) : Go.bits .and .i64 x 127 = x % 128 := and_mask 7 (by decide) x h₀ h₁
theorem or_comm_i64 (x y : Int) : Go.bits .or .i64 x y = Go.bits .or .i64 y x := by
  simp only [Go.bits, BitVec.or_comm]

theorem and255_any (y : Int) : 0 ≤ Go.bits .and .i64 y 255 ∧ Go.bits .and .i64 y 255 ≤ 255 := by
  have e : ((BitVec.ofInt 64 y) &&& (BitVec.ofInt 64 255)).toNat ≤ 255 := by
    rw [BitVec.toNat_and]; exact Nat.and_le_right
  have h : Go.bits .and .i64 y 255 = ((((BitVec.ofInt 64 y) &&& (BitVec.ofInt 64 255)).toNat : Nat) : Int) := by
    unfold Go.bits; simp only []
    have e2 : (((BitVec.ofInt IntKind.i64.bits y &&& BitVec.ofInt IntKind.i64.bits 255).toNat : Nat) : Int) ≤ 255 := Int.ofNat_le.2 e
    exact wraps_i64 _ (Int.natCast_nonneg _) (Int.lt_of_le_of_lt e2 (by decide))
  rw [h]; omega
theorem byte_ok (b : List Int) (i h : Int) (hb : b.length ≤ 1048576) (hi : 0 ≤ i) : ∃ x i' h', spec_l1Byte.f b i h = some (x, i', h') ∧ 0 ≤ x ∧ x ≤ 255 ∧ 0 ≤ i' := by
  unfold spec_l1Byte.f
  by_cases hl : i < (b.length : Int)
  · rw [if_pos hl, if_pos hi]
    exact ⟨_, _, _, rfl, (and255_any _).1, (and255_any _).2, by rw [wrap64_id (by omega) (by omega)]; omega⟩
  · rw [if_neg hl]
    exact ⟨_, _, _, rfl, (and255_any _).1, (and255_any _).2, hi⟩
theorem four_ok (x y z w : Int) (hx : 0 ≤ x ∧ x ≤ 255) (hy : 0 ≤ y ∧ y ≤ 255) (hz : 0 ≤ z ∧ z ≤ 255) (hw : 0 ≤ w ∧ w ≤ 255) :
    wrap64 (wrap64 (wrap64 (wrap64 (x * 16777216) + wrap64 (y * 65536)) + wrap64 (z * 256)) + w) = x * 16777216 + y * 65536 + z * 256 + w := by
  have e1 : wrap64 (x * 16777216) = x * 16777216 := wrap64_id (by omega) (by omega)
  have e2 : wrap64 (y * 65536) = y * 65536 := wrap64_id (by clear e1; omega) (by clear e1; omega)
  have e3 : wrap64 (z * 256) = z * 256 := wrap64_id (by clear e1 e2; omega) (by clear e1 e2; omega)
  rw [e1, e2, e3]; clear e1 e2 e3
  have e4 : wrap64 (x * 16777216 + y * 65536) = x * 16777216 + y * 65536 := wrap64_id (by omega) (by omega)
  rw [e4]; clear e4
  have e5 : wrap64 (x * 16777216 + y * 65536 + z * 256) = x * 16777216 + y * 65536 + z * 256 := wrap64_id (by omega) (by omega)
  rw [e5]; clear e5
  exact wrap64_id (by omega) (by omega)
theorem tmod_in (x n : Int) (hx : 0 ≤ x) (hn : 0 < n) : 0 ≤ Int.tmod x n ∧ Int.tmod x n < n := by
  rw [Int.tmod_eq_emod_of_nonneg hx]; exact ⟨Int.emod_nonneg _ (by omega), Int.emod_lt_of_pos _ hn⟩
theorem below_ok (b : List Int) (i h n : Int) (hb : b.length ≤ 1048576) (hi : 0 ≤ i) : ∃ x i' h', spec_l1Below.f b i h n = some (x, i', h') ∧ 0 ≤ x ∧ (0 < n → x < n) ∧ 0 ≤ i' := by
  unfold spec_l1Below.f
  by_cases h0 : n ≤ 0
  · rw [if_pos h0]; exact ⟨_, _, _, rfl, by omega, by omega, hi⟩
  · rw [if_neg h0]
    obtain ⟨x1, i1, h1, e1, a1, b1, c1⟩ := byte_ok b i h hb hi
    have hn : ¬ n = 0 := by omega
    by_cases h2 : n ≤ 256
    · rw [if_pos h2, e1]; simp only [Option.bind_some]; rw [if_neg hn]
      have := tmod_in x1 n a1 (by omega)
      exact ⟨_, _, _, rfl, this.1, fun _ => this.2, c1⟩
    · rw [if_neg h2]
      obtain ⟨x2, i2, h2, e2, a2, b2, c2⟩ := byte_ok b i1 h1 hb c1
      obtain ⟨x3, i3, h3, e3, a3, b3, c3⟩ := byte_ok b i2 h2 hb c2
      obtain ⟨x4, i4, h4, e4, a4, b4, c4⟩ := byte_ok b i3 h3 hb c3
      rw [e1]; simp only [Option.bind_some]; rw [e2]; simp only [Option.bind_some]; rw [e3]; simp only [Option.bind_some]; rw [e4]; simp only [Option.bind_some]
      rw [if_neg hn, four_ok x1 x2 x3 x4 ⟨a1, b1⟩ ⟨a2, b2⟩ ⟨a3, b3⟩ ⟨a4, b4⟩]
      have := tmod_in (x1 * 16777216 + x2 * 65536 + x3 * 256 + x4) n (by omega) (by omega)
      exact ⟨_, _, _, rfl, this.1, fun _ => this.2, c4⟩

theorem new_loop (b : List Int) (hb : b.length ≤ 1048576) (d : Nat) : ∀ (k i : Nat) (h : Int), i + d = b.length → d < k → ∃ h', spec_l1New.l0 k b h i = some (b, 0, h') := by
  induction d with
  | zero =>
    intro k i h hi hk
    obtain ⟨k, rfl⟩ : ∃ m, k = m + 1 := ⟨k - 1, by omega⟩
    have hl : ¬ (i : Int) < (b.length : Int) := by omega
    exact ⟨h, by simp only [spec_l1New.l0]; rw [if_neg hl]⟩
  | succ d ih =>
    intro k i h hi hk
    obtain ⟨k, rfl⟩ : ∃ m, k = m + 1 := ⟨k - 1, by omega⟩
    have hl : (i : Int) < (b.length : Int) := by omega
    have hw : wrap64 ((i : Int) + 1) = ((i + 1 : Nat) : Int) := by unfold wrap64; omega
    simp only [spec_l1New.l0]; rw [if_pos hl]
    by_cases h4 : (i : Int) < 4000
    · rw [if_pos h4, if_pos (Int.natCast_nonneg _), hw]
      exact ih k (i + 1) _ (by clear hw; omega) (by clear hw; omega)
    · rw [if_neg h4]; exact ⟨_, rfl⟩
theorem new_ok (k : Nat) (b : List Int) (hb : b.length ≤ 1048576) (hk : b.length < k) : ∃ h, spec_l1New.f k b = some (b, 0, h) := by
  unfold spec_l1New.f
  exact new_loop b hb b.length k 0 _ (by omega) hk

theorem pick_ok (b : List Int) (i h : Int) (l : List Int) (hb : b.length ≤ 1048576) (hi : 0 ≤ i) (hl : 0 < l.length) : ∃ x i' h', spec_l1PickInt.f b i h l = some (x, i', h') ∧ x ∈ l ∧ 0 ≤ i' := by
  unfold spec_l1PickInt.f
  obtain ⟨x, i', h', e, h0, h1, h2⟩ := below_ok b i h (l.length : Int) hb hi
  have h1' := h1 (by omega)
  rw [e]; simp only [Option.bind_some]; rw [if_pos h0, if_pos h1']
  refine ⟨_, _, _, rfl, ?_, h2⟩
  unfold rd
  rw [List.getD_eq_getElem?_getD, List.getElem?_eq_getElem (show x.toNat < l.length by omega)]
  exact List.getElem_mem _

theorem small_ok (b : List Int) (i h : Int) (hb : b.length ≤ 1048576) (hi : 0 ≤ i) : ∃ x i' h', spec_l2Small.f b i h = some (x, i', h') ∧ 0 ≤ i' := by
  unfold spec_l2Small.f
  obtain ⟨x, i', h', e, _, _, c⟩ := below_ok b i h 6 hb hi
  rw [e]; exact ⟨_, _, _, rfl, c⟩
theorem draw_three (b : List Int) (i h : Int) (hb : b.length ≤ 1048576) (hi : 0 ≤ i) : ∃ r, spec_l3Draw.f b i h = some r := by
  unfold spec_l3Draw.f
  obtain ⟨s, i1, h1, e1, a1, b1, c1⟩ := below_ok b i h 3 hb hi
  obtain ⟨u, i2, h2, e2, a2, b2, c2⟩ := below_ok b i1 h1 4 hb c1
  obtain ⟨v, i3, h3, e3, a3, b3, c3⟩ := below_ok b i2 h2 512 hb c2
  obtain ⟨z, i4, h4, e4, a4, b4, c4⟩ := below_ok b i3 h3 10 hb c3
  have b1' := b1 (by omega)
  have hs : ¬ shl .i64 1 s = 0 := by
    have h' : s = 0 ∨ s = 1 ∨ s = 2 := by omega
    rcases h' with rfl | rfl | rfl
    · rw [shl_1_0]; decide
    · rw [shl_1_1]; decide
    · rw [shl_1_2]; decide
  rw [e1]; simp only [Option.bind_some]; rw [e2]; simp only [Option.bind_some]; rw [e3]; simp only [Option.bind_some]
  rw [if_pos a1, if_neg hs, e4]; simp only [Option.bind_some]
  obtain ⟨p, i5, h5, e5, _, _⟩ := pick_ok b i4 h4 [(-4), 511, 508, 512, 60, 56] hb c4 (by simp)
  obtain ⟨q, i6, h6, e6, _⟩ := small_ok b i4 h4 hb c4
  rw [e5, e6]; simp only [Option.bind_some]
  by_cases z0 : z = 0
  · rw [if_pos z0]; exact ⟨_, rfl⟩
  · rw [if_neg z0]
    by_cases z1 : z = 1
    · rw [if_pos z1]; exact ⟨_, rfl⟩
    · rw [if_neg z1]
      by_cases z2 : z = 2
      · rw [if_pos z2]; exact ⟨_, rfl⟩
      · rw [if_neg z2]
        by_cases z3 : z = 3
        · rw [if_pos z3]; exact ⟨_, rfl⟩
        · rw [if_neg z3]; exact ⟨_, rfl⟩
theorem same_loop (l : List Int) (hl : l.length ≤ 1099511627776) (d : Nat) : ∀ (k i : Nat), i + d = l.length → d < k → laws_sameInts.l0 k l l i = some true := by
  induction d with
  | zero =>
    intro k i hi hk
    obtain ⟨k, rfl⟩ : ∃ m, k = m + 1 := ⟨k - 1, by omega⟩
    have h : ¬ (i : Int) < (l.length : Int) := by omega
    simp only [laws_sameInts.l0]; rw [if_neg h]
  | succ d ih =>
    intro k i hi hk
    obtain ⟨k, rfl⟩ : ∃ m, k = m + 1 := ⟨k - 1, by omega⟩
    have h : (i : Int) < (l.length : Int) := by omega
    have e := ih k (i + 1) (by omega) (by omega)
    simp only [laws_sameInts.l0]; rw [if_pos h, if_pos (Int.natCast_nonneg _), if_pos h, wrap_succ (n := l.length) (by omega) hl]
    simp only [if_true]; exact e
theorem same_refl (k : Nat) (l : List Int) (hl : l.length ≤ 1099511627776) (hk : l.length < k) : laws_sameInts.f k l l = some true := by
  unfold laws_sameInts.f; rw [if_pos rfl]; exact same_loop l hl l.length k 0 (by omega) hk
theorem next_ok (a s b : Int) (h : ¬ nextM a s b < 0) : alignedM a s = true ∧ a < 512 ∧ beatsM b ≠ 0 := by
  unfold nextM at h
  by_cases hc : alignedM a s = true ∧ a < 512 ∧ beatsM b ≠ 0
  · exact hc
  · rw [if_neg hc] at h; omega
theorem chain_facts (n : Nat) : ∀ (a s b : Int) (l : List Int), chainM n a s b = some l →
    (∀ i (h : i < l.length), alignedM l[i] s = true ∧ l[i] < 512 ∧ beatsM b ≠ 0) ∧ (∀ i (h : i + 1 < l.length), l[i + 1] = nextM l[i] s b) ∧ (∀ h : 0 < l.length, l[0] = a) := by
  induction n with
  | zero =>
    intro a s b l h
    simp only [chainM, Option.some.injEq] at h; subst h
    exact ⟨fun i h => by simp at h, fun i h => by simp at h, fun h => by simp at h⟩
  | succ n ih =>
    intro a s b l h
    simp only [chainM] at h
    by_cases hn : nextM a s b < 0
    · rw [if_pos hn] at h; exact absurd h (by simp)
    · rw [if_neg hn] at h
      obtain ⟨m, hm, rfl⟩ := Option.map_eq_some_iff.1 h
      obtain ⟨f1, f2, f3⟩ := ih _ _ _ _ hm
      refine ⟨fun i h => ?_, fun i h => ?_, fun _ => rfl⟩
      · cases i with
        | zero => exact next_ok a s b hn
        | succ i => exact f1 i (by simpa using h)
      · cases i with
        | zero => exact f3 (by simpa using h)
        | succ i => exact f2 i (by simpa using h)
theorem next_wrap (x s : Int) (hx : alignedM x s = true) (hl : x < 512) : ((x + bytesM s) % (4 * bytesM s) = 0 ∧ nextM x s 2 = x + bytesM s - 4 * bytesM s) ∨ (¬ (x + bytesM s) % (4 * bytesM s) = 0 ∧ nextM x s 2 = x + bytesM s) := by
  have hb : beatsM 2 ≠ 0 := by decide
  unfold nextM; rw [if_pos ⟨hx, hl, hb⟩]
  by_cases h : (x + bytesM s) % (4 * bytesM s) = 0
  · left; exact ⟨h, by rw [if_pos ⟨rfl, h⟩]⟩
  · right; exact ⟨h, by rw [if_neg (fun hh => h hh.2)]⟩
theorem bytes_124 (s : Int) (h1 : 0 ≤ s) (h2 : s ≤ 2) : bytesM s = 1 ∨ bytesM s = 2 ∨ bytesM s = 4 := by
  rcases bytesM_cases s with ⟨_, h⟩ | ⟨_, h⟩ | ⟨_, h⟩ | ⟨h', h⟩
  · left; exact h
  · right; left; exact h
  · right; right; exact h
  · exact absurd ⟨h1, h2⟩ h'
theorem wrap_step (x s : Int) (hx : alignedM x s = true) (hl : x < 512) : nextM x s 2 / (4 * bytesM s) = x / (4 * bytesM s) ∧ nextM x s 2 % (4 * bytesM s) = (x % (4 * bytesM s) + bytesM s) % (4 * bytesM s) := by
  have hw := next_wrap x s hx hl
  obtain ⟨h0, h1, h2, h3⟩ := (alignedM_iff x s).1 hx
  generalize nextM x s 2 = y at hw ⊢
  have hB := bytes_124 s h1 h2
  clear hx
  generalize bytesM s = B at hB hw h3 ⊢
  rcases hB with rfl | rfl | rfl <;> rcases hw with ⟨w, rfl⟩ | ⟨w, rfl⟩ <;> constructor <;> omega
theorem wrap_block (x s : Int) (hx : alignedM x s = true) (hl : x < 512) : nextM x s 2 / (4 * bytesM s) = x / (4 * bytesM s) := (wrap_step x s hx hl).1
theorem four_mod (B q x0 x1 x2 x3 y : Int) (hB : B = 1 ∨ B = 2 ∨ B = 4) (hq : q = 4 * B) (d0 : x1 / q = x0 / q) (d1 : x2 / q = x1 / q) (d2 : x3 / q = x2 / q) (d3 : y / q = x3 / q)
    (m0 : x1 % q = (x0 % q + B) % q) (m1 : x2 % q = (x1 % q + B) % q) (m2 : x3 % q = (x2 % q + B) % q) (m3 : y % q = (x3 % q + B) % q) : y = x0 := by
  have hm : y % q = x0 % q := by
    have n1 : x2 % q = (x0 % q + B + B) % q := by rw [m1, m0, Int.emod_add_emod]
    have n2 : x3 % q = (x0 % q + B + B + B) % q := by rw [m2, n1, Int.emod_add_emod]
    have n3 : y % q = (x0 % q + B + B + B + B) % q := by rw [m3, n2, Int.emod_add_emod]
    rw [n3]
    rw [show x0 % q + B + B + B + B = x0 % q + q by omega, Int.add_emod_right, Int.emod_emod]
  have hd : y / q = x0 / q := by rw [d3, d2, d1, d0]
  have e1 := Int.mul_ediv_add_emod y q
  have e2 := Int.mul_ediv_add_emod x0 q
  rw [hm, hd] at e1
  omega
theorem wrap_four (x0 x1 x2 x3 s : Int) (g0 : alignedM x0 s = true) (g1 : alignedM x1 s = true) (g2 : alignedM x2 s = true) (g3 : alignedM x3 s = true) (l0 : x0 < 512) (l1 : x1 < 512) (l2 : x2 < 512) (l3 : x3 < 512)
    (e1 : x1 = nextM x0 s 2) (e2 : x2 = nextM x1 s 2) (e3 : x3 = nextM x2 s 2) : nextM x3 s 2 = x0 := by
  have w0 := wrap_step x0 s g0 l0
  have w1 := wrap_step x1 s g1 l1
  have w2 := wrap_step x2 s g2 l2
  have w3 := wrap_step x3 s g3 l3
  rw [← e1] at w0; rw [← e2] at w1; rw [← e3] at w2
  exact four_mod (bytesM s) (4 * bytesM s) x0 x1 x2 x3 _ (bytes_124 s ((alignedM_iff x0 s).1 g0).2.1 ((alignedM_iff x0 s).1 g0).2.2.1) rfl w0.1 w1.1 w2.1 w3.1 w0.2 w1.2 w2.2 w3.2
theorem wrap_pred (j : Nat) (h : j ≤ 1000) : wrap64 (((j + 1 : Nat) : Int) - 1) = (j : Int) := by
  rw [show ((j + 1 : Nat) : Int) - 1 = (j : Int) by omega]
  exact wrap64_id (by omega) (by omega)
theorem nat_split {i : Nat} (h : (i : Int) > 0) : ∃ j, i = j + 1 := ⟨i - 1, by omega⟩
theorem int_lt {j n : Nat} (h : j < n) : (j : Int) < (n : Int) := by omega
theorem burst_loop (a s b : Int) (l : List Int) (hlen : (l.length : Int) = beatsM b) (f1 : ∀ i (h : i < l.length), alignedM l[i] s = true ∧ l[i] < 512 ∧ beatsM b ≠ 0) (f2 : ∀ i (h : i + 1 < l.length), l[i + 1] = nextM l[i] s b)
    (f3 : ∀ h : 0 < l.length, l[0] = a) (hp : ∀ x ∈ l, pgM x = pgM a) (h0 : 0 < l.length) (d : Nat) : ∀ (k i : Nat), i + d = l.length → d + 2 ≤ k → laws_FnBursts.l0 k a s b l (bytesM s) i = some true := by
  have hle := beatsM_le b
  have hl8 : l.length ≤ 8 := by omega
  have hfa := f1 0 h0
  rw [f3 h0] at hfa
  obtain ⟨ha0, hs0, hs2, ham⟩ := (alignedM_iff a s).1 hfa.1
  have hbp := bytesM_pos hs0 hs2
  have hw4 : wrap64 (4 * bytesM s) = 4 * bytesM s := wrap64_id (by omega) (by omega)
  have h4n : ¬ 4 * bytesM s = 0 := by clear hw4; omega
  have blk : b = 2 → ∀ i (h : i < l.length), l[i] / (4 * bytesM s) = a / (4 * bytesM s) := by
    intro hb2; subst hb2; intro i
    induction i with
    | zero => intro h; rw [f3 h0]
    | succ i ih => intro h; rw [f2 i h, wrap_block _ _ (f1 i (by omega)).1 (f1 i (by omega)).2.1]; exact ih (by omega)
  induction d with
  | zero =>
    intro k i hi hk
    obtain ⟨k, rfl⟩ : ∃ m, k = m + 1 + 1 := ⟨k - 2, by omega⟩
    have h : ¬ (i : Int) < (l.length : Int) := by omega
    have hr0 : rd l 0 = a := by have := rd_nat l 0 h0; rw [f3 h0] at this; exact this
    rw [laws_FnBursts.l0, if_neg h, impl_beats]; simp only [Option.bind_some]
    rw [if_pos hlen, if_pos (show (0 : Int) < (l.length : Int) by clear hw4; omega), if_pos hr0]
    by_cases hb2 : b = 2
    · subst hb2
      have hl4 : l.length = 4 := by have h4 : beatsM 2 = 4 := rfl; rw [h4] at hlen; clear hw4; omega
      have hr3 : rd l 3 = l[3] := rd_nat l 3 (by clear hw4; omega)
      have key : nextM l[3] s 2 = a := by
        rw [← f3 h0]
        have g0 := f1 0 (by omega)
        have g1 := f1 1 (by omega)
        have g2 := f1 2 (by omega)
        have g3 := f1 3 (by omega)
        have e1 := f2 0 (by omega)
        have e2 := f2 1 (by omega)
        have e3 := f2 2 (by omega)
        exact wrap_four _ _ _ _ s g0.1 g1.1 g2.1 g3.1 g0.2.1 g1.2.1 g2.2.1 g3.2.1 e1 e2 e3
      rw [if_pos rfl, if_pos (show (3 : Int) < (l.length : Int) by clear hw4; omega), impl_next, hr3, key]; simp
    · rw [if_neg hb2]
  | succ d ih =>
    intro k i hi hk
    obtain ⟨k, rfl⟩ : ∃ m, k = m + 1 + 1 := ⟨k - 2, by omega⟩
    have h : (i : Int) < (l.length : Int) := by omega
    have hil : i < l.length := by clear hw4; omega
    have hr := rd_nat l i hil
    have hpi : wrap64 (Int.tdiv l[i] 64) = wrap64 (Int.tdiv a 64) := hp _ (List.getElem_mem hil)
    have hnx := wrap_succ (i := i) (n := l.length) hil (by clear hw4; omega)
    have rest := ih (k + 1) (i + 1) (by clear hw4; omega) (by clear hw4; omega)
    have hnn : 0 ≤ l[i] := by obtain ⟨h0, _⟩ := (alignedM_iff l[i] s).1 (f1 i hil).1; exact h0
    have tail : (if b = 2 then (if (wrap64 (4 * bytesM s)) = 0 then none else (if (wrap64 (Int.tdiv l[i] (wrap64 (4 * bytesM s)))) = (wrap64 (Int.tdiv a (wrap64 (4 * bytesM s)))) then (laws_FnBursts.l0 (k + 1) a s b l (bytesM s) ((i + 1 : Nat) : Int)) else (some false))) else (laws_FnBursts.l0 (k + 1) a s b l (bytesM s) ((i + 1 : Nat) : Int))) = some true := by
      by_cases hb2 : b = 2
      · rw [if_pos hb2, hw4, if_neg h4n, Int.tdiv_eq_ediv_of_nonneg hnn, Int.tdiv_eq_ediv_of_nonneg ha0, blk hb2 i hil]
        simp only [if_true]; exact rest
      · rw [if_neg hb2]; exact rest
    rw [laws_FnBursts.l0, if_pos h, if_pos (Int.natCast_nonneg _), hr, impl_aligned, (f1 i hil).1]; simp only [Option.bind_some, if_true]
    rw [if_pos hpi, hnx]
    by_cases hi0 : (i : Int) > 0
    · obtain ⟨j, rfl⟩ := nat_split hi0
      have hjl : j < l.length := Nat.lt_of_succ_lt hil
      have hw1 := wrap_pred j (Nat.le_trans (Nat.le_of_lt hjl) (Nat.le_trans hl8 (by decide)))
      rw [if_pos hi0, hw1, if_pos (Int.natCast_nonneg _), if_pos (int_lt hjl), rd_nat l j hjl, impl_next]; simp only [Option.bind_some]
      rw [if_pos (f2 j hil)]; exact tail
    · rw [if_neg hi0]; exact tail
theorem FnBursts : laws_FnBursts.Pure := by
  intro c _ _ _
  refine ⟨1048600 + 30, ?_⟩
  generalize hk : 1048600 = k
  unfold laws_FnBursts.f laws_big.f; simp only [Option.bind_some]
  by_cases hb : (c.length : Int) > 1048576
  · rw [decide_eq_true hb]; simp
  · rw [decide_eq_false hb]; simp only [Bool.false_eq_true, if_false]
    have hd : ∃ a s b, spec_DrawBurstAddrs.f (k + 30) c = some (a, s, b) := by
      unfold spec_DrawBurstAddrs.f
      obtain ⟨h0, e0⟩ := new_ok (k + 30) c (by omega) (by omega)
      rw [e0]; simp only [Option.bind_some]
      obtain ⟨r, er⟩ := draw_three c 0 h0 (by omega) (by omega)
      rw [er]; exact ⟨_, _, _, rfl⟩
    obtain ⟨a, s, b, e⟩ := hd
    have h8 := burstM_length a s b
    rw [e]; simp only [Option.bind_some]
    rw [impl_burst (k + 20), impl_burstok (k + 20), spec_burst (k + 20), spec_burstok (k + 20)]; simp only [Option.bind_some]
    rw [same_refl (k + 30) _ (by omega) (by omega)]; simp only [Option.bind_some, if_true, bne_self_eq_false]
    rw [laws_FnBursts.j0]; simp only [Bool.false_eq_true, if_false]
    by_cases hp : pageM (burstM a s b) = true
    · rw [if_pos hp, impl_bytes]; simp only [Option.bind_some]
      unfold pageM at hp
      rw [Bool.and_eq_true, decide_eq_true_eq, List.all_eq_true] at hp
      obtain ⟨hall, hpos⟩ := hp
      have hne : 0 < (burstM a s b).length := by omega
      unfold burstM at hall hpos hne h8 ⊢
      cases hc : chainM (beatsM b).toNat a s b with
      | none => rw [hc] at hne; simp at hne
      | some l =>
        rw [hc] at hall hne h8; simp only [Option.getD_some] at hall hne h8 ⊢
        obtain ⟨f1, f2, f3⟩ := chain_facts _ _ _ _ _ hc
        have hlen := chainM_length _ _ _ _ _ hc
        have hle := beatsM_le b
        have hr0 : rd l 0 = a := by have := rd_nat l 0 hne; rw [f3 hne] at this; exact this
        exact burst_loop a s b l (by omega) f1 f2 f3 (fun x hx => by have := hall x hx; rw [hr0] at this; exact beq_iff_eq.1 this) hne l.length (k + 29) 0 (by omega) (by omega)
    · rw [if_neg hp]

end Go.Proofs.Ytbljihnmljcgiaa.Pure
