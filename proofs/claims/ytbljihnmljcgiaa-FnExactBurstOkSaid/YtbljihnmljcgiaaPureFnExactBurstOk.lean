/- The program's BurstOk answers as the reference's, for every three ints. -/
import Derived.Test.YtbljihnmljcgiaaPFnExactBurstOkx
namespace Go.Proofs.Ytbljihnmljcgiaa.Pure
open Go.RowKit Go.Proofs.Ytbljihnmljcgiaa.PFnExactBurstOk Go.Proofs.YtbljihnmljcgiaaW.PrintWords Go.Proofs.YtbljihnmljcgiaaW.PrintLast Go.Proofs.YtbljihnmljcgiaaW.PrintMore
set_option linter.unusedVariables false
set_option linter.unusedSimpArgs false

/-- How many bytes a size has. -/
def bytesM (s : Int) : Int := if s = 0 then 1 else if s = 1 then 2 else if s = 2 then 4 else 0
theorem bytesM_cases (s : Int) : (s = 0 ∧ bytesM s = 1) ∨ (s = 1 ∧ bytesM s = 2) ∨ (s = 2 ∧ bytesM s = 4) ∨ (¬ (0 ≤ s ∧ s ≤ 2) ∧ bytesM s = 0) := by
  unfold bytesM; split
  · left; omega
  · split
    · right; left; omega
    · split
      · right; right; left; omega
      · right; right; right; omega
theorem shl_1_0 : shl .i64 1 0 = 1 := by decide
theorem shl_1_1 : shl .i64 1 1 = 2 := by decide
theorem shl_1_2 : shl .i64 1 2 = 4 := by decide

/-- An address fits a size. -/
def alignedM (a s : Int) : Bool := decide (0 ≤ a ∧ 0 ≤ s ∧ s ≤ 2 ∧ a % bytesM s = 0)
theorem tmod_pos {a b : Int} (h : 0 ≤ a) : Int.tmod a b = a % b := Int.tmod_eq_emod_of_nonneg h

/-- How many beats a burst has. -/
def beatsM (s : Int) : Int := if s = 0 then 1 else if s = 1 then 4 else if s = 2 then 4 else if s = 3 then 8 else 0
theorem beatsM_cases (s : Int) : (s = 0 ∧ beatsM s = 1) ∨ (s = 1 ∧ beatsM s = 4) ∨ (s = 2 ∧ beatsM s = 4) ∨ (s = 3 ∧ beatsM s = 8) ∨ (¬ (0 ≤ s ∧ s ≤ 3) ∧ beatsM s = 0) := by
  unfold beatsM; split
  · left; omega
  · split
    · right; left; omega
    · split
      · right; right; left; omega
      · split
        · right; right; right; left; omega
        · right; right; right; right; omega

theorem wf_of {a : Int} (h : (Lit.int .i64 a).wf = true) : -9223372036854775808 ≤ a ∧ a ≤ 9223372036854775807 := by
  simp [Lit.wf, IntKind.min, IntKind.max, IntKind.signed, IntKind.bits] at h; omega
theorem pow_le_i (b i j : Nat) (h0 : 0 < b) (h : i ≤ j) : (b : Int) ^ i ≤ (b : Int) ^ j := by
  have h1 := Nat.pow_le_pow_right h0 h
  have h2 : ((b ^ i : Nat) : Int) ≤ ((b ^ j : Nat) : Int) := Int.ofNat_le.2 h1
  rwa [Int.natCast_pow, Int.natCast_pow] at h2
theorem wrap64_id {a : Int} (h0 : -9223372036854775808 ≤ a) (h1 : a ≤ 9223372036854775807) : wrap64 a = a := by unfold wrap64; omega

/-- The next address of a burst; -1 where there is none. -/
def nextM (a s b : Int) : Int :=
  if alignedM a s = true ∧ a < 512 ∧ beatsM b ≠ 0 then (if b = 2 ∧ (a + bytesM s) % (4 * bytesM s) = 0 then a + bytesM s - 4 * bytesM s else a + bytesM s) else -1
theorem alignedM_iff (a s : Int) : alignedM a s = true ↔ 0 ≤ a ∧ 0 ≤ s ∧ s ≤ 2 ∧ a % bytesM s = 0 := by unfold alignedM; simp
theorem bytesM_pos {s : Int} (h0 : 0 ≤ s) (h2 : s ≤ 2) : 1 ≤ bytesM s ∧ bytesM s ≤ 4 := by
  rcases bytesM_cases s with ⟨_, h⟩ | ⟨_, h⟩ | ⟨_, h⟩ | ⟨h', h⟩ <;> omega
theorem bytesM_le (s : Int) : 0 ≤ bytesM s ∧ bytesM s ≤ 4 := by
  rcases bytesM_cases s with ⟨_, h⟩ | ⟨_, h⟩ | ⟨_, h⟩ | ⟨h', h⟩ <;> omega

/-- So many addresses from one on; none where there is no next one. -/
def chainM : Nat → Int → Int → Int → Option (List Int)
  | 0, _, _, _ => some []
  | n + 1, a, s, b => if nextM a s b < 0 then none else (chainM n (nextM a s b) s b).map (a :: ·)
/-- The addresses of a burst. -/
def burstM (a s b : Int) : List Int := (chainM (beatsM b).toNat a s b).getD []
theorem chainM_length (n : Nat) : ∀ a s b l, chainM n a s b = some l → l.length = n := by
  induction n with
  | zero => intro a s b l h; simp only [chainM, Option.some.injEq] at h; rw [← h]; rfl
  | succ n ih =>
    intro a s b l h
    simp only [chainM] at h
    by_cases hn : nextM a s b < 0
    · rw [if_pos hn] at h; simp at h
    · rw [if_neg hn] at h
      obtain ⟨m, hm, rfl⟩ := Option.map_eq_some_iff.1 h
      simp [ih _ _ _ _ hm]
theorem beatsM_le (b : Int) : 0 ≤ beatsM b ∧ beatsM b ≤ 8 := by
  rcases beatsM_cases b with ⟨_, h⟩ | ⟨_, h⟩ | ⟨_, h⟩ | ⟨_, h⟩ | ⟨_, h⟩ <;> omega
theorem burstM_length (a s b : Int) : (burstM a s b).length ≤ 8 := by
  unfold burstM
  have := beatsM_le b
  cases h : chainM (beatsM b).toNat a s b with
  | none => simp
  | some l => have := chainM_length _ _ _ _ _ h; simp; omega

theorem wrap_succ {i n : Nat} (h : i < n) (hn : n ≤ 1099511627776) : wrap64 ((i : Int) + 1) = ((i + 1 : Nat) : Int) := by unfold wrap64; omega
theorem rd_nat (l : List Int) (i : Nat) (h : i < l.length) : rd l (i : Int) = l[i] := by
  unfold rd; simp [List.getD_eq_getElem?_getD, List.getElem?_eq_getElem h]
theorem rdOf_nat {α : Type} (d : α) (l : List α) (i : Nat) (h : i < l.length) : rdOf d l (i : Int) = l[i] := by
  unfold rdOf; simp [List.getD_eq_getElem?_getD, List.getElem?_eq_getElem h]
theorem set_take {α : Type} (l : List α) (i : Nat) (x : α) (h : i < l.length) : (l.set i x).take (i + 1) = l.take i ++ [x] := by
  rw [List.take_succ_eq_append_getElem (by simpa using h), List.take_set, List.set_eq_of_length_le (by simp; omega)]; simp
theorem set_drop {α : Type} (l : List α) (i : Nat) (x : α) : (l.set i x).drop (i + 1) = l.drop (i + 1) := by
  rw [List.drop_set]; simp

def pgM (x : Int) : Int := wrap64 (Int.tdiv x 64)
/-- All in one page, and not none. -/
def pageM (l : List Int) : Bool := l.all (fun x => pgM x == pgM (rd l 0)) && decide ((l.length : Int) > 0)

theorem spec_in (a b c : Int) : spec_l1In.f a b c = some (decide (b ≤ a ∧ a ≤ c)) := by
  unfold spec_l1In.f; by_cases h : b ≤ a
  · rw [if_pos h]; simp [h]
  · rw [if_neg h]; simp [h]

theorem spec_bytes (s : Int) : spec_BytesOf.f s = some (bytesM s) := by
  unfold spec_BytesOf.f; rw [spec_in]
  rcases bytesM_cases s with ⟨rfl, h⟩ | ⟨rfl, h⟩ | ⟨rfl, h⟩ | ⟨h0, h⟩
  · rfl
  · rfl
  · rfl
  · rw [h]; simp [h0]

theorem spec_aligned (a s : Int) : spec_Aligned.f a s = some (alignedM a s) := by
  unfold spec_Aligned.f alignedM; rw [spec_bytes]
  by_cases ha : 0 ≤ a
  · rcases bytesM_cases s with ⟨rfl, h⟩ | ⟨rfl, h⟩ | ⟨rfl, h⟩ | ⟨h0, h⟩
    · rw [h]; simp [ha]
    · rw [h]; simp [ha, tmod_pos ha]; rfl
    · rw [h]; simp [ha, tmod_pos ha]; rfl
    · rw [h]; simp; intros; omega
  · rcases bytesM_cases s with ⟨rfl, h⟩ | ⟨rfl, h⟩ | ⟨rfl, h⟩ | ⟨h0, h⟩ <;> rw [h] <;> simp [ha]

theorem spec_beats (s : Int) : spec_BeatsOf.f s = some (beatsM s) := by
  unfold spec_BeatsOf.f; rw [spec_in]
  rcases beatsM_cases s with ⟨rfl, h⟩ | ⟨rfl, h⟩ | ⟨rfl, h⟩ | ⟨rfl, h⟩ | ⟨h0, h⟩
  · rfl
  · rfl
  · rfl
  · rfl
  · rw [h]; simp [h0]

theorem spec_next (k : Nat) (a s b : Int) : spec_NextAddr.f (k + 1) a s b = some (nextM a s b) := by
  unfold spec_NextAddr.f nextM; simp only [spec_aligned, spec_beats, spec_bytes, spec_in, Option.bind_some, spec_NextAddr.j0]
  by_cases h : alignedM a s = true
  · obtain ⟨h0, h1, h2, _⟩ := (alignedM_iff a s).1 h
    have hb := bytesM_pos h1 h2
    by_cases h3 : a < 512
    · have hw1 : wrap64 (a + bytesM s) = a + bytesM s := wrap64_id (by omega) (by omega)
      have hw2 : wrap64 (4 * bytesM s) = 4 * bytesM s := wrap64_id (by omega) (by omega)
      have hw3 : wrap64 (a + bytesM s - 4 * bytesM s) = a + bytesM s - 4 * bytesM s := wrap64_id (by omega) (by omega)
      have hn : ¬ 4 * bytesM s = 0 := by omega
      have hm : Int.tmod (a + bytesM s) (4 * bytesM s) = (a + bytesM s) % (4 * bytesM s) := tmod_pos (by omega)
      have h5 : decide (0 ≤ a ∧ a ≤ 511) = true := by simp; omega
      have h6 : ¬ a ≥ 512 := by omega
      by_cases h4 : beatsM b = 0
      · simp [h, h4, h5, h6]
      · by_cases h7 : b = 2
        · subst h7; simp only [h, h3, h4, h5, h6, hw1, hw2, hw3, hn, hm, if_true, if_false, beq_iff_eq, decide_true, decide_false, and_self, ne_eq, not_false_eq_true, true_and, Bool.false_eq_true, beq_eq_false_iff_ne]
          split <;> rfl
        · simp [h, h3, h4, h5, h6, h7, hw1]
    · have h5 : decide (0 ≤ a ∧ a ≤ 511) = false := by simp; omega
      have h6 : a ≥ 512 := by omega
      have h5' : ¬ (0 ≤ a ∧ a ≤ 511) := by omega
      simp [h, h3, h5', h6]
  · simp [h]

theorem spec_burst_loop (s b : Int) (d : Nat) : ∀ (k : Nat) (a : Int) (acc : List Int), (acc.length : Int) + d = beatsM b → d + 2 ≤ k →
    spec_BurstAddrs.l0 k a s b acc = some (match chainM d a s b with | some l => acc ++ l | none => []) := by
  have hb := beatsM_le b
  induction d with
  | zero =>
    intro k a acc hd hk
    obtain ⟨k, rfl⟩ : ∃ m, k = m + 1 := ⟨k - 1, by omega⟩
    have h : ¬ (acc.length : Int) < beatsM b := by omega
    simp only [spec_BurstAddrs.l0, spec_beats, Option.bind_some]; rw [if_neg h, if_neg h]; simp [chainM]
  | succ d ih =>
    intro k a acc hd hk
    obtain ⟨k, rfl⟩ : ∃ m, k = m + 1 + 1 := ⟨k - 2, by omega⟩
    have h : (acc.length : Int) < beatsM b := by omega
    have hl : acc.length < 17592186044416 := by omega
    rw [spec_BurstAddrs.l0]; simp only [spec_beats, spec_next, Option.bind_some]; rw [if_pos h]
    simp only [chainM]
    by_cases hn : nextM a s b < 0
    · have hn' : ¬ nextM a s b ≥ 0 := by omega
      rw [if_neg hn', if_pos h, if_pos hn]
    · have hn' : nextM a s b ≥ 0 := by omega
      rw [if_pos hn', if_pos hl, if_neg hn, ih (k + 1) _ _ (by simp; omega) (by omega)]
      cases chainM d (nextM a s b) s b <;> simp
theorem spec_burst (k : Nat) (a s b : Int) : spec_BurstAddrs.f (k + 10) a s b = some (burstM a s b) := by
  have hb := beatsM_le b
  unfold spec_BurstAddrs.f burstM
  rw [spec_burst_loop s b (beatsM b).toNat _ a [] (by simp; omega) (by omega)]
  cases chainM (beatsM b).toNat a s b <;> simp

theorem spec_page_loop (l : List Int) (hl : l.length ≤ 1099511627776) (d : Nat) : ∀ (k i : Nat), i + d = l.length → d < k →
    spec_BurstOk.l0 k l i = some ((l.drop i).all (fun x => pgM x == pgM (rd l 0)) && decide ((l.length : Int) > 0)) := by
  induction d with
  | zero =>
    intro k i hi hk
    obtain ⟨k, rfl⟩ : ∃ m, k = m + 1 := ⟨k - 1, by omega⟩
    have h : ¬ (i : Int) < (l.length : Int) := by omega
    simp only [spec_BurstOk.l0]; rw [if_neg h, List.drop_eq_nil_of_le (by omega)]; simp
  | succ d ih =>
    intro k i hi hk
    obtain ⟨k, rfl⟩ : ∃ m, k = m + 1 := ⟨k - 1, by omega⟩
    have h : (i : Int) < (l.length : Int) := by omega
    have h0 : (0 : Int) ≤ (i : Int) := by omega
    have hp : (0 : Int) < (l.length : Int) := by omega
    have hil : i < l.length := by omega
    simp only [spec_BurstOk.l0]; rw [if_pos h, if_pos h0, if_pos hp, wrap_succ (n := l.length) (by omega) hl, ih k (i + 1) (by omega) (by omega), rd_nat _ _ hil, List.drop_eq_getElem_cons hil]
    simp only [List.all_cons]
    by_cases e : pgM l[i] = pgM (rd l 0)
    · have e' : wrap64 (Int.tdiv l[i] 64) = wrap64 (Int.tdiv (rd l 0) 64) := e
      rw [if_pos e', e]; simp
    · have e' : ¬ wrap64 (Int.tdiv l[i] 64) = wrap64 (Int.tdiv (rd l 0) 64) := e
      rw [if_neg e']; simp [e]
theorem spec_burstok (k : Nat) (a s b : Int) : spec_BurstOk.f (k + 10) a s b = some (pageM (burstM a s b)) := by
  have hl := burstM_length a s b
  unfold spec_BurstOk.f; rw [spec_burst]; simp only [Option.bind_some]
  have := spec_page_loop (burstM a s b) (by omega) (burstM a s b).length (k + 10) 0 (by omega) (by omega)
  simpa [pageM] using this

theorem impl_in (a b c : Int) : impl_within.f a b c = some (decide (b ≤ a ∧ a ≤ c)) := by
  unfold impl_within.f; by_cases h : b ≤ a
  · rw [if_pos h]; simp [h]
  · rw [if_neg h]; simp [h]

theorem impl_bytes (s : Int) : impl_BytesOf.f s = some (bytesM s) := by
  unfold impl_BytesOf.f; rw [impl_in]
  rcases bytesM_cases s with ⟨rfl, h⟩ | ⟨rfl, h⟩ | ⟨rfl, h⟩ | ⟨h0, h⟩
  · rfl
  · rfl
  · rfl
  · rw [h]; simp [h0]

theorem impl_aligned (a s : Int) : impl_Aligned.f a s = some (alignedM a s) := by
  unfold impl_Aligned.f alignedM; rw [impl_in, impl_bytes]
  by_cases ha : 0 ≤ a
  · rcases bytesM_cases s with ⟨rfl, h⟩ | ⟨rfl, h⟩ | ⟨rfl, h⟩ | ⟨h0, h⟩
    · rw [h]; simp [ha]
    · rw [h]; simp [ha, tmod_pos ha]; rfl
    · rw [h]; simp [ha, tmod_pos ha]; rfl
    · rw [h]; simp [h0]; intros; omega
  · rcases bytesM_cases s with ⟨rfl, h⟩ | ⟨rfl, h⟩ | ⟨rfl, h⟩ | ⟨h0, h⟩ <;> rw [h] <;> simp [ha]

theorem impl_beats (s : Int) : impl_BeatsOf.f s = some (beatsM s) := by
  unfold impl_BeatsOf.f; rw [impl_in]
  rcases beatsM_cases s with ⟨rfl, h⟩ | ⟨rfl, h⟩ | ⟨rfl, h⟩ | ⟨rfl, h⟩ | ⟨h0, h⟩
  · rfl
  · rfl
  · rfl
  · rfl
  · rw [h]; simp [h0]

theorem impl_next (k : Nat) (a s b : Int) : impl_NextAddr.f (k + 1) a s b = some (nextM a s b) := by
  unfold impl_NextAddr.f nextM; simp only [impl_aligned, impl_beats, impl_bytes, Option.bind_some, impl_NextAddr.j0]
  by_cases h : alignedM a s = true
  · obtain ⟨h0, h1, h2, _⟩ := (alignedM_iff a s).1 h
    have hb := bytesM_pos h1 h2
    by_cases h3 : a < 512
    · have hw1 : wrap64 (a + bytesM s) = a + bytesM s := wrap64_id (by omega) (by omega)
      have hw2 : wrap64 (4 * bytesM s) = 4 * bytesM s := wrap64_id (by omega) (by omega)
      have hw3 : wrap64 (a + bytesM s - 4 * bytesM s) = a + bytesM s - 4 * bytesM s := wrap64_id (by omega) (by omega)
      have hn : ¬ 4 * bytesM s = 0 := by omega
      have hm : Int.tmod (a + bytesM s) (4 * bytesM s) = (a + bytesM s) % (4 * bytesM s) := tmod_pos (by omega)
      have h5 : decide (0 ≤ a ∧ a ≤ 511) = true := by simp; omega
      have h6 : ¬ a ≥ 512 := by omega
      by_cases h4 : beatsM b = 0
      · simp [h, h4, h5, h6]
      · by_cases h7 : b = 2
        · subst h7; simp only [h, h3, h4, h5, h6, hw1, hw2, hw3, hn, hm, if_true, if_false, beq_iff_eq, decide_true, decide_false, and_self, ne_eq, not_false_eq_true, true_and, Bool.false_eq_true, beq_eq_false_iff_ne]
          split <;> rfl
        · simp [h, h3, h4, h5, h6, h7, hw1]
    · have h5 : decide (0 ≤ a ∧ a ≤ 511) = false := by simp; omega
      have h6 : a ≥ 512 := by omega
      have h5' : ¬ (0 ≤ a ∧ a ≤ 511) := by omega
      simp [h, h3, h5', h6]
  · simp [h]

theorem impl_burst_loop (s b : Int) (d : Nat) : ∀ (k : Nat) (a : Int) (acc : List Int) (i : Nat), (i : Int) + d = beatsM b → acc.length = i → d + 2 ≤ k →
    impl_BurstAddrs.l0 k a s b acc (beatsM b) i = some (match chainM d a s b with | some l => acc ++ l | none => []) := by
  have hb := beatsM_le b
  induction d with
  | zero =>
    intro k a acc i hd hl hk
    obtain ⟨k, rfl⟩ : ∃ m, k = m + 1 := ⟨k - 1, by omega⟩
    have h : ¬ (i : Int) < beatsM b := by omega
    simp only [impl_BurstAddrs.l0]; rw [if_neg h]; simp [chainM]
  | succ d ih =>
    intro k a acc i hd hl hk
    obtain ⟨k, rfl⟩ : ∃ m, k = m + 1 + 1 := ⟨k - 2, by omega⟩
    have h : (i : Int) < beatsM b := by omega
    have hl' : acc.length < 17592186044416 := by omega
    have hi1 : wrap64 ((i : Int) + 1) = ((i + 1 : Nat) : Int) := by unfold wrap64; omega
    rw [impl_BurstAddrs.l0]; simp only [impl_next, Option.bind_some]; rw [if_pos h]
    simp only [chainM]
    by_cases hn : nextM a s b < 0
    · rw [if_pos hn, if_pos hn]
    · rw [if_neg hn, if_pos hl', if_neg hn, hi1, ih (k + 1) _ _ (i + 1) (by omega) (by simp; omega) (by omega)]
      cases chainM d (nextM a s b) s b <;> simp
theorem impl_burst (k : Nat) (a s b : Int) : impl_BurstAddrs.f (k + 10) a s b = some (burstM a s b) := by
  have hb := beatsM_le b
  unfold impl_BurstAddrs.f burstM
  rw [impl_beats]; simp only [Option.bind_some]
  have := impl_burst_loop s b (beatsM b).toNat (k + 10) a [] 0 (by omega) rfl (by omega)
  rw [show ((0 : Nat) : Int) = 0 from rfl] at this
  rw [this]
  cases chainM (beatsM b).toNat a s b <;> simp

theorem impl_page_loop (l : List Int) (hl : l.length ≤ 1099511627776) (d : Nat) : ∀ (k i : Nat), i + d = l.length → d < k →
    impl_BurstOk.l0 k l l (l.length : Int) i = some ((l.drop i).all (fun x => pgM x == pgM (rd l 0)) && decide ((l.length : Int) > 0)) := by
  induction d with
  | zero =>
    intro k i hi hk
    obtain ⟨k, rfl⟩ : ∃ m, k = m + 1 := ⟨k - 1, by omega⟩
    have h : ¬ (i : Int) < (l.length : Int) := by omega
    simp only [impl_BurstOk.l0]; rw [if_neg h, List.drop_eq_nil_of_le (by omega)]; simp
  | succ d ih =>
    intro k i hi hk
    obtain ⟨k, rfl⟩ : ∃ m, k = m + 1 := ⟨k - 1, by omega⟩
    have h : (i : Int) < (l.length : Int) := by omega
    have h0 : (0 : Int) ≤ (i : Int) := by omega
    have hp : (0 : Int) < (l.length : Int) := by omega
    have hil : i < l.length := by omega
    simp only [impl_BurstOk.l0]; rw [if_pos h, if_pos h0, if_pos h, if_pos hp, wrap_succ (n := l.length) (by omega) hl, ih k (i + 1) (by omega) (by omega), rd_nat _ _ hil, List.drop_eq_getElem_cons hil]
    simp only [List.all_cons]
    by_cases e : pgM l[i] = pgM (rd l 0)
    · have e' : wrap64 (Int.tdiv l[i] 64) = wrap64 (Int.tdiv (rd l 0) 64) := e
      rw [if_pos e', e]; simp
    · have e' : ¬ wrap64 (Int.tdiv l[i] 64) = wrap64 (Int.tdiv (rd l 0) 64) := e
      rw [if_neg e']; simp [e]
theorem impl_burstok (k : Nat) (a s b : Int) : impl_BurstOk.f (k + 10) a s b = some (pageM (burstM a s b)) := by
  have hl := burstM_length a s b
  unfold impl_BurstOk.f; rw [impl_burst]; simp only [Option.bind_some]
  have := impl_page_loop (burstM a s b) (by omega) (burstM a s b).length (k + 10) 0 (by omega) (by omega)
  simpa [pageM] using this

theorem FnExactBurstOk : laws_FnExactBurstOk.Pure := by
  intro a s b _ _ _
  suffices key : ∀ k, 10 ≤ k → laws_FnExactBurstOk.f k a s b = some true from ⟨10, key 10 (by omega)⟩
  intro k hk
  obtain ⟨j, rfl⟩ : ∃ m, k = m + 10 := ⟨k - 10, by omega⟩
  unfold laws_FnExactBurstOk.f
  simp only [spec_burstok, impl_burstok, Option.bind_some]
  simp

end Go.Proofs.Ytbljihnmljcgiaa.Pure
