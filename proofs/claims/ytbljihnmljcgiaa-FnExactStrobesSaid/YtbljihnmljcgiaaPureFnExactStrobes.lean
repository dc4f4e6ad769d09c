/- The program's Strobes answers as the reference's, in memory of its own, for every two ints. -/
import Derived.Test.YtbljihnmljcgiaaPFnExactStrobesx
namespace Go.Proofs.Ytbljihnmljcgiaa.Pure
open Go.RowKit Go.Proofs.Ytbljihnmljcgiaa.PFnExactStrobes Go.Proofs.YtbljihnmljcgiaaW.PrintWords Go.Proofs.YtbljihnmljcgiaaW.PrintLast Go.Proofs.YtbljihnmljcgiaaW.PrintMore
set_option linter.unusedVariables false
set_option linter.unusedSimpArgs false

theorem spec_in (a b c : Int) : spec_l1In.f a b c = some (decide (b ≤ a ∧ a ≤ c)) := by
  unfold spec_l1In.f; by_cases h : b ≤ a
  · rw [if_pos h]; simp [h]
  · rw [if_neg h]; simp [h]

/-- How many bytes a size has. -/
def bytesM (s : Int) : Int := if s = 0 then 1 else if s = 1 then 2 else if s = 2 then 4 else 0
theorem bytesM_cases (s : Int) : (s = 0 ∧ bytesM s = 1) ∨ (s = 1 ∧ bytesM s = 2) ∨ (s = 2 ∧ bytesM s = 4) ∨ (¬ (0 ≤ s ∧ s ≤ 2) ∧ bytesM s = 0) := by
  unfold bytesM; split
  · left; omega
  · split
    · right; left; omega
    · split
      · right; right; left; omega
      · right; right; right; omega
theorem shl_1_0 : shl .i64 1 0 = 1 := by decide
theorem shl_1_1 : shl .i64 1 1 = 2 := by decide
theorem shl_1_2 : shl .i64 1 2 = 4 := by decide

theorem spec_bytes (s : Int) : spec_BytesOf.f s = some (bytesM s) := by
  unfold spec_BytesOf.f; rw [spec_in]
  rcases bytesM_cases s with ⟨rfl, h⟩ | ⟨rfl, h⟩ | ⟨rfl, h⟩ | ⟨h0, h⟩
  · rfl
  · rfl
  · rfl
  · rw [h]; simp [h0]

/-- An address fits a size. -/
def alignedM (a s : Int) : Bool := decide (0 ≤ a ∧ 0 ≤ s ∧ s ≤ 2 ∧ a % bytesM s = 0)
theorem tmod_pos {a b : Int} (h : 0 ≤ a) : Int.tmod a b = a % b := Int.tmod_eq_emod_of_nonneg h

theorem spec_aligned (a s : Int) : spec_Aligned.f a s = some (alignedM a s) := by
  unfold spec_Aligned.f alignedM; rw [spec_bytes]
  by_cases ha : 0 ≤ a
  · rcases bytesM_cases s with ⟨rfl, h⟩ | ⟨rfl, h⟩ | ⟨rfl, h⟩ | ⟨h0, h⟩
    · rw [h]; simp [ha]
    · rw [h]; simp [ha, tmod_pos ha]; rfl
    · rw [h]; simp [ha, tmod_pos ha]; rfl
    · rw [h]; simp; intros; omega
  · rcases bytesM_cases s with ⟨rfl, h⟩ | ⟨rfl, h⟩ | ⟨rfl, h⟩ | ⟨h0, h⟩ <;> rw [h] <;> simp [ha]

theorem impl_in (a b c : Int) : impl_within.f a b c = some (decide (b ≤ a ∧ a ≤ c)) := by
  unfold impl_within.f; by_cases h : b ≤ a
  · rw [if_pos h]; simp [h]
  · rw [if_neg h]; simp [h]

theorem impl_bytes (s : Int) : impl_BytesOf.f s = some (bytesM s) := by
  unfold impl_BytesOf.f; rw [impl_in]
  rcases bytesM_cases s with ⟨rfl, h⟩ | ⟨rfl, h⟩ | ⟨rfl, h⟩ | ⟨h0, h⟩
  · rfl
  · rfl
  · rfl
  · rw [h]; simp [h0]

theorem impl_aligned (a s : Int) : impl_Aligned.f a s = some (alignedM a s) := by
  unfold impl_Aligned.f alignedM; rw [impl_in, impl_bytes]
  by_cases ha : 0 ≤ a
  · rcases bytesM_cases s with ⟨rfl, h⟩ | ⟨rfl, h⟩ | ⟨rfl, h⟩ | ⟨h0, h⟩
    · rw [h]; simp [ha]
    · rw [h]; simp [ha, tmod_pos ha]; rfl
    · rw [h]; simp [ha, tmod_pos ha]; rfl
    · rw [h]; simp [h0]; intros; omega
  · rcases bytesM_cases s with ⟨rfl, h⟩ | ⟨rfl, h⟩ | ⟨rfl, h⟩ | ⟨h0, h⟩ <;> rw [h] <;> simp [ha]

theorem wf_of {a : Int} (h : (Lit.int .i64 a).wf = true) : -9223372036854775808 ≤ a ∧ a ≤ 9223372036854775807 := by
  simp [Lit.wf, IntKind.min, IntKind.max, IntKind.signed, IntKind.bits] at h; omega
theorem pow_le_i (b i j : Nat) (h0 : 0 < b) (h : i ≤ j) : (b : Int) ^ i ≤ (b : Int) ^ j := by
  have h1 := Nat.pow_le_pow_right h0 h
  have h2 : ((b ^ i : Nat) : Int) ≤ ((b ^ j : Nat) : Int) := Int.ofNat_le.2 h1
  rwa [Int.natCast_pow, Int.natCast_pow] at h2
theorem wrap64_id {a : Int} (h0 : -9223372036854775808 ≤ a) (h1 : a ≤ 9223372036854775807) : wrap64 a = a := by unfold wrap64; omega

theorem wrap_succ {i n : Nat} (h : i < n) (hn : n ≤ 1099511627776) : wrap64 ((i : Int) + 1) = ((i + 1 : Nat) : Int) := by unfold wrap64; omega
theorem rd_nat (l : List Int) (i : Nat) (h : i < l.length) : rd l (i : Int) = l[i] := by
  unfold rd; simp [List.getD_eq_getElem?_getD, List.getElem?_eq_getElem h]
theorem rdOf_nat {α : Type} (d : α) (l : List α) (i : Nat) (h : i < l.length) : rdOf d l (i : Int) = l[i] := by
  unfold rdOf; simp [List.getD_eq_getElem?_getD, List.getElem?_eq_getElem h]
theorem set_take {α : Type} (l : List α) (i : Nat) (x : α) (h : i < l.length) : (l.set i x).take (i + 1) = l.take i ++ [x] := by
  rw [List.take_succ_eq_append_getElem (by simpa using h), List.take_set, List.set_eq_of_length_le (by simp; omega)]; simp
theorem set_drop {α : Type} (l : List α) (i : Nat) (x : α) : (l.set i x).drop (i + 1) = l.drop (i + 1) := by
  rw [List.drop_set]; simp

theorem eqBoolS_loop (l : List Bool) (hl : l.length ≤ 1099511627776) (d : Nat) : ∀ (k i : Nat), i + d = l.length → d < k → laws_eqBoolS.l0 k l l i = some true := by
  induction d with
  | zero =>
    intro k i hi hk
    obtain ⟨k, rfl⟩ : ∃ m, k = m + 1 := ⟨k - 1, by omega⟩
    have h : ¬ (i : Int) < (l.length : Int) := by omega
    simp only [laws_eqBoolS.l0]; rw [if_neg h]
  | succ d ih =>
    intro k i hi hk
    obtain ⟨k, rfl⟩ : ∃ m, k = m + 1 := ⟨k - 1, by omega⟩
    have h : (i : Int) < (l.length : Int) := by omega
    have h0 : (0 : Int) ≤ (i : Int) := by omega
    have e := ih k (i + 1) (by omega) (by omega)
    simp only [laws_eqBoolS.l0]; rw [if_pos h, if_pos h0, if_pos h, wrap_succ (n := l.length) (by omega) hl]
    simp only [bne_self_eq_false, Bool.false_eq_true, if_false]; exact e
theorem eqBoolS_refl (l : List Bool) (hl : l.length ≤ 1099511627776) (k : Nat) (hk : l.length < k) : laws_eqBoolS.f k l l = some true := by
  unfold laws_eqBoolS.f; rw [if_pos rfl]; exact eqBoolS_loop l hl l.length k 0 (by omega) hk

/-- What marking lays. -/
def seqBool : Int → Nat → List Bool
  | _, 0 => []
  | a, d + 1 => ((Int.tmod a 3) == 0) :: seqBool (a + 1) d
theorem seqBool_length (d : Nat) : ∀ a, (seqBool a d).length = d := by
  induction d with
  | zero => intro a; rfl
  | succ d ih => intro a; simp [seqBool, ih]
theorem markBoolS_loop (d : Nat) : ∀ (k : Nat) (l : List Bool) (a : Int) (i : Nat), l.length ≤ 1099511627776 → 0 ≤ a → a + d ≤ 4611686018427387904 → i + d = l.length → d < k →
    laws_markBoolS.l0 k l a i = some (a + d, l.take i ++ seqBool a d) := by
  induction d with
  | zero =>
    intro k l a i hl ha hb hi hk
    obtain ⟨k, rfl⟩ : ∃ m, k = m + 1 := ⟨k - 1, by omega⟩
    have h : ¬ (i : Int) < (l.length : Int) := by omega
    simp only [laws_markBoolS.l0]; rw [if_neg h]; simp [seqBool, List.take_of_length_le (show l.length ≤ i by omega)]
  | succ d ih =>
    intro k l a i hl ha hb hi hk
    obtain ⟨k, rfl⟩ : ∃ m, k = m + 1 := ⟨k - 1, by omega⟩
    have h : (i : Int) < (l.length : Int) := by omega
    have h0 : (0 : Int) ≤ (i : Int) := by omega
    have hw : wrap64 (a + 1) = a + 1 := wrap64_id (by omega) (by omega)
    simp only [laws_markBoolS.l0]; rw [if_pos h, if_pos h0, wrap_succ (n := l.length) (by omega) hl, hw, Int.toNat_natCast, ih k _ _ (i + 1) (by simpa using hl) (by omega) (by omega) (by simp; omega) (by omega)]
    rw [set_take _ _ _ (by omega)]
    simp [seqBool]; omega
theorem markBoolS_all (k : Nat) (l : List Bool) (a : Int) (hl : l.length ≤ 1099511627776) (ha : 0 ≤ a) (hb : a ≤ 2305843009213693952) (hk : l.length < k) :
    laws_markBoolS.f k l a = some (a + l.length, seqBool a l.length) := by
  unfold laws_markBoolS.f
  have := markBoolS_loop l.length k l a 0 hl ha (by omega) (by omega) hk
  simpa using this

theorem heldBoolS_loop (d : Nat) : ∀ (k : Nat) (l : List Bool) (a : Int) (i : Nat), l.length ≤ 1099511627776 → 0 ≤ a → a + d ≤ 4611686018427387904 → i + d = l.length → l.drop i = seqBool a d → d < k →
    laws_heldBoolS.l0 k l a i = some (a + d) := by
  induction d with
  | zero =>
    intro k l a i hl ha hb hi he hk
    obtain ⟨k, rfl⟩ : ∃ m, k = m + 1 := ⟨k - 1, by omega⟩
    have h : ¬ (i : Int) < (l.length : Int) := by omega
    simp only [laws_heldBoolS.l0]; rw [if_neg h]; simp
  | succ d ih =>
    intro k l a i hl ha hb hi he hk
    obtain ⟨k, rfl⟩ : ∃ m, k = m + 1 := ⟨k - 1, by omega⟩
    have h : (i : Int) < (l.length : Int) := by omega
    have h0 : (0 : Int) ≤ (i : Int) := by omega
    have hw : wrap64 (a + 1) = a + 1 := wrap64_id (by omega) (by omega)
    have hil : i < l.length := by omega
    rw [List.drop_eq_getElem_cons hil] at he
    simp only [seqBool, List.cons.injEq] at he
    have e := ih k l (a + 1) (i + 1) hl (by omega) (by omega) (by omega) he.2 (by omega)
    simp only [laws_heldBoolS.l0]; rw [if_pos h, if_pos h0, rdOf_nat _ _ _ hil, he.1, wrap_succ (n := l.length) (by omega) hl, hw]
    simp only [bne_self_eq_false, Bool.false_eq_true, if_false]; rw [e]; congr 1; omega
theorem heldBoolS_all (k n : Nat) (a : Int) (hl : n ≤ 1099511627776) (ha : 0 ≤ a) (hb : a ≤ 2305843009213693952) (hk : n < k) :
    laws_heldBoolS.f k (seqBool a n) a = some (a + n) := by
  unfold laws_heldBoolS.f
  exact heldBoolS_loop n k _ a 0 (by rw [seqBool_length]; exact hl) ha (by omega) (by rw [seqBool_length]; omega) (by simp) hk

/-- The lanes that are used. -/
def strobesM (a s : Int) : List Bool :=
  if alignedM a s = true then (List.range 4).map fun (j : Nat) => decide (a % 4 ≤ (j : Int) ∧ (j : Int) ≤ a % 4 + bytesM s - 1) else []
theorem spec_strobes_at (k : Nat) (a s m : Int) (hm : Int.tmod a 4 = m) (h : m = 0 ∧ s = 0 ∨ m = 1 ∧ s = 0 ∨ m = 2 ∧ s = 0 ∨ m = 3 ∧ s = 0 ∨ m = 0 ∧ s = 1 ∨ m = 2 ∧ s = 1 ∨ m = 0 ∧ s = 2) :
    spec_Strobes.l0 (k + 5) a s (List.replicate 4 false) 0 = some ((List.range 4).map fun (j : Nat) => decide (m ≤ (j : Int) ∧ (j : Int) ≤ m + bytesM s - 1)) := by
  have b0 : bytesM 0 = 1 := rfl
  have b1 : bytesM 1 = 2 := rfl
  have b2 : bytesM 2 = 4 := rfl
  rcases h with ⟨rfl, rfl⟩ | ⟨rfl, rfl⟩ | ⟨rfl, rfl⟩ | ⟨rfl, rfl⟩ | ⟨rfl, rfl⟩ | ⟨rfl, rfl⟩ | ⟨rfl, rfl⟩ <;>
    simp [spec_Strobes.l0, spec_bytes, hm, wrap64, b0, b1, b2, List.range, List.range.loop, List.replicate]
theorem impl_strobes_at (k : Nat) (a s m : Int) (hm : Int.tmod a 4 = m) (h : m = 0 ∧ s = 0 ∨ m = 1 ∧ s = 0 ∨ m = 2 ∧ s = 0 ∨ m = 3 ∧ s = 0 ∨ m = 0 ∧ s = 1 ∨ m = 2 ∧ s = 1 ∨ m = 0 ∧ s = 2) :
    impl_Strobes.l0 (k + 5) a s [] 0 = some ((List.range 4).map fun (j : Nat) => decide (m ≤ (j : Int) ∧ (j : Int) ≤ m + bytesM s - 1)) := by
  have b0 : bytesM 0 = 1 := rfl
  have b1 : bytesM 1 = 2 := rfl
  have b2 : bytesM 2 = 4 := rfl
  rcases h with ⟨rfl, rfl⟩ | ⟨rfl, rfl⟩ | ⟨rfl, rfl⟩ | ⟨rfl, rfl⟩ | ⟨rfl, rfl⟩ | ⟨rfl, rfl⟩ | ⟨rfl, rfl⟩ <;>
    simp [impl_Strobes.l0, impl_bytes, impl_in, hm, wrap64, b0, b1, b2, List.range, List.range.loop]
theorem lanes (a s : Int) (h : alignedM a s = true) : a % 4 = 0 ∧ s = 0 ∨ a % 4 = 1 ∧ s = 0 ∨ a % 4 = 2 ∧ s = 0 ∨ a % 4 = 3 ∧ s = 0 ∨ a % 4 = 0 ∧ s = 1 ∨ a % 4 = 2 ∧ s = 1 ∨ a % 4 = 0 ∧ s = 2 := by
  simp [alignedM] at h
  obtain ⟨h0, _, _, h1⟩ := h
  rcases bytesM_cases s with ⟨rfl, h⟩ | ⟨rfl, h⟩ | ⟨rfl, h⟩ | ⟨h', h⟩ <;> rw [h] at h1 <;> omega
theorem spec_strobes (k : Nat) (a s : Int) : spec_Strobes.f (k + 5) a s = some (strobesM a s) := by
  unfold spec_Strobes.f strobesM; rw [spec_aligned]; simp only [Option.bind_some]
  by_cases h : alignedM a s = true
  · have h0 : 0 ≤ a := by simp [alignedM] at h; omega
    rw [if_pos h, if_pos h, if_pos (by omega), spec_strobes_at k a s (a % 4) (tmod_pos h0) (lanes a s h)]
  · rw [if_neg h, if_neg h]
theorem impl_strobes (k : Nat) (a s : Int) : impl_Strobes.f (k + 5) a s = some (strobesM a s) := by
  unfold impl_Strobes.f strobesM; rw [impl_aligned]; simp only [Option.bind_some]
  by_cases h : alignedM a s = true
  · have h0 : 0 ≤ a := by simp [alignedM] at h; omega
    rw [if_pos h, if_pos h, impl_strobes_at k a s (a % 4) (tmod_pos h0) (lanes a s h)]
  · rw [if_neg h, if_neg h]
theorem strobesM_length (a s : Int) : (strobesM a s).length ≤ 4 := by unfold strobesM; split <;> simp
theorem FnExactStrobes : laws_FnExactStrobes.Pure := by
  intro a s _ _
  have hl := strobesM_length a s
  suffices key : ∀ k, 10 ≤ k → laws_FnExactStrobes.f k a s = some true from ⟨10, key 10 (by omega)⟩
  intro k hk
  obtain ⟨j, rfl⟩ : ∃ m, k = m + 5 := ⟨k - 5, by omega⟩
  unfold laws_FnExactStrobes.f
  simp only [spec_strobes, impl_strobes, Option.bind_some]
  rw [eqBoolS_refl _ (by omega) _ (by omega), markBoolS_all _ _ _ (by omega) (by omega) (by omega) (by omega)]
  simp only [Option.bind_some, if_true]
  rw [heldBoolS_all _ _ _ (by omega) (by omega) (by omega) (by omega)]
  simp only [Option.bind_some]
  have h : ¬ (1 : Int) + ((strobesM a s).length : Int) < 0 := by omega
  simp [h]

end Go.Proofs.Ytbljihnmljcgiaa.Pure
