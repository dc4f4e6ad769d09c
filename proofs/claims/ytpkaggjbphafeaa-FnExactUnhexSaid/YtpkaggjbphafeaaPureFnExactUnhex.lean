/- The program's Unhex answers as the reference's, for every string. -/
import Derived.Test.YtpkaggjbphafeaaMFnExactUnhexx
namespace Go.Proofs.Ytpkaggjbphafeaa.Pure
open Go.RowKit Go.Proofs.Ytpkaggjbphafeaa.MFnExactUnhex Go.Proofs.YtpkaggjbphafeaaW.PrintWords Go.Proofs.YtpkaggjbphafeaaW.PrintLast Go.Proofs.YtpkaggjbphafeaaW.PrintMore
set_option linter.unusedVariables false
set_option linter.unusedSimpArgs false
set_option maxHeartbeats 4000000

theorem wf_of {a : Int} (h : (Lit.int .i64 a).wf = true) : -9223372036854775808 ≤ a ∧ a ≤ 9223372036854775807 := by
  simp [Lit.wf, IntKind.min, IntKind.max, IntKind.signed, IntKind.bits] at h; omega
theorem pow_le_i (b i j : Nat) (h0 : 0 < b) (h : i ≤ j) : (b : Int) ^ i ≤ (b : Int) ^ j := by
  have h1 := Nat.pow_le_pow_right h0 h
  have h2 : ((b ^ i : Nat) : Int) ≤ ((b ^ j : Nat) : Int) := Int.ofNat_le.2 h1
  rwa [Int.natCast_pow, Int.natCast_pow] at h2
theorem wrap64_id {a : Int} (h0 : -9223372036854775808 ≤ a) (h1 : a ≤ 9223372036854775807) : wrap64 a = a := by unfold wrap64; omega

def dg : List UInt8 := [48, 49, 50, 51, 52, 53, 54, 55, 56, 57, 97, 98, 99, 100, 101, 102]
theorem dig_at (v : Int) (h0 : 0 ≤ v) (h1 : v < 16) : spec_l1Digit.f v = some (bt (⟨#[48, 49, 50, 51, 52, 53, 54, 55, 56, 57, 97, 98, 99, 100, 101, 102]⟩ : ByteArray) v) := by
  unfold spec_l1Digit.f; rw [if_pos h0, if_pos h1]
theorem bt_dg : ∀ i : Fin 16, bt (⟨#[48, 49, 50, 51, 52, 53, 54, 55, 56, 57, 97, 98, 99, 100, 101, 102]⟩ : ByteArray) (i.val : Int) = ((dg[i.val]'(by simp [dg])).toNat : Int) := by decide
theorem same_byte (u : UInt8) (c : Int) (h : 0 ≤ c ∧ c ≤ 255) : (u == c.toNat.toUInt8) = decide ((u.toNat : Int) = c) := by
  have hc : (c.toNat.toUInt8).toNat = c.toNat := by rw [Nat.toUInt8, UInt8.toNat_ofNat']; omega
  by_cases e : (u.toNat : Int) = c
  · rw [decide_eq_true e]; rw [beq_iff_eq]; apply UInt8.toNat_inj.1; rw [hc]; omega
  · rw [decide_eq_false e]; rw [beq_eq_false_iff_ne]; intro h'; rw [h', hc] at e; omega
theorem drop_dg (i : Nat) (h : i < 16) : dg.drop i = dg[i]'(by simp [dg]; omega) :: dg.drop (i + 1) := List.drop_eq_getElem_cons (by simp [dg]; omega)
theorem wrap_next (i : Nat) (h : i ≤ 2097152) : wrap64 ((i : Int) + 1) = ((i + 1 : Nat) : Int) := by rw [wrap64_id (by omega) (by omega)]; rfl
theorem wrap_two (i : Nat) (h : i ≤ 2097152) : wrap64 ((i : Int) + 2) = ((i + 2 : Nat) : Int) := by rw [wrap64_id (by omega) (by omega)]; rfl
theorem from_hex (c : Int) (hc : 0 ≤ c ∧ c ≤ 255) (d : Nat) : ∀ (k i : Nat), i + d = 16 → d < k →
    spec_l1FromHex.l0 k c (i : Int) = some (if Lib.indexByte (dg.drop i) c.toNat.toUInt8 = -1 then -1 else (i : Int) + Lib.indexByte (dg.drop i) c.toNat.toUInt8) := by
  induction d with
  | zero =>
    intro k i hi hk
    obtain ⟨k, rfl⟩ : ∃ m, k = m + 1 := ⟨k - 1, by omega⟩
    obtain rfl : i = 16 := by omega
    rw [spec_l1FromHex.l0, if_neg (by decide)]; simp [dg, Lib.indexByte]
  | succ d ih =>
    intro k i hi hk
    obtain ⟨k, rfl⟩ : ∃ m, k = m + 1 := ⟨k - 1, by omega⟩
    have h16 : i < 16 := by omega
    have e := ih k (i + 1) (by omega) (by omega)
    have hg := Lib.indexByte_ge (dg.drop (i + 1)) c.toNat.toUInt8
    have hb := bt_dg ⟨i, h16⟩
    have hs := same_byte (dg[i]'(by simp [dg]; omega)) c hc
    have hw := wrap_next i (by omega)
    rw [spec_l1FromHex.l0, if_pos (show (i : Int) < 16 by omega), dig_at _ (by omega) (by omega)]; simp only [Option.bind_some]
    simp only [] at hb
    rw [hb, drop_dg i h16, Lib.indexByte, hs, hw, e]
    clear hw hb hs e ih
    generalize Lib.indexByte (dg.drop (i + 1)) c.toNat.toUInt8 = x at *
    by_cases he : ((dg[i]'(by simp [dg]; omega)).toNat : Int) = c
    · rw [if_pos he, decide_eq_true he]; simp
    · rw [if_neg he, decide_eq_false he]; simp only [Bool.false_eq_true, if_false]
      by_cases hx : x = -1
      · rw [if_pos hx, hx]; simp
      · have hx2 : ¬ x + 1 = -1 := by omega
        have hx3 : (x == -1) = false := by rw [beq_eq_false_iff_ne]; exact hx
        rw [if_neg hx, hx3]; simp only [Bool.false_eq_true, if_false]
        rw [if_neg hx2]; congr 1; omega
theorem from_hex0 (k : Nat) (hk : 17 ≤ k) (c : Int) (hc : 0 ≤ c ∧ c ≤ 255) : spec_l1FromHex.f k c = some (Lib.indexByte dg c.toNat.toUInt8) := by
  unfold spec_l1FromHex.f
  have e := from_hex c hc 16 k 0 rfl (by omega)
  rw [show ((0 : Nat) : Int) = 0 from rfl] at e
  rw [e, List.drop_zero]
  by_cases hx : Lib.indexByte dg c.toNat.toUInt8 = -1
  · rw [if_pos hx, hx]
  · rw [if_neg hx, Int.zero_add]
theorem index_dg (c : Int) : strings_IndexByte.f (⟨#[48, 49, 50, 51, 52, 53, 54, 55, 56, 57, 97, 98, 99, 100, 101, 102]⟩ : ByteArray) c = some (Lib.indexByte dg c.toNat.toUInt8) := rfl
theorem hex_one (k : Nat) (hk : 17 ≤ k) (c : Int) (hc : 0 ≤ c ∧ c ≤ 255) : ∃ x, spec_l1FromHex.f k c = some x ∧ strings_IndexByte.f (⟨#[48, 49, 50, 51, 52, 53, 54, 55, 56, 57, 97, 98, 99, 100, 101, 102]⟩ : ByteArray) c = some x :=
  ⟨_, from_hex0 k hk c hc, index_dg c⟩
theorem unhex_both (s : ByteArray) (hn : s.size ≤ 1048576) (d : Nat) : ∀ (k : Nat) (acc : List Int) (i : Nat), i + 2 * d = s.size → acc.length ≤ i → d + 17 < k →
    ∃ r, spec_Unhex.l0 k s acc i = some r ∧ impl_Unhex.l0 k s acc i = some r := by
  induction d with
  | zero =>
    intro k acc i hi hl hk
    obtain ⟨k, rfl⟩ : ∃ m, k = m + 1 := ⟨k - 1, by omega⟩
    have h : ¬ (i : Int) < (s.size : Int) := by omega
    exact ⟨_, by rw [spec_Unhex.l0, if_neg h], by rw [impl_Unhex.l0, if_neg h]⟩
  | succ d ih =>
    intro k acc i hi hl hk
    obtain ⟨k, rfl⟩ : ∃ m, k = m + 1 := ⟨k - 1, by omega⟩
    have hk7 : 17 ≤ k := by omega
    have h : (i : Int) < (s.size : Int) := by omega
    have h0 : (0 : Int) ≤ (i : Int) := by omega
    have h1 : ((i + 1 : Nat) : Int) < (s.size : Int) := by omega
    have h2 : (0 : Int) ≤ ((i + 1 : Nat) : Int) := by omega
    have c5 : acc.length < 140737488355328 := by omega
    have hi2 : (i + 2) + 2 * d = s.size := by omega
    have hk2 : d + 17 < k := by omega
    have hi3 : i ≤ 2097152 := by omega
    obtain ⟨x, x1, x2⟩ := hex_one k hk7 _ (bt_range s (i : Int))
    obtain ⟨y, y1, y2⟩ := hex_one k hk7 _ (bt_range s ((i + 1 : Nat) : Int))
    rw [spec_Unhex.l0, impl_Unhex.l0, if_pos h, if_pos h0, if_pos h, if_pos h0, x1, x2, Option.bind_some, Option.bind_some]
    rw [wrap_next i hi3, if_pos h2, if_pos h1, if_pos h2, if_pos h1, y1, y2, Option.bind_some, Option.bind_some]
    by_cases hx : x < 0
    · rw [if_pos hx, if_pos hx]; exact ⟨_, rfl, rfl⟩
    · rw [if_neg hx, if_neg hx]
      by_cases hy : y < 0
      · rw [if_pos hy, if_pos hy]; exact ⟨_, rfl, rfl⟩
      · rw [if_neg hy, if_neg hy, if_pos c5, if_pos c5, wrap_two i hi3]
        exact ih k _ (i + 2) hi2 (by rw [List.length_append, List.length_singleton]; omega) hk2
theorem FnExactUnhex : laws_FnExactUnhex.Pure := by
  intro s _
  refine ⟨s.size + 20, ?_⟩
  unfold laws_FnExactUnhex.f
  by_cases h : (s.size : Int) > 1048576
  · rw [if_pos h]
  · rw [if_neg h]; unfold spec_Unhex.f impl_Unhex.f
    by_cases h2 : ((s.size : Int) % 2) = 1
    · have h3 : ¬ ((s.size : Int) % 2) = 0 := by omega
      rw [if_pos h2, if_neg h3]; simp
    · have h3 : ((s.size : Int) % 2) = 0 := by omega
      rw [if_neg h2, if_pos h3]
      obtain ⟨r, e1, e2⟩ := unhex_both s (by omega) (s.size / 2) (s.size + 20) [] 0 (by omega) (by simp) (by omega)
      rw [show ((0 : Nat) : Int) = 0 from rfl] at e1 e2
      rw [e1]; simp only [Option.bind_some]; rw [e2]; simp

end Go.Proofs.Ytpkaggjbphafeaa.Pure
