/- The program's Hex answers as the reference's, for every string. -/
import Derived.Test.YtpkaggjbphafeaaPFnExactHexx
namespace Go.Proofs.Ytpkaggjbphafeaa.Pure
open Go.RowKit Go.Proofs.Ytpkaggjbphafeaa.PFnExactHex Go.Proofs.YtpkaggjbphafeaaW.PrintWords Go.Proofs.YtpkaggjbphafeaaW.PrintLast Go.Proofs.YtpkaggjbphafeaaW.PrintMore
set_option linter.unusedVariables false
set_option linter.unusedSimpArgs false

theorem wf_of {a : Int} (h : (Lit.int .i64 a).wf = true) : -9223372036854775808 ≤ a ∧ a ≤ 9223372036854775807 := by
  simp [Lit.wf, IntKind.min, IntKind.max, IntKind.signed, IntKind.bits] at h; omega
theorem wrap64_id {a : Int} (h0 : -9223372036854775808 ≤ a) (h1 : a ≤ 9223372036854775807) : wrap64 a = a := by unfold wrap64; omega

theorem dig_at (v : Int) (h0 : 0 ≤ v) (h1 : v < 16) : spec_l1Digit.f v = some (bt (⟨#[48, 49, 50, 51, 52, 53, 54, 55, 56, 57, 97, 98, 99, 100, 101, 102]⟩ : ByteArray) v) := by
  unfold spec_l1Digit.f; rw [if_pos h0, if_pos h1]
theorem hex_both (s : ByteArray) (hn : s.size ≤ 1048576) (d : Nat) : ∀ (k : Nat) (acc : List Int) (i : Nat), i + d = s.size → acc.length = 2 * i → d < k →
    ∃ r, spec_Hex.l0 k s acc i = some r ∧ impl_Hex.l0 k s acc (s.size : Int) i = some r := by
  induction d with
  | zero =>
    intro k acc i hi hl hk
    obtain ⟨k, rfl⟩ : ∃ m, k = m + 1 := ⟨k - 1, by omega⟩
    have h : ¬ (i : Int) < (s.size : Int) := by omega
    exact ⟨_, by simp only [spec_Hex.l0]; rw [if_neg h], by simp only [impl_Hex.l0]; rw [if_neg h]⟩
  | succ d ih =>
    intro k acc i hi hl hk
    obtain ⟨k, rfl⟩ : ∃ m, k = m + 1 := ⟨k - 1, by omega⟩
    have h : (i : Int) < (s.size : Int) := by omega
    have h0 : (0 : Int) ≤ (i : Int) := by omega
    have hb := bt_range s i
    have hw : wrap64 (bt s i) = bt s i := wrap64_id (by omega) (by omega)
    have hi1 : wrap64 ((i : Int) + 1) = ((i + 1 : Nat) : Int) := by unfold wrap64; omega
    have hd : Int.tdiv (bt s i) 16 = bt s i / 16 := Int.tdiv_eq_ediv_of_nonneg hb.1
    have hm : Int.tmod (bt s i) 16 = bt s i % 16 := Int.tmod_eq_emod_of_nonneg hb.1
    have ha : Go.bits .and .u8 (bt s i) 15 = bt s i % 16 := u8_and15 _ hb.1 (by omega)
    have hw2 : wrap64 (bt s i / 16) = bt s i / 16 := wrap64_id (by omega) (by omega)
    have c1 : (0 : Int) ≤ bt s i / 16 := by omega
    have c2 : bt s i / 16 < 16 := by omega
    have c3 : (0 : Int) ≤ bt s i % 16 := by omega
    have c4 : bt s i % 16 < 16 := by omega
    obtain ⟨r, h1, h2⟩ := ih k (acc ++ [bt (⟨#[48, 49, 50, 51, 52, 53, 54, 55, 56, 57, 97, 98, 99, 100, 101, 102]⟩ : ByteArray) (bt s i / 16), bt (⟨#[48, 49, 50, 51, 52, 53, 54, 55, 56, 57, 97, 98, 99, 100, 101, 102]⟩ : ByteArray) (bt s i % 16)]) (i + 1) (by omega) (by simp; omega) (by omega)
    have c5 : acc.length + 2 < 140737488355328 := by omega
    refine ⟨r, ?_, ?_⟩
    · simp only [spec_Hex.l0]
      rw [if_pos h, if_pos h0, hw, hd, hm, hw2, dig_at _ c1 c2, dig_at _ c3 c4, hi1]
      simp only [Option.bind_some, List.length_cons, List.length_nil, Nat.zero_add, Nat.reduceAdd]
      rw [if_pos c5]; exact h1
    · simp only [impl_Hex.l0]
      rw [if_pos h, if_pos h0, if_pos h, ha, if_pos c1, if_pos c2, if_pos c3, if_pos c4, hi1]
      simp only [Option.bind_some, List.length_cons, List.length_nil, Nat.zero_add, Nat.reduceAdd]
      rw [if_pos c5]; exact h2
theorem FnExactHex : laws_FnExactHex.Pure := by
  intro s _
  refine ⟨s.size + 1, ?_⟩
  unfold laws_FnExactHex.f
  by_cases h : (s.size : Int) > 1048576
  · rw [if_pos h]
  · obtain ⟨r, h1, h2⟩ := hex_both s (by omega) s.size (s.size + 1) [] 0 (by omega) (by simp) (by omega)
    rw [if_neg h]; unfold spec_Hex.f impl_Hex.f
    rw [show ((0 : Nat) : Int) = 0 from rfl] at h1 h2
    rw [h1]; simp only [Option.bind_some]; rw [h2]; simp

end Go.Proofs.Ytpkaggjbphafeaa.Pure
