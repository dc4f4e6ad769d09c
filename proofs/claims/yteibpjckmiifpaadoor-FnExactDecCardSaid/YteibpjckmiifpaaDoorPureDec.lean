/- The reference's Dec makes the decimal numeral, for every int. -/
import Derived.Test.YteibpjckmiifpaaDoorMDecx
import Derived.Lib.ItoaNum
namespace Go.Proofs.YteibpjckmiifpaaDoor.PureDec
open Go.RowKit Go.Proofs.YteibpjckmiifpaaDoor.MDec
set_option linter.unusedVariables false
set_option linter.unusedSimpArgs false
def bs (l : List UInt8) : ByteArray := ⟨l.toArray⟩
theorem bs_append (a b : List UInt8) : bs a ++ bs b = bs (a ++ b) := by
  apply ByteArray.ext; simp [bs]
theorem bs_size (l : List UInt8) : (bs l).size = l.length := by simp [bs, ByteArray.size]
theorem one_char (x : Int) : strOfNums [x] = bs [UInt8.ofNat x.toNat] := rfl
theorem dec_end (k : Nat) (acc : List UInt8) (neg : Bool) (h : acc.length ≤ 1000) : spec_Dec.l0 (k + 1) 0 (bs acc) neg = some (bs ((if neg = true then [45] else []) ++ acc)) := by
  rw [spec_Dec.l0, if_pos rfl]
  cases neg
  · rw [if_neg (by simp), if_neg (by simp)]; rfl
  · rw [if_pos rfl, if_pos (by rw [bs_size]; omega), if_pos rfl]
    show some (bs [45] ++ bs acc) = _
    rw [bs_append]
theorem dec_char (m : Nat) : UInt8.ofNat ((wrap64 (48 + ((m % 10 : Nat) : Int))) % 256).toNat = UInt8.ofNat (48 + m % 10) := by
  have h : wrap64 (48 + ((m % 10 : Nat) : Int)) = ((48 + m % 10 : Nat) : Int) := by unfold wrap64; omega
  rw [h]; congr 1; omega
theorem dec_step (k m : Nat) (acc : List UInt8) (neg : Bool) (x : Int) (hm : 1 ≤ m) (hb : m ≤ 9223372036854775808) (hx : x = if neg = true then -(m : Int) else (m : Int)) (hr : -9223372036854775808 ≤ x ∧ x ≤ 9223372036854775807) (ha : acc.length ≤ 900) :
    spec_Dec.l0 (k + 1) x (bs acc) neg = spec_Dec.l0 k (if neg = true then -((m / 10 : Nat) : Int) else ((m / 10 : Nat) : Int)) (bs (UInt8.ofNat (48 + m % 10) :: acc)) neg := by
  have hx0 : x ≠ 0 := by rw [hx]; split <;> omega
  have hq : Int.tdiv x 10 = if neg = true then -((m / 10 : Nat) : Int) else ((m / 10 : Nat) : Int) := by
    rw [hx]; split
    · rw [Int.neg_tdiv, Int.tdiv_eq_ediv_of_nonneg (by omega)]; omega
    · rw [Int.tdiv_eq_ediv_of_nonneg (by omega)]; omega
  have hw : wrap64 (Int.tdiv x 10) = if neg = true then -((m / 10 : Nat) : Int) else ((m / 10 : Nat) : Int) := by
    rw [hq]; split <;> (unfold wrap64; omega)
  have hc := dec_char m
  have ht : Int.tmod x 10 = if neg = true then -((m % 10 : Nat) : Int) else ((m % 10 : Nat) : Int) := by
    rw [hx]; split
    · rw [Int.neg_tmod, Int.tmod_eq_emod_of_nonneg (by omega)]; omega
    · rw [Int.tmod_eq_emod_of_nonneg (by omega)]; omega
  have fin : ∀ c : Int, c = ((m % 10 : Nat) : Int) → ((some (([(wrap64 (48 + c)) % 256] : List Int) : List Int)).bind fun y => (if (strOfNums y).size + (bs acc).size ≤ 9223372036854775807 then (spec_Dec.l0 k (wrap64 (Int.tdiv x 10)) ((strOfNums y) ++ bs acc) neg) else (none))) = spec_Dec.l0 k (if neg = true then -((m / 10 : Nat) : Int) else ((m / 10 : Nat) : Int)) (bs (UInt8.ofNat (48 + m % 10) :: acc)) neg := by
    intro c hcc
    simp only [Option.bind_some]
    rw [hcc, one_char, hc, if_pos (by rw [bs_size, bs_size]; simp; omega), bs_append, hw]; rfl
  rw [spec_Dec.l0, if_neg hx0]
  by_cases hneg : Int.tmod x 10 < 0
  · rw [if_pos hneg]
    have hn : neg = true := by
      cases neg
      · rw [ht, if_neg (by simp)] at hneg; omega
      · rfl
    have e : wrap64 (-(Int.tmod x 10)) = ((m % 10 : Nat) : Int) := by rw [ht, if_pos hn]; unfold wrap64; omega
    exact fin _ e
  · rw [if_neg hneg]
    have e : Int.tmod x 10 = ((m % 10 : Nat) : Int) := by
      rw [ht] at hneg ⊢
      split
      · rename_i h; rw [if_pos h] at hneg; omega
      · rfl
    exact fin _ e
theorem dec_loop (e : Nat) : ∀ (k m : Nat) (acc : List UInt8) (neg : Bool) (x : Int), 1 ≤ m → m ≤ 9223372036854775808 → m < 10 ^ e → (x = if neg = true then -(m : Int) else (m : Int)) → (-9223372036854775808 ≤ x ∧ x ≤ 9223372036854775807) → acc.length + e ≤ 800 → e < k →
    spec_Dec.l0 k x (bs acc) neg = some (bs ((if neg = true then [45] else []) ++ (Lib.decDigits m ++ acc))) := by
  induction e with
  | zero => intro k m acc neg x h1 _ h2; simp at h2; omega
  | succ e ih =>
    intro k m acc neg x h1 hb h2 hx hr ha hk
    obtain ⟨k, rfl⟩ : ∃ q, k = q + 1 := ⟨k - 1, by omega⟩
    rw [dec_step k m acc neg x h1 hb hx hr (by omega)]
    have hd : Lib.decDigits m = if m < 10 then [UInt8.ofNat (48 + m)] else Lib.decDigits (m / 10) ++ [UInt8.ofNat (48 + m % 10)] := by
      rw [Lib.decDigits]; split <;> rfl
    by_cases hs : m < 10
    · obtain ⟨k, rfl⟩ : ∃ q, k = q + 1 := ⟨k - 1, by omega⟩
      have hz : m / 10 = 0 := by omega
      have hmm : m % 10 = m := by omega
      have hxx : (if neg = true then -((m / 10 : Nat) : Int) else ((m / 10 : Nat) : Int)) = 0 := by rw [hz]; split <;> rfl
      rw [hxx, dec_end k _ neg (by simp; omega), hd, if_pos hs, hmm]; rfl
    · have hp : m / 10 < 10 ^ e := by rw [Nat.pow_succ] at h2; omega
      rw [ih k (m / 10) (UInt8.ofNat (48 + m % 10) :: acc) neg _ (by omega) (by omega) hp rfl (by split <;> omega) (by simp; omega) (by omega), hd, if_neg hs]
      simp
theorem dec_is (k : Nat) (n : Int) (h0 : -9223372036854775808 ≤ n) (h1 : n ≤ 9223372036854775807) (hk : 30 ≤ k) : spec_Dec.f k n = some ⟨(Lib.itoa n).toArray⟩ := by
  show _ = some (bs (Lib.itoa n))
  unfold spec_Dec.f Lib.itoa
  by_cases hz : n = 0
  · rw [if_pos hz, if_neg (by omega), hz]
    have : Lib.decDigits (Int.toNat 0) = [48] := by rw [Lib.decDigits, dif_pos (by decide)]; rfl
    rw [this]; rfl
  · rw [if_neg hz]
    by_cases hn : n < 0
    · rw [decide_eq_true hn, if_pos hn]
      have := dec_loop 20 k n.natAbs [] true n (by omega) (by omega) (by omega) (by rw [if_pos rfl]; omega) ⟨h0, h1⟩ (by simp) (by omega)
      simpa [bs] using this
    · rw [decide_eq_false hn, if_neg hn]
      have := dec_loop 20 k n.toNat [] false n (by omega) (by omega) (by omega) (by rw [if_neg (by simp)]; omega) ⟨h0, h1⟩ (by simp) (by omega)
      simpa [bs] using this
end Go.Proofs.YteibpjckmiifpaaDoor.PureDec
