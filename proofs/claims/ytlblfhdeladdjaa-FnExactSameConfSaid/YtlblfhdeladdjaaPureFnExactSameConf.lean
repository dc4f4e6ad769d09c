/- The program's SameConf answers as the reference's and leaves its arguments alone, for every two configurations. -/
import Derived.Test.YtlblfhdeladdjaaMFnExactSameConfx
namespace Go.Proofs.Ytlblfhdeladdjaa.Pure
open Go.RowKit Go.Proofs.Ytlblfhdeladdjaa.MFnExactSameConf Go.Proofs.YtlblfhdeladdjaaW.PrintWords Go.Proofs.YtlblfhdeladdjaaW.PrintLast Go.Proofs.YtlblfhdeladdjaaW.PrintMore
set_option linter.unusedVariables false
set_option linter.unusedSimpArgs false

theorem wf_of {a : Int} (h : (Lit.int .i64 a).wf = true) : -9223372036854775808 ≤ a ∧ a ≤ 9223372036854775807 := by
  simp [Lit.wf, IntKind.min, IntKind.max, IntKind.signed, IntKind.bits] at h; omega
theorem pow_le_i (b i j : Nat) (h0 : 0 < b) (h : i ≤ j) : (b : Int) ^ i ≤ (b : Int) ^ j := by
  have h1 := Nat.pow_le_pow_right h0 h
  have h2 : ((b ^ i : Nat) : Int) ≤ ((b ^ j : Nat) : Int) := Int.ofNat_le.2 h1
  rwa [Int.natCast_pow, Int.natCast_pow] at h2
theorem wrap64_id {a : Int} (h0 : -9223372036854775808 ≤ a) (h1 : a ≤ 9223372036854775807) : wrap64 a = a := by unfold wrap64; omega

theorem wrap_succ {i n : Nat} (h : i < n) (hn : n ≤ 1099511627776) : wrap64 ((i : Int) + 1) = ((i + 1 : Nat) : Int) := by unfold wrap64; omega
theorem rd_nat (l : List Int) (i : Nat) (h : i < l.length) : rd l (i : Int) = l[i] := by
  unfold rd; simp [List.getD_eq_getElem?_getD, List.getElem?_eq_getElem h]
theorem rdOf_nat {α : Type} (d : α) (l : List α) (i : Nat) (h : i < l.length) : rdOf d l (i : Int) = l[i] := by
  unfold rdOf; simp [List.getD_eq_getElem?_getD, List.getElem?_eq_getElem h]
theorem set_take {α : Type} (l : List α) (i : Nat) (x : α) (h : i < l.length) : (l.set i x).take (i + 1) = l.take i ++ [x] := by
  rw [List.take_succ_eq_append_getElem (by simpa using h), List.take_set, List.set_eq_of_length_le (by simp; omega)]; simp
theorem set_drop {α : Type} (l : List α) (i : Nat) (x : α) : (l.set i x).drop (i + 1) = l.drop (i + 1) := by
  rw [List.drop_set]; simp

theorem getD_nat {α : Type} (d : α) (l : List α) (i : Nat) (h : i < l.length) : l.getD ((i : Int)).toNat d = l[i] := by
  simp [List.getD_eq_getElem?_getD, List.getElem?_eq_getElem h]

def cvMConf (z : S58) : S49 := ⟨z.f0, z.f1, z.f2, z.f3⟩
theorem toMConfS_loop (l : List S58) (hl : l.length ≤ 1099511627776) (d : Nat) : ∀ (k : Nat) (o : List S49) (i : Nat), o.length = l.length → i + d = l.length → o.take i = (l.take i).map cvMConf → d < k → laws_toMConfS.l0 k l o i = some (l.map cvMConf) := by
  induction d with
  | zero =>
    intro k o i ho hi he hk
    obtain ⟨k, rfl⟩ : ∃ m, k = m + 1 := ⟨k - 1, by omega⟩
    have h : ¬ (i : Int) < (l.length : Int) := by omega
    simp only [laws_toMConfS.l0]; rw [if_neg h]
    rw [List.take_of_length_le (by omega), List.take_of_length_le (by omega)] at he
    rw [he]
  | succ d ih =>
    intro k o i ho hi he hk
    obtain ⟨k, rfl⟩ : ∃ m, k = m + 1 := ⟨k - 1, by omega⟩
    have h : (i : Int) < (l.length : Int) := by omega
    have h' : (i : Int) < (o.length : Int) := by omega
    have h0 : (0 : Int) ≤ (i : Int) := by omega
    have hil : i < l.length := by omega
    have hr : rd_T58 l (i : Int) = l[i] := getD_nat _ _ _ hil
    simp only [laws_toMConfS.l0]; rw [if_pos h, if_pos h0, hr]; simp only [laws_toMConf.f, Option.bind_some]
    rw [if_pos h', wrap_succ (n := l.length) (by omega) hl, Int.toNat_natCast]
    refine ih k _ (i + 1) (by simpa using ho) (by omega) ?_ (by omega)
    rw [set_take _ _ _ (by omega), he, List.take_succ_eq_append_getElem hil, List.map_append]
    rfl
theorem toMConfS_all (k : Nat) (l : List S58) (hl : l.length ≤ 1099511627776) (hk : l.length < k) : laws_toMConfS.f k l = some (l.map cvMConf) := by
  unfold laws_toMConfS.f
  have h0 : (0 : Int) ≤ (l.length : Int) := by omega
  have h1 : ((l.length : Int)).toNat ≤ 8796093022208 := by omega
  rw [if_pos h0, if_pos h1]
  exact toMConfS_loop l hl l.length k _ 0 (by simp) (by omega) (by simp) hk

theorem eqMConfS_loop (l : List S49) (hl : l.length ≤ 1099511627776) (d : Nat) : ∀ (k i : Nat), i + d = l.length → d < k → laws_eqMConfS.l0 k l l i = some true := by
  induction d with
  | zero =>
    intro k i hi hk
    obtain ⟨k, rfl⟩ : ∃ m, k = m + 1 := ⟨k - 1, by omega⟩
    have h : ¬ (i : Int) < (l.length : Int) := by omega
    simp only [laws_eqMConfS.l0]; rw [if_neg h]
  | succ d ih =>
    intro k i hi hk
    obtain ⟨k, rfl⟩ : ∃ m, k = m + 1 := ⟨k - 1, by omega⟩
    have h : (i : Int) < (l.length : Int) := by omega
    have h0 : (0 : Int) ≤ (i : Int) := by omega
    have e := ih k (i + 1) (by omega) (by omega)
    simp only [laws_eqMConfS.l0]; rw [if_pos h, if_pos h0, if_pos h, wrap_succ (n := l.length) (by omega) hl]
    simpa [laws_eqMConf.f] using e
theorem eqMConfS_refl (l : List S49) (hl : l.length ≤ 1099511627776) (k : Nat) (hk : l.length < k) : laws_eqMConfS.f k l l = some true := by
  unfold laws_eqMConfS.f; rw [if_pos rfl]; exact eqMConfS_loop l hl l.length k 0 (by omega) hk

theorem szConf_is (l : List S58) (a1 a2 a3 a4 a5 a : Int) (h0 : 0 ≤ a) (h1 : a ≤ 1048576) (hb : (l.length : Int) ≤ 9223372036854775807) :
    laws_szConf.f l a1 a2 a3 a4 a5 a = some (if a < l.length then -1 else a - l.length) := by
  have hw : wrap64 (a - (l.length : Int)) = a - l.length := wrap64_id (by omega) (by omega)
  unfold laws_szConf.f laws_szMConfS.f; rw [hw]
  by_cases h : a < l.length
  · rw [if_pos h, if_pos (by omega)]; simp
  · rw [if_neg h, if_neg (by omega)]; simp only [Option.bind_some]; rw [if_neg (by omega)]

theorem same_conf_loops (a b : List S49) (hab : a.length = b.length) (hl : a.length ≤ 1099511627776) (a1 a2 a3 a4 a5 b1 b2 b3 b4 b5 : Int) (d : Nat) : ∀ (k i : Nat), i + d = a.length → d < k →
    ∃ r, impl_MConf.l0 k a b (a.length : Int) i = some r ∧ spec_SameConf.l0 k i a a1 a2 a3 a4 a5 b b1 b2 b3 b4 b5 = some (if r = true then (decide (a1 = b1 ∧ a2 = b2 ∧ a3 = b3 ∧ a4 = b4) && (a5 == b5)) else false) := by
  induction d with
  | zero =>
    intro k i hi hk
    obtain ⟨k, rfl⟩ : ∃ m, k = m + 1 := ⟨k - 1, by omega⟩
    have h : ¬ (i : Int) < (a.length : Int) := by omega
    refine ⟨true, by simp only [impl_MConf.l0]; rw [if_neg h], ?_⟩
    simp only [spec_SameConf.l0]; rw [if_neg h]
    by_cases e1 : a1 = b1
    · by_cases e2 : a2 = b2
      · by_cases e3 : a3 = b3
        · by_cases e4 : a4 = b4 <;> simp [e1, e2, e3, e4]
        · simp [e1, e2, e3]
      · simp [e1, e2]
    · simp [e1]
  | succ d ih =>
    intro k i hi hk
    obtain ⟨k, rfl⟩ : ∃ m, k = m + 1 := ⟨k - 1, by omega⟩
    have h : (i : Int) < (a.length : Int) := by omega
    have h0 : (0 : Int) ≤ (i : Int) := by omega
    have hb : (i : Int) < (b.length : Int) := by omega
    obtain ⟨r, h1, h2⟩ := ih k (i + 1) (by omega) (by omega)
    simp only [impl_MConf.l0, spec_SameConf.l0]
    rw [if_pos h, if_pos h0, if_pos h, if_pos hb, if_pos h, if_pos h0, if_pos hb, wrap_succ (n := a.length) (by omega) hl]
    generalize (!((rd_T49 a (i : Int)).f0 == (rd_T49 b (i : Int)).f0) || (!((rd_T49 a (i : Int)).f1 == (rd_T49 b (i : Int)).f1) || (!((rd_T49 a (i : Int)).f2 == (rd_T49 b (i : Int)).f2) || (!((rd_T49 a (i : Int)).f3 == (rd_T49 b (i : Int)).f3))))) = t
    cases t with
    | true => exact ⟨false, by simp, by simp⟩
    | false => exact ⟨r, by simpa using h1, by simpa using h2⟩
theorem FnExactSameConf (l : List S58) (a1 a2 a3 a4 a5 : Int) (l' : List S58) (b1 b2 b3 b4 b5 : Int) (hl : l.length ≤ 9223372036854775807) (_ : (Lit.int .i64 a1).wf = true) (_ : (Lit.int .i64 a2).wf = true) (_ : (Lit.int .i64 a3).wf = true) (_ : (Lit.int .i64 a4).wf = true) (_ : (Lit.int .i64 a5).wf = true)
    (hl' : l'.length ≤ 9223372036854775807) (_ : (Lit.int .i64 b1).wf = true) (_ : (Lit.int .i64 b2).wf = true) (_ : (Lit.int .i64 b3).wf = true) (_ : (Lit.int .i64 b4).wf = true) (_ : (Lit.int .i64 b5).wf = true) : ∃ k, laws_FnExactSameConf.f k l a1 a2 a3 a4 a5 l' b1 b2 b3 b4 b5 = some true := by
  refine ⟨1048600, ?_⟩
  generalize hk : 1048600 = k
  unfold laws_FnExactSameConf.f
  rw [szConf_is l a1 a2 a3 a4 a5 1048576 (by omega) (by omega) (by omega)]; simp only [Option.bind_some]
  by_cases h : (1048576 : Int) < l.length
  · rw [if_pos h]; simp
  · rw [if_neg h, if_neg (by omega), szConf_is l' b1 b2 b3 b4 b5 _ (by omega) (by omega) (by omega)]; simp only [Option.bind_some]
    by_cases h' : (1048576 : Int) - l.length < l'.length
    · rw [if_pos h']; simp
    · rw [if_neg h', if_neg (by omega)]
      have ht : ∀ (l : List S58) (a1 a2 a3 a4 a5 : Int), l.length ≤ 1048576 → laws_toConf.f k l a1 a2 a3 a4 a5 = some (l.map cvMConf, a1, a2, a3, a4, a5) := fun l a1 a2 a3 a4 a5 hl => by
        unfold laws_toConf.f; rw [toMConfS_all k l (by omega) (by omega)]; rfl
      have hq : ∀ (x : List S49) (a1 a2 a3 a4 a5 : Int), x.length ≤ 1048576 → laws_eqConf.f k x a1 a2 a3 a4 a5 x a1 a2 a3 a4 a5 = some true := fun x a1 a2 a3 a4 a5 hx => by
        unfold laws_eqConf.f; rw [eqMConfS_refl x (by omega) k (by omega)]; simp
      rw [ht l a1 a2 a3 a4 a5 (by omega), ht l' b1 b2 b3 b4 b5 (by omega)]; simp only [Option.bind_some]
      rw [hq _ a1 a2 a3 a4 a5 (by simp; omega), hq _ b1 b2 b3 b4 b5 (by simp; omega)]
      have hla : (l.map cvMConf).length = l.length := by simp
      have hlb : (l'.map cvMConf).length = l'.length := by simp
      generalize l.map cvMConf = x at *
      generalize l'.map cvMConf = y at *
      unfold spec_SameConf.f impl_SameConf.f impl_MConf.f
      by_cases e : (x.length : Int) = (y.length : Int)
      · obtain ⟨r, h1, h2⟩ := same_conf_loops x y (by omega) (by omega) a1 a2 a3 a4 a5 b1 b2 b3 b4 b5 x.length k 0 (by omega) (by omega)
        rw [show ((0 : Nat) : Int) = 0 from rfl] at h1 h2
        rw [if_pos e, if_pos e, h1, h2]; simp only [Option.bind_some]
        cases r with
        | false => simp
        | true =>
          by_cases e1 : a1 = b1
          · by_cases e2 : a2 = b2
            · by_cases e3 : a3 = b3
              · by_cases e4 : a4 = b4 <;> simp [e1, e2, e3, e4]
              · simp [e1, e2, e3]
            · simp [e1, e2]
          · simp [e1]
      · rw [if_neg e, if_neg e]; simp

end Go.Proofs.Ytlblfhdeladdjaa.Pure
