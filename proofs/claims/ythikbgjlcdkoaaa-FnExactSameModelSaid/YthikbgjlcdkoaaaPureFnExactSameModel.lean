/- The program's SameModel answers as the reference's and leaves its arguments alone, for every two models. -/
import Derived.Test.YthikbgjlcdkoaaaMFnExactSameModelx
namespace Go.Proofs.Ythikbgjlcdkoaaa.Pure
open Go.RowKit Go.Proofs.Ythikbgjlcdkoaaa.MFnExactSameModel Go.Proofs.YthikbgjlcdkoaaaW.PrintWords Go.Proofs.YthikbgjlcdkoaaaW.PrintLast Go.Proofs.YthikbgjlcdkoaaaW.PrintMore
set_option linter.unusedVariables false
set_option linter.unusedSimpArgs false

theorem wf_of {a : Int} (h : (Lit.int .i64 a).wf = true) : -9223372036854775808 ≤ a ∧ a ≤ 9223372036854775807 := by
  simp [Lit.wf, IntKind.min, IntKind.max, IntKind.signed, IntKind.bits] at h; omega
theorem pow_le_i (b i j : Nat) (h0 : 0 < b) (h : i ≤ j) : (b : Int) ^ i ≤ (b : Int) ^ j := by
  have h1 := Nat.pow_le_pow_right h0 h
  have h2 : ((b ^ i : Nat) : Int) ≤ ((b ^ j : Nat) : Int) := Int.ofNat_le.2 h1
  rwa [Int.natCast_pow, Int.natCast_pow] at h2
theorem wrap64_id {a : Int} (h0 : -9223372036854775808 ≤ a) (h1 : a ≤ 9223372036854775807) : wrap64 a = a := by unfold wrap64; omega

theorem wrap_succ {i n : Nat} (h : i < n) (hn : n ≤ 1099511627776) : wrap64 ((i : Int) + 1) = ((i + 1 : Nat) : Int) := by unfold wrap64; omega
theorem rd_nat (l : List Int) (i : Nat) (h : i < l.length) : rd l (i : Int) = l[i] := by
  unfold rd; simp [List.getD_eq_getElem?_getD, List.getElem?_eq_getElem h]
theorem rdOf_nat {α : Type} (d : α) (l : List α) (i : Nat) (h : i < l.length) : rdOf d l (i : Int) = l[i] := by
  unfold rdOf; simp [List.getD_eq_getElem?_getD, List.getElem?_eq_getElem h]
theorem set_take {α : Type} (l : List α) (i : Nat) (x : α) (h : i < l.length) : (l.set i x).take (i + 1) = l.take i ++ [x] := by
  rw [List.take_succ_eq_append_getElem (by simpa using h), List.take_set, List.set_eq_of_length_le (by simp; omega)]; simp
theorem set_drop {α : Type} (l : List α) (i : Nat) (x : α) : (l.set i x).drop (i + 1) = l.drop (i + 1) := by
  rw [List.drop_set]; simp

theorem l5Ints_loop (a b : List Int) (hab : a.length = b.length) (hl : a.length ≤ 1099511627776) (d : Nat) : ∀ (k i : Nat), i + d = a.length → d < k → spec_l5Ints.l0 k a b i = some (decide (a.drop i = b.drop i)) := by
  induction d with
  | zero =>
    intro k i hi hk
    obtain ⟨k, rfl⟩ : ∃ m, k = m + 1 := ⟨k - 1, by omega⟩
    have h : ¬ (i : Int) < (a.length : Int) := by omega
    simp only [spec_l5Ints.l0]; rw [if_neg h, List.drop_eq_nil_of_le (by omega), List.drop_eq_nil_of_le (by omega)]; simp
  | succ d ih =>
    intro k i hi hk
    obtain ⟨k, rfl⟩ : ∃ m, k = m + 1 := ⟨k - 1, by omega⟩
    have h : (i : Int) < (a.length : Int) := by omega
    have h0 : (0 : Int) ≤ (i : Int) := by omega
    have hb : (i : Int) < (b.length : Int) := by omega
    have hia : i < a.length := by omega
    have hib : i < b.length := by omega
    simp only [spec_l5Ints.l0]; rw [if_pos h, if_pos h0, if_pos hb, rd_nat _ _ hia, rd_nat _ _ hib, wrap_succ (n := a.length) (by omega) hl, ih k (i + 1) (by omega) (by omega)]
    by_cases e : a[i] = b[i]
    · have hd : (a.drop i = b.drop i) ↔ (a.drop (i + 1) = b.drop (i + 1)) := by
        rw [List.drop_eq_getElem_cons hia, List.drop_eq_getElem_cons hib, List.cons.injEq]; exact ⟨fun h => h.2, fun h => ⟨e, h⟩⟩
      rw [if_pos e]; simp only [hd]
    · have hd : ¬ (a.drop i = b.drop i) := by
        rw [List.drop_eq_getElem_cons hia, List.drop_eq_getElem_cons hib, List.cons.injEq]; exact fun h => e h.1
      rw [if_neg e]; simp only [hd, decide_false]
theorem l5Ints_is (k : Nat) (a b : List Int) (hl : a.length ≤ 1099511627776) (hk : a.length < k) : spec_l5Ints.f k a b = some (decide (a = b)) := by
  unfold spec_l5Ints.f
  by_cases h : a.length = b.length
  · have h' : (a.length : Int) = (b.length : Int) := by omega
    rw [if_pos h']
    have := l5Ints_loop a b h hl a.length k 0 (by omega) hk
    simpa using this
  · have h' : ¬ (a.length : Int) = (b.length : Int) := by omega
    have hne : a ≠ b := fun e => h (by rw [e])
    rw [if_neg h']; simp [hne]

theorem slEqual_loop (a b : List Int) (hab : a.length = b.length) (hl : a.length ≤ 1099511627776) (d : Nat) : ∀ (k i : Nat), i + d = a.length → d < k → slices_Equal_int_int.l0 k a b (a.length : Int) i = some (decide (a.drop i = b.drop i)) := by
  induction d with
  | zero =>
    intro k i hi hk
    obtain ⟨k, rfl⟩ : ∃ m, k = m + 1 := ⟨k - 1, by omega⟩
    have h : ¬ (i : Int) < (a.length : Int) := by omega
    simp only [slices_Equal_int_int.l0]; rw [if_neg h, List.drop_eq_nil_of_le (by omega), List.drop_eq_nil_of_le (by omega)]; simp
  | succ d ih =>
    intro k i hi hk
    obtain ⟨k, rfl⟩ : ∃ m, k = m + 1 := ⟨k - 1, by omega⟩
    have h : (i : Int) < (a.length : Int) := by omega
    have h0 : (0 : Int) ≤ (i : Int) := by omega
    have hb : (i : Int) < (b.length : Int) := by omega
    have hia : i < a.length := by omega
    have hib : i < b.length := by omega
    simp only [slices_Equal_int_int.l0]; rw [if_pos h, if_pos h0, if_pos h, if_pos hb, rd_nat _ _ hia, rd_nat _ _ hib, wrap_succ (n := a.length) (by omega) hl, ih k (i + 1) (by omega) (by omega)]
    by_cases e : a[i] = b[i]
    · have hd : (a.drop i = b.drop i) ↔ (a.drop (i + 1) = b.drop (i + 1)) := by
        rw [List.drop_eq_getElem_cons hia, List.drop_eq_getElem_cons hib, List.cons.injEq]; exact ⟨fun h => h.2, fun h => ⟨e, h⟩⟩
      rw [if_pos e]; simp only [hd]
    · have hd : ¬ (a.drop i = b.drop i) := by
        rw [List.drop_eq_getElem_cons hia, List.drop_eq_getElem_cons hib, List.cons.injEq]; exact fun h => e h.1
      rw [if_neg e]; simp only [hd, decide_false]
theorem slEqual_is (k : Nat) (a b : List Int) (hl : a.length ≤ 1099511627776) (hk : a.length < k) : slices_Equal_int_int.f k a b = some (decide (a = b)) := by
  unfold slices_Equal_int_int.f
  by_cases h : a.length = b.length
  · have h' : (a.length : Int) = (b.length : Int) := by omega
    rw [if_pos h']
    have := slEqual_loop a b h hl a.length k 0 (by omega) hk
    simpa using this
  · have h' : ¬ (a.length : Int) = (b.length : Int) := by omega
    have hne : a ≠ b := fun e => h (by rw [e])
    rw [if_neg h']; simp [hne]

theorem szInt_is (l : List Int) (a : Int) (h0 : 0 ≤ a) (h1 : a ≤ 1048576) (hl : l.length ≤ 9223372036854775807) : laws_szIntS.f l a = some (if a < l.length then -1 else a - l.length) := by
  have hw : wrap64 (a - (l.length : Int)) = a - l.length := wrap64_id (by omega) (by omega)
  unfold laws_szIntS.f; rw [hw]
  by_cases h : a < l.length
  · rw [if_pos h, if_pos (by omega)]
  · rw [if_neg h, if_neg (by omega)]

theorem szDev_is (r f : List Int) (t a : Int) (h0 : 0 ≤ a) (h1 : a ≤ 1048576) (hr : r.length ≤ 9223372036854775807) (hf : f.length ≤ 9223372036854775807) :
    laws_szDev.f r t f a = some (if a < r.length + f.length then -1 else a - r.length - f.length) := by
  unfold laws_szDev.f; rw [szInt_is r a h0 h1 hr]; simp only [Option.bind_some]
  by_cases h : a < r.length
  · rw [if_pos h, if_pos (show a < r.length + f.length by omega)]; simp
  · rw [if_neg h, if_neg (show ¬ a - (r.length : Int) < 0 by omega), szInt_is f _ (by omega) (by omega) hf]; simp only [Option.bind_some]
    by_cases h2 : a - r.length < f.length
    · rw [if_pos h2, if_pos (show a < r.length + f.length by omega)]; simp
    · rw [if_neg h2, if_neg (show ¬ a < r.length + f.length by omega), if_neg (by omega)]

theorem szModel_is (m r f : List Int) (t a : Int) (h0 : 0 ≤ a) (h1 : a ≤ 1048576) (hm : m.length ≤ 9223372036854775807) (hr : r.length ≤ 9223372036854775807) (hf : f.length ≤ 9223372036854775807) :
    laws_szModel.f m r t f a = some (if a < m.length + r.length + f.length then -1 else a - m.length - r.length - f.length) := by
  unfold laws_szModel.f; rw [szInt_is m a h0 h1 hm]; simp only [Option.bind_some]
  by_cases h : a < m.length
  · rw [if_pos h, if_pos (show a < m.length + r.length + f.length by omega)]; simp
  · rw [if_neg h, if_neg (show ¬ a - (m.length : Int) < 0 by omega), szDev_is r f t _ (by omega) (by omega) hr hf]; simp only [Option.bind_some]
    by_cases h2 : a - m.length < r.length + f.length
    · rw [if_pos h2, if_pos (show a < m.length + r.length + f.length by omega)]; simp
    · rw [if_neg h2, if_neg (show ¬ a < m.length + r.length + f.length by omega), if_neg (by omega)]

theorem toIntS_loop (l : List Int) (hl : l.length ≤ 1099511627776) (d : Nat) : ∀ (k : Nat) (o : List Int) (i : Nat), o.length = l.length → i + d = l.length → o.take i = l.take i → d < k → laws_toIntS.l0 k l o i = some l := by
  induction d with
  | zero =>
    intro k o i ho hi he hk
    obtain ⟨k, rfl⟩ : ∃ m, k = m + 1 := ⟨k - 1, by omega⟩
    have h : ¬ (i : Int) < (l.length : Int) := by omega
    simp only [laws_toIntS.l0]; rw [if_neg h]
    rw [List.take_of_length_le (by omega), List.take_of_length_le (by omega)] at he
    rw [he]
  | succ d ih =>
    intro k o i ho hi he hk
    obtain ⟨k, rfl⟩ : ∃ m, k = m + 1 := ⟨k - 1, by omega⟩
    have h : (i : Int) < (l.length : Int) := by omega
    have h' : (i : Int) < (o.length : Int) := by omega
    have h0 : (0 : Int) ≤ (i : Int) := by omega
    have hil : i < l.length := by omega
    simp only [laws_toIntS.l0]; rw [if_pos h, if_pos h0, if_pos h', wrap_succ (n := l.length) (by omega) hl, Int.toNat_natCast, rd_nat _ _ hil]
    refine ih k _ (i + 1) (by simpa using ho) (by omega) ?_ (by omega)
    rw [set_take _ _ _ (by omega), he, List.take_succ_eq_append_getElem hil]
theorem toIntS_all (k : Nat) (l : List Int) (hl : l.length ≤ 1099511627776) (hk : l.length < k) : laws_toIntS.f k l = some l := by
  unfold laws_toIntS.f
  have h0 : (0 : Int) ≤ (l.length : Int) := by omega
  have h1 : ((l.length : Int)).toNat ≤ 35184372088832 := by omega
  rw [if_pos h0, if_pos h1]
  exact toIntS_loop l hl l.length k _ 0 (by simp) (by omega) (by simp) hk

theorem toDev_all (k : Nat) (r f : List Int) (t : Int) (hr : r.length ≤ 1099511627776) (hf : f.length ≤ 1099511627776) (kr : r.length < k) (kf : f.length < k) : laws_toDev.f k r t f = some (r, t, f) := by
  unfold laws_toDev.f; rw [toIntS_all k r hr kr, toIntS_all k f hf kf]; rfl

theorem toModel_all (k : Nat) (m r f : List Int) (t : Int) (hm : m.length ≤ 1099511627776) (hr : r.length ≤ 1099511627776) (hf : f.length ≤ 1099511627776) (km : m.length < k) (kr : r.length < k) (kf : f.length < k) : laws_toModel.f k m r t f = some (m, r, t, f) := by
  unfold laws_toModel.f; rw [toIntS_all k m hm km, toDev_all k r f t hr hf kr kf]; rfl

theorem eqIntS_loop (l : List Int) (hl : l.length ≤ 1099511627776) (d : Nat) : ∀ (k i : Nat), i + d = l.length → d < k → laws_eqIntS.l0 k l l i = some true := by
  induction d with
  | zero =>
    intro k i hi hk
    obtain ⟨k, rfl⟩ : ∃ m, k = m + 1 := ⟨k - 1, by omega⟩
    have h : ¬ (i : Int) < (l.length : Int) := by omega
    simp only [laws_eqIntS.l0]; rw [if_neg h]
  | succ d ih =>
    intro k i hi hk
    obtain ⟨k, rfl⟩ : ∃ m, k = m + 1 := ⟨k - 1, by omega⟩
    have h : (i : Int) < (l.length : Int) := by omega
    have h0 : (0 : Int) ≤ (i : Int) := by omega
    have e := ih k (i + 1) (by omega) (by omega)
    simp only [laws_eqIntS.l0]; rw [if_pos h, if_pos h0, if_pos h, wrap_succ (n := l.length) (by omega) hl]
    simp only [if_true]; exact e
theorem eqIntS_refl (l : List Int) (hl : l.length ≤ 1099511627776) (k : Nat) (hk : l.length < k) : laws_eqIntS.f k l l = some true := by
  unfold laws_eqIntS.f; rw [if_pos rfl]; exact eqIntS_loop l hl l.length k 0 (by omega) hk

theorem eqDev_refl (k : Nat) (r f : List Int) (t : Int) (hr : r.length ≤ 1099511627776) (hf : f.length ≤ 1099511627776) (kr : r.length < k) (kf : f.length < k) : laws_eqDev.f k r t f r t f = some true := by
  unfold laws_eqDev.f; rw [eqIntS_refl r hr k kr]; simp only [Option.bind_some, if_true]; rw [eqIntS_refl f hf k kf]; simp

theorem eqModel_refl (k : Nat) (m r f : List Int) (t : Int) (hm : m.length ≤ 1099511627776) (hr : r.length ≤ 1099511627776) (hf : f.length ≤ 1099511627776) (km : m.length < k) (kr : r.length < k) (kf : f.length < k) : laws_eqModel.f k m r t f m r t f = some true := by
  unfold laws_eqModel.f; rw [eqIntS_refl m hm k km]; simp only [Option.bind_some, if_true]; rw [eqDev_refl k r f t hr hf kr kf]; simp

theorem FnExactSameModel (m r : List Int) (t : Int) (f : List Int) (m' r' : List Int) (t' : Int) (f' : List Int) (hm : m.length ≤ 9223372036854775807) (hr : r.length ≤ 9223372036854775807) (_ : (Lit.int .i64 t).wf = true) (hf : f.length ≤ 9223372036854775807) (hm' : m'.length ≤ 9223372036854775807) (hr' : r'.length ≤ 9223372036854775807) (_ : (Lit.int .i64 t').wf = true) (hf' : f'.length ≤ 9223372036854775807) :
    ∃ k, laws_FnExactSameModel.f k m r t f m' r' t' f' = some true := by
  refine ⟨1048600, ?_⟩
  generalize hk : 1048600 = k
  unfold laws_FnExactSameModel.f
  rw [szModel_is m r f t _ (by omega) (by omega) hm hr hf]; simp only [Option.bind_some]
  by_cases h : (1048576 : Int) < m.length + r.length + f.length
  · rw [if_pos h]; simp
  · rw [if_neg h, if_neg (by omega), szModel_is m' r' f' t' _ (by omega) (by omega) hm' hr' hf']; simp only [Option.bind_some]
    by_cases h' : (1048576 : Int) - m.length - r.length - f.length < m'.length + r'.length + f'.length
    · rw [if_pos h']; simp
    · rw [if_neg h', if_neg (by omega), toModel_all k m r f t (by omega) (by omega) (by omega) (by omega) (by omega) (by omega), toModel_all k m' r' f' t' (by omega) (by omega) (by omega) (by omega) (by omega) (by omega)]
      simp only [Option.bind_some]
      rw [eqModel_refl k m r f t (by omega) (by omega) (by omega) (by omega) (by omega) (by omega), eqModel_refl k m' r' f' t' (by omega) (by omega) (by omega) (by omega) (by omega) (by omega)]
      unfold spec_SameModel.f impl_SameModel.f spec_SameDev.f impl_SameDev.f
      rw [l5Ints_is k m m' (by omega) (by omega), slEqual_is k m m' (by omega) (by omega), l5Ints_is k r r' (by omega) (by omega), slEqual_is k r r' (by omega) (by omega), l5Ints_is k f f' (by omega) (by omega), slEqual_is k f f' (by omega) (by omega)]
      simp only [Option.bind_some]
      by_cases e0 : m = m'
      · by_cases e1 : r = r'
        · by_cases e2 : t = t' <;> simp [e0, e1, e2]
        · simp [e0, e1]
      · simp [e0]

end Go.Proofs.Ythikbgjlcdkoaaa.Pure
