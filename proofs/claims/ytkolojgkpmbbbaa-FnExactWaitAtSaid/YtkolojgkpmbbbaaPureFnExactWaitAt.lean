/- The program's WaitAt answers as the reference's and leaves its arguments alone, for every configuration, script and index. -/
import Derived.Test.YtkolojgkpmbbbaaMFnExactWaitAtx
namespace Go.Proofs.Ytkolojgkpmbbbaa.Pure
open Go.RowKit Go.Proofs.Ytkolojgkpmbbbaa.MFnExactWaitAt Go.Proofs.YtkolojgkpmbbbaaW.PrintWords Go.Proofs.YtkolojgkpmbbbaaW.PrintLast Go.Proofs.YtkolojgkpmbbbaaW.PrintMore
set_option linter.unusedVariables false
set_option linter.unusedSimpArgs false
set_option maxHeartbeats 4000000

theorem wf_of {a : Int} (h : (Lit.int .i64 a).wf = true) : -9223372036854775808 ≤ a ∧ a ≤ 9223372036854775807 := by
  simp [Lit.wf, IntKind.min, IntKind.max, IntKind.signed, IntKind.bits] at h; omega
theorem pow_le_i (b i j : Nat) (h0 : 0 < b) (h : i ≤ j) : (b : Int) ^ i ≤ (b : Int) ^ j := by
  have h1 := Nat.pow_le_pow_right h0 h
  have h2 : ((b ^ i : Nat) : Int) ≤ ((b ^ j : Nat) : Int) := Int.ofNat_le.2 h1
  rwa [Int.natCast_pow, Int.natCast_pow] at h2
theorem wrap64_id {a : Int} (h0 : -9223372036854775808 ≤ a) (h1 : a ≤ 9223372036854775807) : wrap64 a = a := by unfold wrap64; omega

theorem wrap_succ {i n : Nat} (h : i < n) (hn : n ≤ 1099511627776) : wrap64 ((i : Int) + 1) = ((i + 1 : Nat) : Int) := by unfold wrap64; omega
theorem rd_nat (l : List Int) (i : Nat) (h : i < l.length) : rd l (i : Int) = l[i] := by
  unfold rd; simp [List.getD_eq_getElem?_getD, List.getElem?_eq_getElem h]
theorem rdOf_nat {α : Type} (d : α) (l : List α) (i : Nat) (h : i < l.length) : rdOf d l (i : Int) = l[i] := by
  unfold rdOf; simp [List.getD_eq_getElem?_getD, List.getElem?_eq_getElem h]
theorem set_take {α : Type} (l : List α) (i : Nat) (x : α) (h : i < l.length) : (l.set i x).take (i + 1) = l.take i ++ [x] := by
  rw [List.take_succ_eq_append_getElem (by simpa using h), List.take_set, List.set_eq_of_length_le (by simp; omega)]; simp
theorem set_drop {α : Type} (l : List α) (i : Nat) (x : α) : (l.set i x).drop (i + 1) = l.drop (i + 1) := by
  rw [List.drop_set]; simp

theorem getD_nat {α : Type} (d : α) (l : List α) (i : Nat) (h : i < l.length) : l.getD ((i : Int)).toNat d = l[i] := by
  simp [List.getD_eq_getElem?_getD, List.getElem?_eq_getElem h]

theorem toIntS_loop (l : List Int) (hl : l.length ≤ 1099511627776) (d : Nat) : ∀ (k : Nat) (o : List Int) (i : Nat), o.length = l.length → i + d = l.length → o.take i = l.take i → d < k → laws_toIntS.l0 k l o i = some l := by
  induction d with
  | zero =>
    intro k o i ho hi he hk
    obtain ⟨k, rfl⟩ : ∃ m, k = m + 1 := ⟨k - 1, by omega⟩
    have h : ¬ (i : Int) < (l.length : Int) := by omega
    simp only [laws_toIntS.l0]; rw [if_neg h]
    rw [List.take_of_length_le (by omega), List.take_of_length_le (by omega)] at he
    rw [he]
  | succ d ih =>
    intro k o i ho hi he hk
    obtain ⟨k, rfl⟩ : ∃ m, k = m + 1 := ⟨k - 1, by omega⟩
    have h : (i : Int) < (l.length : Int) := by omega
    have h' : (i : Int) < (o.length : Int) := by omega
    have h0 : (0 : Int) ≤ (i : Int) := by omega
    have hil : i < l.length := by omega
    simp only [laws_toIntS.l0]; rw [if_pos h, if_pos h0, if_pos h', wrap_succ (n := l.length) (by omega) hl, Int.toNat_natCast, rd_nat _ _ hil]
    refine ih k _ (i + 1) (by simpa using ho) (by omega) ?_ (by omega)
    rw [set_take _ _ _ (by omega), he, List.take_succ_eq_append_getElem hil]
theorem toIntS_all (k : Nat) (l : List Int) (hl : l.length ≤ 1099511627776) (hk : l.length < k) : laws_toIntS.f k l = some l := by
  unfold laws_toIntS.f
  have h0 : (0 : Int) ≤ (l.length : Int) := by omega
  have h1 : ((l.length : Int)).toNat ≤ 35184372088832 := by omega
  rw [if_pos h0, if_pos h1]
  exact toIntS_loop l hl l.length k _ 0 (by simp) (by omega) (by simp) hk

def cvReq (z : S63) : S57 := ⟨z.f0, z.f1, z.f2, z.f3, z.f4, z.f5⟩
def cvPost (z : S65) : S59 := ⟨z.f0, z.f1, cvReq z.f2⟩
theorem toPost_is (k : Nat) (z : S65) (hz : z.f2.f5.length ≤ 1048576) (hk : 1048576 < k) : laws_toPost.f k z.f0 z.f1 z.f2.f0 z.f2.f1 z.f2.f2 z.f2.f3 z.f2.f4 z.f2.f5 = some (z.f0, z.f1, z.f2.f0, z.f2.f1, z.f2.f2, z.f2.f3, z.f2.f4, z.f2.f5) := by
  unfold laws_toPost.f laws_toReq.f
  rw [toIntS_all k z.f2.f5 (by omega) (by omega)]; rfl
theorem toPostS_loop (l : List S65) (hl : l.length ≤ 1048576) (hd : ∀ z ∈ l, z.f2.f5.length ≤ 1048576) (d : Nat) : ∀ (k : Nat) (o : List S59) (i : Nat), o.length = l.length → i + d = l.length → o.take i = (l.take i).map cvPost → d + 1048577 < k → laws_toPostS.l0 k l o i = some (l.map cvPost) := by
  induction d with
  | zero =>
    intro k o i ho hi he hk
    obtain ⟨k, rfl⟩ : ∃ m, k = m + 1 := ⟨k - 1, by omega⟩
    have h : ¬ (i : Int) < (l.length : Int) := by omega
    simp only [laws_toPostS.l0]; rw [if_neg h]
    rw [List.take_of_length_le (by omega), List.take_of_length_le (by omega)] at he
    rw [he]
  | succ d ih =>
    intro k o i ho hi he hk
    obtain ⟨k, rfl⟩ : ∃ m, k = m + 1 := ⟨k - 1, by omega⟩
    have h : (i : Int) < (l.length : Int) := by omega
    have h' : (i : Int) < (o.length : Int) := by omega
    have h0 : (0 : Int) ≤ (i : Int) := by omega
    have hil : i < l.length := by omega
    have hr : rd_T65 l (i : Int) = l[i] := getD_nat _ _ _ hil
    simp only [laws_toPostS.l0]; rw [if_pos h, if_pos h0, hr, toPost_is k _ (hd _ (List.getElem_mem hil)) (by omega)]; simp only [Option.bind_some]
    rw [if_pos h', wrap_succ (n := l.length) (by omega) (by omega), Int.toNat_natCast]
    refine ih k _ (i + 1) (by simpa using ho) (by omega) ?_ (by omega)
    rw [set_take _ _ _ (by omega), he, List.take_succ_eq_append_getElem hil, List.map_append]
    rfl
theorem toPostS_all (k : Nat) (l : List S65) (hl : l.length ≤ 1048576) (hd : ∀ z ∈ l, z.f2.f5.length ≤ 1048576) (hk : 2097160 < k) : laws_toPostS.f k l = some (l.map cvPost) := by
  unfold laws_toPostS.f
  have h0 : (0 : Int) ≤ (l.length : Int) := by omega
  have h1 : ((l.length : Int)).toNat ≤ 3518437208883 := by omega
  rw [if_pos h0, if_pos h1]
  exact toPostS_loop l hl hd l.length k _ 0 (by simp) (by omega) (by simp) (by omega)
theorem toScript_all (k : Nat) (l : List S65) (w s : List Int) (hl : l.length ≤ 1048576) (hd : ∀ z ∈ l, z.f2.f5.length ≤ 1048576) (hw : w.length ≤ 1048576) (hs : s.length ≤ 1048576) (hk : 2097160 < k) : laws_toScript.f k l w s = some (l.map cvPost, w, s) := by
  unfold laws_toScript.f
  rw [toPostS_all k l hl hd hk, toIntS_all k w (by omega) (by omega), toIntS_all k s (by omega) (by omega)]; rfl

theorem eqIntS_loop (l : List Int) (hl : l.length ≤ 1099511627776) (d : Nat) : ∀ (k i : Nat), i + d = l.length → d < k → laws_eqIntS.l0 k l l i = some true := by
  induction d with
  | zero =>
    intro k i hi hk
    obtain ⟨k, rfl⟩ : ∃ m, k = m + 1 := ⟨k - 1, by omega⟩
    have h : ¬ (i : Int) < (l.length : Int) := by omega
    simp only [laws_eqIntS.l0]; rw [if_neg h]
  | succ d ih =>
    intro k i hi hk
    obtain ⟨k, rfl⟩ : ∃ m, k = m + 1 := ⟨k - 1, by omega⟩
    have h : (i : Int) < (l.length : Int) := by omega
    have h0 : (0 : Int) ≤ (i : Int) := by omega
    have e := ih k (i + 1) (by omega) (by omega)
    simp only [laws_eqIntS.l0]; rw [if_pos h, if_pos h0, if_pos h, wrap_succ (n := l.length) (by omega) hl]
    simp only [if_true]; exact e
theorem eqIntS_refl (l : List Int) (hl : l.length ≤ 1099511627776) (k : Nat) (hk : l.length < k) : laws_eqIntS.f k l l = some true := by
  unfold laws_eqIntS.f; rw [if_pos rfl]; exact eqIntS_loop l hl l.length k 0 (by omega) hk

theorem eqPost_is (k : Nat) (z : S59) (hz : z.f2.f5.length ≤ 1048576) (hk : 1048576 < k) : laws_eqPost.f k z.f0 z.f1 z.f2.f0 z.f2.f1 z.f2.f2 z.f2.f3 z.f2.f4 z.f2.f5 z.f0 z.f1 z.f2.f0 z.f2.f1 z.f2.f2 z.f2.f3 z.f2.f4 z.f2.f5 = some true := by
  unfold laws_eqPost.f laws_eqReq.f
  rw [eqIntS_refl z.f2.f5 (by omega) k (by omega)]; simp
theorem eqPostS_loop (l : List S59) (hl : l.length ≤ 1048576) (hd : ∀ z ∈ l, z.f2.f5.length ≤ 1048576) (d : Nat) : ∀ (k i : Nat), i + d = l.length → d + 1048577 < k → laws_eqPostS.l0 k l l i = some true := by
  induction d with
  | zero =>
    intro k i hi hk
    obtain ⟨k, rfl⟩ : ∃ m, k = m + 1 := ⟨k - 1, by omega⟩
    have h : ¬ (i : Int) < (l.length : Int) := by omega
    simp only [laws_eqPostS.l0]; rw [if_neg h]
  | succ d ih =>
    intro k i hi hk
    obtain ⟨k, rfl⟩ : ∃ m, k = m + 1 := ⟨k - 1, by omega⟩
    have h : (i : Int) < (l.length : Int) := by omega
    have h0 : (0 : Int) ≤ (i : Int) := by omega
    have hil : i < l.length := by omega
    have hr : rd_T59 l (i : Int) = l[i] := getD_nat _ _ _ hil
    have e := ih k (i + 1) (by omega) (by omega)
    simp only [laws_eqPostS.l0]; rw [if_pos h, if_pos h0, if_pos h, hr, eqPost_is k _ (hd _ (List.getElem_mem hil)) (by omega), wrap_succ (n := l.length) (by omega) (by omega)]
    simpa using e
theorem eqPostS_refl (k : Nat) (l : List S59) (hl : l.length ≤ 1048576) (hd : ∀ z ∈ l, z.f2.f5.length ≤ 1048576) (hk : 2097160 < k) : laws_eqPostS.f k l l = some true := by
  unfold laws_eqPostS.f; rw [if_pos rfl]; exact eqPostS_loop l hl hd l.length k 0 (by omega) (by omega)
theorem eqScript_refl (k : Nat) (l : List S59) (w s : List Int) (hl : l.length ≤ 1048576) (hd : ∀ z ∈ l, z.f2.f5.length ≤ 1048576) (hw : w.length ≤ 1048576) (hs : s.length ≤ 1048576) (hk : 2097160 < k) : laws_eqScript.f k l w s l w s = some true := by
  unfold laws_eqScript.f
  rw [eqPostS_refl k l hl hd hk]; simp only [Option.bind_some, if_true]
  rw [eqIntS_refl w (by omega) k (by omega)]; simp only [Option.bind_some, if_true]
  rw [eqIntS_refl s (by omega) k (by omega)]; simp

theorem szInt_is (l : List Int) (a : Int) (h0 : 0 ≤ a) (h1 : a ≤ 1048576) (hl : l.length ≤ 9223372036854775807) : laws_szIntS.f l a = some (if a < l.length then -1 else a - l.length) := by
  have hw : wrap64 (a - (l.length : Int)) = a - l.length := wrap64_id (by omega) (by omega)
  unfold laws_szIntS.f; rw [hw]
  by_cases h : a < l.length
  · rw [if_pos h, if_pos (by omega)]
  · rw [if_neg h, if_neg (by omega)]

theorem szPost_is (z : S65) (a : Int) (h0 : 0 ≤ a) (h1 : a ≤ 1048576) (hz : z.f2.f5.length ≤ 9223372036854775807) : laws_szPost.f z.f0 z.f1 z.f2.f0 z.f2.f1 z.f2.f2 z.f2.f3 z.f2.f4 z.f2.f5 a = some (if a < z.f2.f5.length then -1 else a - z.f2.f5.length) := by
  unfold laws_szPost.f laws_szReq.f
  rw [szInt_is z.f2.f5 a h0 h1 hz]; simp only [Option.bind_some]
  by_cases h : a < z.f2.f5.length
  · rw [if_pos h]; simp
  · rw [if_neg h, if_neg (by omega)]; simp only [Option.bind_some]; rw [if_neg (by omega)]
theorem szPostS_loop (l : List S65) (hl : l.length ≤ 1048576) (hz : ∀ z ∈ l, z.f2.f5.length ≤ 9223372036854775807) (d : Nat) : ∀ (k i : Nat) (a : Int), i + d = l.length → d < k → 0 ≤ a → a ≤ 1048576 →
    ∃ r, laws_szPostS.l0 k l a i = some r ∧ (r < 0 ∨ (0 ≤ r ∧ r ≤ a ∧ ∀ j (hj : j < l.length), i ≤ j → (l[j].f2.f5.length : Int) ≤ a)) := by
  induction d with
  | zero =>
    intro k i a hi hk h0 h1
    obtain ⟨k, rfl⟩ : ∃ m, k = m + 1 := ⟨k - 1, by omega⟩
    have h : ¬ (i : Int) < (l.length : Int) := by omega
    refine ⟨a, by simp only [laws_szPostS.l0]; rw [if_neg h], .inr ⟨h0, Int.le_refl _, fun j hj hij => by omega⟩⟩
  | succ d ih =>
    intro k i a hi hk h0 h1
    obtain ⟨k, rfl⟩ : ∃ m, k = m + 1 := ⟨k - 1, by omega⟩
    have h : (i : Int) < (l.length : Int) := by omega
    have hn : (0 : Int) ≤ (i : Int) := by omega
    have hil : i < l.length := by omega
    have hr : rd_T65 l (i : Int) = l[i] := getD_nat _ _ _ hil
    simp only [laws_szPostS.l0]; rw [if_pos h, if_pos hn, hr, szPost_is _ a h0 h1 (hz _ (List.getElem_mem hil))]; simp only [Option.bind_some]
    by_cases c : a < l[i].f2.f5.length
    · rw [if_pos c, if_pos (by omega)]; exact ⟨-1, rfl, .inl (by omega)⟩
    · rw [if_neg c, if_neg (by omega), wrap_succ (n := l.length) (by omega) (by omega)]
      obtain ⟨r, e, hr⟩ := ih k (i + 1) (a - l[i].f2.f5.length) (by omega) (by omega) (by omega) (by omega)
      refine ⟨r, e, ?_⟩
      rcases hr with hr | ⟨r0, r1, r2⟩
      · exact .inl hr
      · refine .inr ⟨r0, by omega, fun j hj hij => ?_⟩
        by_cases hji : j = i
        · subst hji; omega
        · have := r2 j hj (by omega); omega
theorem szScript_is (k : Nat) (l : List S65) (w s : List Int) (a : Int) (ha : 0 ≤ a) (hb : a ≤ 1048576) (hl : l.length ≤ 9223372036854775807) (hz : ∀ z ∈ l, z.f2.f5.length ≤ 9223372036854775807) (hw : w.length ≤ 9223372036854775807) (hs : s.length ≤ 9223372036854775807) (hk : 1048580 < k) :
    ∃ r, laws_szScript.f k l w s a = some r ∧ (r < 0 ∨ (l.length ≤ 1048576 ∧ (∀ z ∈ l, z.f2.f5.length ≤ 1048576) ∧ w.length ≤ 1048576 ∧ s.length ≤ 1048576 ∧ 0 ≤ r ∧ r ≤ 1048576)) := by
  unfold laws_szScript.f laws_szPostS.f
  have hw0 : wrap64 (a - (l.length : Int)) = a - l.length := wrap64_id (by omega) (by omega)
  rw [hw0]; clear hw0
  by_cases c0 : a - (l.length : Int) < 0
  · rw [if_pos c0]; exact ⟨-1, by simp, .inl (by omega)⟩
  · rw [if_neg c0]
    obtain ⟨r, e, hr⟩ := szPostS_loop l (by omega) hz l.length k 0 (a - l.length) (by omega) (by omega) (by omega) (by omega)
    rw [show ((0 : Nat) : Int) = 0 from rfl] at e
    rw [e]; simp only [Option.bind_some]
    rcases hr with hr | ⟨r0, r1, r2⟩
    · rw [if_pos hr]; exact ⟨-1, rfl, .inl (by omega)⟩
    · rw [if_neg (by omega), szInt_is w r r0 (by omega) hw]; simp only [Option.bind_some]
      by_cases c1 : r < w.length
      · rw [if_pos c1, if_pos (by omega)]; exact ⟨-1, rfl, .inl (by omega)⟩
      · rw [if_neg c1, if_neg (by omega), szInt_is s (r - w.length) (by omega) (by omega) hs]; simp only [Option.bind_some]
        by_cases c2 : r - w.length < s.length
        · rw [if_pos c2, if_pos (by omega)]; exact ⟨-1, rfl, .inl (by omega)⟩
        · rw [if_neg c2, if_neg (by omega)]
          refine ⟨_, rfl, .inr ⟨by omega, fun z hzm => ?_, by omega, by omega, by omega, by omega⟩⟩
          obtain ⟨j, hj, rfl⟩ := List.getElem_of_mem hzm
          have := r2 j hj (by omega); omega
theorem cv_len (l : List S65) (hd : ∀ z ∈ l, z.f2.f5.length ≤ 1048576) : ∀ z ∈ l.map cvPost, z.f2.f5.length ≤ 1048576 := by
  intro z hz
  obtain ⟨y, hy, rfl⟩ := List.mem_map.1 hz
  exact hd y hy

def elementM (l : List Int) (k : Int) : Int := if (l.length : Int) = 0 ∨ k < 0 then 0 else rd l (Int.tmod k (l.length : Int))
theorem element_in (l : List Int) (k : Int) (h : ¬ ((l.length : Int) = 0 ∨ k < 0)) : 0 ≤ Int.tmod k (l.length : Int) ∧ Int.tmod k (l.length : Int) < (l.length : Int) := by
  rw [Int.tmod_eq_emod_of_nonneg (by omega)]
  exact ⟨Int.emod_nonneg _ (by omega), Int.emod_lt_of_pos _ (by omega)⟩
theorem impl_elem (l : List Int) (k : Int) : impl_element.f l k = some (elementM l k) := by
  unfold impl_element.f elementM
  by_cases h1 : (l.length : Int) = 0
  · rw [if_pos h1, if_pos (.inl h1)]
  rw [if_neg h1]
  by_cases h2 : k < 0
  · rw [if_pos h2, if_pos (.inr h2)]
  have hn : ¬ ((l.length : Int) = 0 ∨ k < 0) := by omega
  obtain ⟨g0, g1⟩ := element_in l k hn
  rw [if_neg h2, if_pos g0, if_pos g1, if_neg hn]

theorem spec_elem (l : List Int) (k : Int) : spec_l7At.f l k = some (elementM l k) := by
  unfold spec_l7At.f elementM
  by_cases h1 : (l.length : Int) = 0
  · rw [if_pos h1, if_pos (.inl h1)]
  rw [if_neg h1]
  by_cases h2 : k < 0
  · rw [if_pos h2, if_pos (.inr h2)]
  have hn : ¬ ((l.length : Int) = 0 ∨ k < 0) := by omega
  obtain ⟨g0, g1⟩ := element_in l k hn
  rw [if_neg h2, if_pos g0, if_pos g1, if_neg hn]

def cvMConf (z : S70) : S68 := ⟨z.f0, z.f1, z.f2, z.f3⟩
theorem toMConfS_loop (l : List S70) (hl : l.length ≤ 1099511627776) (d : Nat) : ∀ (k : Nat) (o : List S68) (i : Nat), o.length = l.length → i + d = l.length → o.take i = (l.take i).map cvMConf → d < k → laws_toMConfS.l0 k l o i = some (l.map cvMConf) := by
  induction d with
  | zero =>
    intro k o i ho hi he hk
    obtain ⟨k, rfl⟩ : ∃ m, k = m + 1 := ⟨k - 1, by omega⟩
    have h : ¬ (i : Int) < (l.length : Int) := by omega
    simp only [laws_toMConfS.l0]; rw [if_neg h]
    rw [List.take_of_length_le (by omega), List.take_of_length_le (by omega)] at he
    rw [he]
  | succ d ih =>
    intro k o i ho hi he hk
    obtain ⟨k, rfl⟩ : ∃ m, k = m + 1 := ⟨k - 1, by omega⟩
    have h : (i : Int) < (l.length : Int) := by omega
    have h' : (i : Int) < (o.length : Int) := by omega
    have h0 : (0 : Int) ≤ (i : Int) := by omega
    have hil : i < l.length := by omega
    have hr : rd_T70 l (i : Int) = l[i] := getD_nat _ _ _ hil
    simp only [laws_toMConfS.l0]; rw [if_pos h, if_pos h0, hr]; simp only [laws_toMConf.f, Option.bind_some]
    rw [if_pos h', wrap_succ (n := l.length) (by omega) hl, Int.toNat_natCast]
    refine ih k _ (i + 1) (by simpa using ho) (by omega) ?_ (by omega)
    rw [set_take _ _ _ (by omega), he, List.take_succ_eq_append_getElem hil, List.map_append]
    rfl
theorem toMConfS_all (k : Nat) (l : List S70) (hl : l.length ≤ 1099511627776) (hk : l.length < k) : laws_toMConfS.f k l = some (l.map cvMConf) := by
  unfold laws_toMConfS.f
  have h0 : (0 : Int) ≤ (l.length : Int) := by omega
  have h1 : ((l.length : Int)).toNat ≤ 8796093022208 := by omega
  rw [if_pos h0, if_pos h1]
  exact toMConfS_loop l hl l.length k _ 0 (by simp) (by omega) (by simp) hk

theorem eqMConfS_loop (l : List S68) (hl : l.length ≤ 1099511627776) (d : Nat) : ∀ (k i : Nat), i + d = l.length → d < k → laws_eqMConfS.l0 k l l i = some true := by
  induction d with
  | zero =>
    intro k i hi hk
    obtain ⟨k, rfl⟩ : ∃ m, k = m + 1 := ⟨k - 1, by omega⟩
    have h : ¬ (i : Int) < (l.length : Int) := by omega
    simp only [laws_eqMConfS.l0]; rw [if_neg h]
  | succ d ih =>
    intro k i hi hk
    obtain ⟨k, rfl⟩ : ∃ m, k = m + 1 := ⟨k - 1, by omega⟩
    have h : (i : Int) < (l.length : Int) := by omega
    have h0 : (0 : Int) ≤ (i : Int) := by omega
    have e := ih k (i + 1) (by omega) (by omega)
    simp only [laws_eqMConfS.l0]; rw [if_pos h, if_pos h0, if_pos h, wrap_succ (n := l.length) (by omega) hl]
    simpa [laws_eqMConf.f] using e
theorem eqMConfS_refl (l : List S68) (hl : l.length ≤ 1099511627776) (k : Nat) (hk : l.length < k) : laws_eqMConfS.f k l l = some true := by
  unfold laws_eqMConfS.f; rw [if_pos rfl]; exact eqMConfS_loop l hl l.length k 0 (by omega) hk

theorem szConf_is (l : List S70) (a1 a2 a3 a4 a5 a : Int) (h0 : 0 ≤ a) (h1 : a ≤ 1048576) (hb : (l.length : Int) ≤ 9223372036854775807) :
    laws_szConf.f l a1 a2 a3 a4 a5 a = some (if a < l.length then -1 else a - l.length) := by
  have hw : wrap64 (a - (l.length : Int)) = a - l.length := wrap64_id (by omega) (by omega)
  unfold laws_szConf.f laws_szMConfS.f; rw [hw]
  by_cases h : a < l.length
  · rw [if_pos h, if_pos (by omega)]; simp
  · rw [if_neg h, if_neg (by omega)]; simp only [Option.bind_some]; rw [if_neg (by omega)]

theorem mn_comm (a b : Int) : mn a b = mn b a := by unfold mn; split <;> split <;> omega
theorem FnExactWaitAt (c : List S70) (a1 a2 a3 a4 a5 : Int) (l : List S65) (w s : List Int) (n : Int) (hc : c.length ≤ 9223372036854775807) (_ : (Lit.int .i64 a1).wf = true) (_ : (Lit.int .i64 a2).wf = true) (_ : (Lit.int .i64 a3).wf = true) (_ : (Lit.int .i64 a4).wf = true) (_ : (Lit.int .i64 a5).wf = true)
    (hl : l.length ≤ 9223372036854775807) (hz : ∀ z ∈ l, z.f2.f5.length ≤ 9223372036854775807) (hw : w.length ≤ 9223372036854775807) (hs : s.length ≤ 9223372036854775807) (_ : (Lit.int .i64 n).wf = true) : ∃ k, laws_FnExactWaitAt.f k c a1 a2 a3 a4 a5 l w s n = some true := by
  refine ⟨2097200, ?_⟩
  generalize hk : 2097200 = k
  unfold laws_FnExactWaitAt.f
  rw [szConf_is c a1 a2 a3 a4 a5 1048576 (by omega) (by omega) (by omega)]; simp only [Option.bind_some]
  by_cases h : (1048576 : Int) < c.length
  · rw [if_pos h]; simp
  · rw [if_neg h, if_neg (by omega)]
    obtain ⟨r, er, hr⟩ := szScript_is k l w s (1048576 - c.length) (by omega) (by omega) hl hz hw hs (by omega)
    rw [er]; simp only [Option.bind_some]
    rcases hr with hr | ⟨l1, d1, w1, s1, r0, _⟩
    · rw [if_pos hr]
    · have ht : laws_toConf.f k c a1 a2 a3 a4 a5 = some (c.map cvMConf, a1, a2, a3, a4, a5) := by
        unfold laws_toConf.f; rw [toMConfS_all k c (by omega) (by omega)]; rfl
      have hq : laws_eqConf.f k (c.map cvMConf) a1 a2 a3 a4 a5 (c.map cvMConf) a1 a2 a3 a4 a5 = some true := by
        unfold laws_eqConf.f; rw [eqMConfS_refl _ (by simp; omega) k (by simp; omega)]; simp
      have he : spec_WaitAt.f (c.map cvMConf) a1 a2 a3 a4 a5 (l.map cvPost) w s n = impl_WaitAt.f (c.map cvMConf) a1 a2 a3 a4 a5 (l.map cvPost) w s n := by
        unfold spec_WaitAt.f impl_WaitAt.f; rw [spec_elem, impl_elem]; simp only [Option.bind_some]; rw [mn_comm]
      obtain ⟨q, hqq⟩ : ∃ q, impl_WaitAt.f (c.map cvMConf) a1 a2 a3 a4 a5 (l.map cvPost) w s n = some q := by
        unfold impl_WaitAt.f; rw [impl_elem]; exact ⟨_, rfl⟩
      rw [if_neg (by omega), ht, toScript_all k l w s l1 d1 w1 s1 (by omega)]; simp only [Option.bind_some]
      rw [he, hqq]; simp only [Option.bind_some, if_true]
      rw [hq]; simp only [Option.bind_some, if_true]
      rw [eqScript_refl k _ w s (by simpa using l1) (cv_len l d1) w1 s1 (by omega)]; simp

end Go.Proofs.Ytkolojgkpmbbbaa.Pure
