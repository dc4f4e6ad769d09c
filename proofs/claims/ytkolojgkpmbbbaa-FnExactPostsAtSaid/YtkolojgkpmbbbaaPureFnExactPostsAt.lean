/- The program's PostsAt answers as the reference's, leaves its argument alone and returns memory of its own, for every script and cycle. -/
import Derived.Test.YtkolojgkpmbbbaaMFnExactPostsAtx
namespace Go.Proofs.Ytkolojgkpmbbbaa.Pure
open Go.RowKit Go.Proofs.Ytkolojgkpmbbbaa.MFnExactPostsAt Go.Proofs.YtkolojgkpmbbbaaW.PrintWords Go.Proofs.YtkolojgkpmbbbaaW.PrintLast Go.Proofs.YtkolojgkpmbbbaaW.PrintMore
set_option linter.unusedVariables false
set_option linter.unusedSimpArgs false
set_option maxHeartbeats 4000000

theorem wf_of {a : Int} (h : (Lit.int .i64 a).wf = true) : -9223372036854775808 ≤ a ∧ a ≤ 9223372036854775807 := by
  simp [Lit.wf, IntKind.min, IntKind.max, IntKind.signed, IntKind.bits] at h; omega
theorem pow_le_i (b i j : Nat) (h0 : 0 < b) (h : i ≤ j) : (b : Int) ^ i ≤ (b : Int) ^ j := by
  have h1 := Nat.pow_le_pow_right h0 h
  have h2 : ((b ^ i : Nat) : Int) ≤ ((b ^ j : Nat) : Int) := Int.ofNat_le.2 h1
  rwa [Int.natCast_pow, Int.natCast_pow] at h2
theorem wrap64_id {a : Int} (h0 : -9223372036854775808 ≤ a) (h1 : a ≤ 9223372036854775807) : wrap64 a = a := by unfold wrap64; omega

theorem wrap_succ {i n : Nat} (h : i < n) (hn : n ≤ 1099511627776) : wrap64 ((i : Int) + 1) = ((i + 1 : Nat) : Int) := by unfold wrap64; omega
theorem rd_nat (l : List Int) (i : Nat) (h : i < l.length) : rd l (i : Int) = l[i] := by
  unfold rd; simp [List.getD_eq_getElem?_getD, List.getElem?_eq_getElem h]
theorem rdOf_nat {α : Type} (d : α) (l : List α) (i : Nat) (h : i < l.length) : rdOf d l (i : Int) = l[i] := by
  unfold rdOf; simp [List.getD_eq_getElem?_getD, List.getElem?_eq_getElem h]
theorem set_take {α : Type} (l : List α) (i : Nat) (x : α) (h : i < l.length) : (l.set i x).take (i + 1) = l.take i ++ [x] := by
  rw [List.take_succ_eq_append_getElem (by simpa using h), List.take_set, List.set_eq_of_length_le (by simp; omega)]; simp
theorem set_drop {α : Type} (l : List α) (i : Nat) (x : α) : (l.set i x).drop (i + 1) = l.drop (i + 1) := by
  rw [List.drop_set]; simp

theorem getD_nat {α : Type} (d : α) (l : List α) (i : Nat) (h : i < l.length) : l.getD ((i : Int)).toNat d = l[i] := by
  simp [List.getD_eq_getElem?_getD, List.getElem?_eq_getElem h]

theorem toIntS_loop (l : List Int) (hl : l.length ≤ 1099511627776) (d : Nat) : ∀ (k : Nat) (o : List Int) (i : Nat), o.length = l.length → i + d = l.length → o.take i = l.take i → d < k → laws_toIntS.l0 k l o i = some l := by
  induction d with
  | zero =>
    intro k o i ho hi he hk
    obtain ⟨k, rfl⟩ : ∃ m, k = m + 1 := ⟨k - 1, by omega⟩
    have h : ¬ (i : Int) < (l.length : Int) := by omega
    simp only [laws_toIntS.l0]; rw [if_neg h]
    rw [List.take_of_length_le (by omega), List.take_of_length_le (by omega)] at he
    rw [he]
  | succ d ih =>
    intro k o i ho hi he hk
    obtain ⟨k, rfl⟩ : ∃ m, k = m + 1 := ⟨k - 1, by omega⟩
    have h : (i : Int) < (l.length : Int) := by omega
    have h' : (i : Int) < (o.length : Int) := by omega
    have h0 : (0 : Int) ≤ (i : Int) := by omega
    have hil : i < l.length := by omega
    simp only [laws_toIntS.l0]; rw [if_pos h, if_pos h0, if_pos h', wrap_succ (n := l.length) (by omega) hl, Int.toNat_natCast, rd_nat _ _ hil]
    refine ih k _ (i + 1) (by simpa using ho) (by omega) ?_ (by omega)
    rw [set_take _ _ _ (by omega), he, List.take_succ_eq_append_getElem hil]
theorem toIntS_all (k : Nat) (l : List Int) (hl : l.length ≤ 1099511627776) (hk : l.length < k) : laws_toIntS.f k l = some l := by
  unfold laws_toIntS.f
  have h0 : (0 : Int) ≤ (l.length : Int) := by omega
  have h1 : ((l.length : Int)).toNat ≤ 35184372088832 := by omega
  rw [if_pos h0, if_pos h1]
  exact toIntS_loop l hl l.length k _ 0 (by simp) (by omega) (by simp) hk

def cvReq (z : S63) : S57 := ⟨z.f0, z.f1, z.f2, z.f3, z.f4, z.f5⟩
def cvPost (z : S65) : S59 := ⟨z.f0, z.f1, cvReq z.f2⟩
theorem toPost_is (k : Nat) (z : S65) (hz : z.f2.f5.length ≤ 1048576) (hk : 1048576 < k) : laws_toPost.f k z.f0 z.f1 z.f2.f0 z.f2.f1 z.f2.f2 z.f2.f3 z.f2.f4 z.f2.f5 = some (z.f0, z.f1, z.f2.f0, z.f2.f1, z.f2.f2, z.f2.f3, z.f2.f4, z.f2.f5) := by
  unfold laws_toPost.f laws_toReq.f
  rw [toIntS_all k z.f2.f5 (by omega) (by omega)]; rfl
theorem toPostS_loop (l : List S65) (hl : l.length ≤ 1048576) (hd : ∀ z ∈ l, z.f2.f5.length ≤ 1048576) (d : Nat) : ∀ (k : Nat) (o : List S59) (i : Nat), o.length = l.length → i + d = l.length → o.take i = (l.take i).map cvPost → d + 1048577 < k → laws_toPostS.l0 k l o i = some (l.map cvPost) := by
  induction d with
  | zero =>
    intro k o i ho hi he hk
    obtain ⟨k, rfl⟩ : ∃ m, k = m + 1 := ⟨k - 1, by omega⟩
    have h : ¬ (i : Int) < (l.length : Int) := by omega
    simp only [laws_toPostS.l0]; rw [if_neg h]
    rw [List.take_of_length_le (by omega), List.take_of_length_le (by omega)] at he
    rw [he]
  | succ d ih =>
    intro k o i ho hi he hk
    obtain ⟨k, rfl⟩ : ∃ m, k = m + 1 := ⟨k - 1, by omega⟩
    have h : (i : Int) < (l.length : Int) := by omega
    have h' : (i : Int) < (o.length : Int) := by omega
    have h0 : (0 : Int) ≤ (i : Int) := by omega
    have hil : i < l.length := by omega
    have hr : rd_T65 l (i : Int) = l[i] := getD_nat _ _ _ hil
    simp only [laws_toPostS.l0]; rw [if_pos h, if_pos h0, hr, toPost_is k _ (hd _ (List.getElem_mem hil)) (by omega)]; simp only [Option.bind_some]
    rw [if_pos h', wrap_succ (n := l.length) (by omega) (by omega), Int.toNat_natCast]
    refine ih k _ (i + 1) (by simpa using ho) (by omega) ?_ (by omega)
    rw [set_take _ _ _ (by omega), he, List.take_succ_eq_append_getElem hil, List.map_append]
    rfl
theorem toPostS_all (k : Nat) (l : List S65) (hl : l.length ≤ 1048576) (hd : ∀ z ∈ l, z.f2.f5.length ≤ 1048576) (hk : 2097160 < k) : laws_toPostS.f k l = some (l.map cvPost) := by
  unfold laws_toPostS.f
  have h0 : (0 : Int) ≤ (l.length : Int) := by omega
  have h1 : ((l.length : Int)).toNat ≤ 3518437208883 := by omega
  rw [if_pos h0, if_pos h1]
  exact toPostS_loop l hl hd l.length k _ 0 (by simp) (by omega) (by simp) (by omega)
theorem toScript_all (k : Nat) (l : List S65) (w s : List Int) (hl : l.length ≤ 1048576) (hd : ∀ z ∈ l, z.f2.f5.length ≤ 1048576) (hw : w.length ≤ 1048576) (hs : s.length ≤ 1048576) (hk : 2097160 < k) : laws_toScript.f k l w s = some (l.map cvPost, w, s) := by
  unfold laws_toScript.f
  rw [toPostS_all k l hl hd hk, toIntS_all k w (by omega) (by omega), toIntS_all k s (by omega) (by omega)]; rfl

theorem eqIntS_loop (l : List Int) (hl : l.length ≤ 1099511627776) (d : Nat) : ∀ (k i : Nat), i + d = l.length → d < k → laws_eqIntS.l0 k l l i = some true := by
  induction d with
  | zero =>
    intro k i hi hk
    obtain ⟨k, rfl⟩ : ∃ m, k = m + 1 := ⟨k - 1, by omega⟩
    have h : ¬ (i : Int) < (l.length : Int) := by omega
    simp only [laws_eqIntS.l0]; rw [if_neg h]
  | succ d ih =>
    intro k i hi hk
    obtain ⟨k, rfl⟩ : ∃ m, k = m + 1 := ⟨k - 1, by omega⟩
    have h : (i : Int) < (l.length : Int) := by omega
    have h0 : (0 : Int) ≤ (i : Int) := by omega
    have e := ih k (i + 1) (by omega) (by omega)
    simp only [laws_eqIntS.l0]; rw [if_pos h, if_pos h0, if_pos h, wrap_succ (n := l.length) (by omega) hl]
    simp only [if_true]; exact e
theorem eqIntS_refl (l : List Int) (hl : l.length ≤ 1099511627776) (k : Nat) (hk : l.length < k) : laws_eqIntS.f k l l = some true := by
  unfold laws_eqIntS.f; rw [if_pos rfl]; exact eqIntS_loop l hl l.length k 0 (by omega) hk

theorem eqPost_is (k : Nat) (z : S59) (hz : z.f2.f5.length ≤ 1048576) (hk : 1048576 < k) : laws_eqPost.f k z.f0 z.f1 z.f2.f0 z.f2.f1 z.f2.f2 z.f2.f3 z.f2.f4 z.f2.f5 z.f0 z.f1 z.f2.f0 z.f2.f1 z.f2.f2 z.f2.f3 z.f2.f4 z.f2.f5 = some true := by
  unfold laws_eqPost.f laws_eqReq.f
  rw [eqIntS_refl z.f2.f5 (by omega) k (by omega)]; simp
theorem eqPostS_loop (l : List S59) (hl : l.length ≤ 1048576) (hd : ∀ z ∈ l, z.f2.f5.length ≤ 1048576) (d : Nat) : ∀ (k i : Nat), i + d = l.length → d + 1048577 < k → laws_eqPostS.l0 k l l i = some true := by
  induction d with
  | zero =>
    intro k i hi hk
    obtain ⟨k, rfl⟩ : ∃ m, k = m + 1 := ⟨k - 1, by omega⟩
    have h : ¬ (i : Int) < (l.length : Int) := by omega
    simp only [laws_eqPostS.l0]; rw [if_neg h]
  | succ d ih =>
    intro k i hi hk
    obtain ⟨k, rfl⟩ : ∃ m, k = m + 1 := ⟨k - 1, by omega⟩
    have h : (i : Int) < (l.length : Int) := by omega
    have h0 : (0 : Int) ≤ (i : Int) := by omega
    have hil : i < l.length := by omega
    have hr : rd_T59 l (i : Int) = l[i] := getD_nat _ _ _ hil
    have e := ih k (i + 1) (by omega) (by omega)
    simp only [laws_eqPostS.l0]; rw [if_pos h, if_pos h0, if_pos h, hr, eqPost_is k _ (hd _ (List.getElem_mem hil)) (by omega), wrap_succ (n := l.length) (by omega) (by omega)]
    simpa using e
theorem eqPostS_refl (k : Nat) (l : List S59) (hl : l.length ≤ 1048576) (hd : ∀ z ∈ l, z.f2.f5.length ≤ 1048576) (hk : 2097160 < k) : laws_eqPostS.f k l l = some true := by
  unfold laws_eqPostS.f; rw [if_pos rfl]; exact eqPostS_loop l hl hd l.length k 0 (by omega) (by omega)
theorem eqScript_refl (k : Nat) (l : List S59) (w s : List Int) (hl : l.length ≤ 1048576) (hd : ∀ z ∈ l, z.f2.f5.length ≤ 1048576) (hw : w.length ≤ 1048576) (hs : s.length ≤ 1048576) (hk : 2097160 < k) : laws_eqScript.f k l w s l w s = some true := by
  unfold laws_eqScript.f
  rw [eqPostS_refl k l hl hd hk]; simp only [Option.bind_some, if_true]
  rw [eqIntS_refl w (by omega) k (by omega)]; simp only [Option.bind_some, if_true]
  rw [eqIntS_refl s (by omega) k (by omega)]; simp

theorem szInt_is (l : List Int) (a : Int) (h0 : 0 ≤ a) (h1 : a ≤ 1048576) (hl : l.length ≤ 9223372036854775807) : laws_szIntS.f l a = some (if a < l.length then -1 else a - l.length) := by
  have hw : wrap64 (a - (l.length : Int)) = a - l.length := wrap64_id (by omega) (by omega)
  unfold laws_szIntS.f; rw [hw]
  by_cases h : a < l.length
  · rw [if_pos h, if_pos (by omega)]
  · rw [if_neg h, if_neg (by omega)]

theorem szPost_is (z : S65) (a : Int) (h0 : 0 ≤ a) (h1 : a ≤ 1048576) (hz : z.f2.f5.length ≤ 9223372036854775807) : laws_szPost.f z.f0 z.f1 z.f2.f0 z.f2.f1 z.f2.f2 z.f2.f3 z.f2.f4 z.f2.f5 a = some (if a < z.f2.f5.length then -1 else a - z.f2.f5.length) := by
  unfold laws_szPost.f laws_szReq.f
  rw [szInt_is z.f2.f5 a h0 h1 hz]; simp only [Option.bind_some]
  by_cases h : a < z.f2.f5.length
  · rw [if_pos h]; simp
  · rw [if_neg h, if_neg (by omega)]; simp only [Option.bind_some]; rw [if_neg (by omega)]
theorem szPostS_loop (l : List S65) (hl : l.length ≤ 1048576) (hz : ∀ z ∈ l, z.f2.f5.length ≤ 9223372036854775807) (d : Nat) : ∀ (k i : Nat) (a : Int), i + d = l.length → d < k → 0 ≤ a → a ≤ 1048576 →
    ∃ r, laws_szPostS.l0 k l a i = some r ∧ (r < 0 ∨ (0 ≤ r ∧ r ≤ a ∧ ∀ j (hj : j < l.length), i ≤ j → (l[j].f2.f5.length : Int) ≤ a)) := by
  induction d with
  | zero =>
    intro k i a hi hk h0 h1
    obtain ⟨k, rfl⟩ : ∃ m, k = m + 1 := ⟨k - 1, by omega⟩
    have h : ¬ (i : Int) < (l.length : Int) := by omega
    refine ⟨a, by simp only [laws_szPostS.l0]; rw [if_neg h], .inr ⟨h0, Int.le_refl _, fun j hj hij => by omega⟩⟩
  | succ d ih =>
    intro k i a hi hk h0 h1
    obtain ⟨k, rfl⟩ : ∃ m, k = m + 1 := ⟨k - 1, by omega⟩
    have h : (i : Int) < (l.length : Int) := by omega
    have hn : (0 : Int) ≤ (i : Int) := by omega
    have hil : i < l.length := by omega
    have hr : rd_T65 l (i : Int) = l[i] := getD_nat _ _ _ hil
    simp only [laws_szPostS.l0]; rw [if_pos h, if_pos hn, hr, szPost_is _ a h0 h1 (hz _ (List.getElem_mem hil))]; simp only [Option.bind_some]
    by_cases c : a < l[i].f2.f5.length
    · rw [if_pos c, if_pos (by omega)]; exact ⟨-1, rfl, .inl (by omega)⟩
    · rw [if_neg c, if_neg (by omega), wrap_succ (n := l.length) (by omega) (by omega)]
      obtain ⟨r, e, hr⟩ := ih k (i + 1) (a - l[i].f2.f5.length) (by omega) (by omega) (by omega) (by omega)
      refine ⟨r, e, ?_⟩
      rcases hr with hr | ⟨r0, r1, r2⟩
      · exact .inl hr
      · refine .inr ⟨r0, by omega, fun j hj hij => ?_⟩
        by_cases hji : j = i
        · subst hji; omega
        · have := r2 j hj (by omega); omega
theorem szScript_is (k : Nat) (l : List S65) (w s : List Int) (a : Int) (ha : 0 ≤ a) (hb : a ≤ 1048576) (hl : l.length ≤ 9223372036854775807) (hz : ∀ z ∈ l, z.f2.f5.length ≤ 9223372036854775807) (hw : w.length ≤ 9223372036854775807) (hs : s.length ≤ 9223372036854775807) (hk : 1048580 < k) :
    ∃ r, laws_szScript.f k l w s a = some r ∧ (r < 0 ∨ (l.length ≤ 1048576 ∧ (∀ z ∈ l, z.f2.f5.length ≤ 1048576) ∧ w.length ≤ 1048576 ∧ s.length ≤ 1048576 ∧ 0 ≤ r ∧ r ≤ 1048576)) := by
  unfold laws_szScript.f laws_szPostS.f
  have hw0 : wrap64 (a - (l.length : Int)) = a - l.length := wrap64_id (by omega) (by omega)
  rw [hw0]; clear hw0
  by_cases c0 : a - (l.length : Int) < 0
  · rw [if_pos c0]; exact ⟨-1, by simp, .inl (by omega)⟩
  · rw [if_neg c0]
    obtain ⟨r, e, hr⟩ := szPostS_loop l (by omega) hz l.length k 0 (a - l.length) (by omega) (by omega) (by omega) (by omega)
    rw [show ((0 : Nat) : Int) = 0 from rfl] at e
    rw [e]; simp only [Option.bind_some]
    rcases hr with hr | ⟨r0, r1, r2⟩
    · rw [if_pos hr]; exact ⟨-1, rfl, .inl (by omega)⟩
    · rw [if_neg (by omega), szInt_is w r r0 (by omega) hw]; simp only [Option.bind_some]
      by_cases c1 : r < w.length
      · rw [if_pos c1, if_pos (by omega)]; exact ⟨-1, rfl, .inl (by omega)⟩
      · rw [if_neg c1, if_neg (by omega), szInt_is s (r - w.length) (by omega) (by omega) hs]; simp only [Option.bind_some]
        by_cases c2 : r - w.length < s.length
        · rw [if_pos c2, if_pos (by omega)]; exact ⟨-1, rfl, .inl (by omega)⟩
        · rw [if_neg c2, if_neg (by omega)]
          refine ⟨_, rfl, .inr ⟨by omega, fun z hzm => ?_, by omega, by omega, by omega, by omega⟩⟩
          obtain ⟨j, hj, rfl⟩ := List.getElem_of_mem hzm
          have := r2 j hj (by omega); omega
theorem cv_len (l : List S65) (hd : ∀ z ∈ l, z.f2.f5.length ≤ 1048576) : ∀ z ∈ l.map cvPost, z.f2.f5.length ≤ 1048576 := by
  intro z hz
  obtain ⟨y, hy, rfl⟩ := List.mem_map.1 hz
  exact hd y hy

/-- What marking lays. -/
def seqInt : Int → Nat → List Int
  | _, 0 => []
  | a, d + 1 => a :: seqInt (a + 1) d
theorem seqInt_length (d : Nat) : ∀ a, (seqInt a d).length = d := by
  induction d with
  | zero => intro a; rfl
  | succ d ih => intro a; simp [seqInt, ih]
theorem markIntS_loop (d : Nat) : ∀ (k : Nat) (l : List Int) (a : Int) (i : Nat), l.length ≤ 1099511627776 → 0 ≤ a → a + d ≤ 4611686018427387904 → i + d = l.length → d < k →
    laws_markIntS.l0 k l a i = some (a + d, l.take i ++ seqInt a d) := by
  induction d with
  | zero =>
    intro k l a i hl ha hb hi hk
    obtain ⟨k, rfl⟩ : ∃ m, k = m + 1 := ⟨k - 1, by omega⟩
    have h : ¬ (i : Int) < (l.length : Int) := by omega
    simp only [laws_markIntS.l0]; rw [if_neg h]; simp [seqInt, List.take_of_length_le (show l.length ≤ i by omega)]
  | succ d ih =>
    intro k l a i hl ha hb hi hk
    obtain ⟨k, rfl⟩ : ∃ m, k = m + 1 := ⟨k - 1, by omega⟩
    have h : (i : Int) < (l.length : Int) := by omega
    have h0 : (0 : Int) ≤ (i : Int) := by omega
    have hw : wrap64 (a + 1) = a + 1 := wrap64_id (by omega) (by omega)
    simp only [laws_markIntS.l0]; rw [if_pos h, if_pos h0, wrap_succ (n := l.length) (by omega) hl, hw, Int.toNat_natCast, ih k _ _ (i + 1) (by simpa using hl) (by omega) (by omega) (by simp; omega) (by omega)]
    rw [set_take _ _ _ (by omega)]
    simp [seqInt]; omega
theorem markIntS_all (k : Nat) (l : List Int) (a : Int) (hl : l.length ≤ 1099511627776) (ha : 0 ≤ a) (hb : a ≤ 2305843009213693952) (hk : l.length < k) :
    laws_markIntS.f k l a = some (a + l.length, seqInt a l.length) := by
  unfold laws_markIntS.f
  have := markIntS_loop l.length k l a 0 hl ha (by omega) (by omega) hk
  simpa using this

theorem heldIntS_loop (d : Nat) : ∀ (k : Nat) (l : List Int) (a : Int) (i : Nat), l.length ≤ 1099511627776 → 0 ≤ a → a + d ≤ 4611686018427387904 → i + d = l.length → l.drop i = seqInt a d → d < k →
    laws_heldIntS.l0 k l a i = some (a + d) := by
  induction d with
  | zero =>
    intro k l a i hl ha hb hi he hk
    obtain ⟨k, rfl⟩ : ∃ m, k = m + 1 := ⟨k - 1, by omega⟩
    have h : ¬ (i : Int) < (l.length : Int) := by omega
    simp only [laws_heldIntS.l0]; rw [if_neg h]; simp
  | succ d ih =>
    intro k l a i hl ha hb hi he hk
    obtain ⟨k, rfl⟩ : ∃ m, k = m + 1 := ⟨k - 1, by omega⟩
    have h : (i : Int) < (l.length : Int) := by omega
    have h0 : (0 : Int) ≤ (i : Int) := by omega
    have hw : wrap64 (a + 1) = a + 1 := wrap64_id (by omega) (by omega)
    have hil : i < l.length := by omega
    rw [List.drop_eq_getElem_cons hil] at he
    simp only [seqInt, List.cons.injEq] at he
    have e := ih k l (a + 1) (i + 1) hl (by omega) (by omega) (by omega) he.2 (by omega)
    simp only [laws_heldIntS.l0]; rw [if_pos h, if_pos h0, rd_nat _ _ hil, he.1, wrap_succ (n := l.length) (by omega) hl, hw]
    rw [if_pos rfl]; rw [e]; congr 1; omega
theorem heldIntS_all (k n : Nat) (a : Int) (hl : n ≤ 1099511627776) (ha : 0 ≤ a) (hb : a ≤ 2305843009213693952) (hk : n < k) :
    laws_heldIntS.f k (seqInt a n) a = some (a + n) := by
  unfold laws_heldIntS.f
  exact heldIntS_loop n k _ a 0 (by rw [seqInt_length]; exact hl) ha (by omega) (by rw [seqInt_length]; omega) (by simp) hk

/-- What marking lays into a post; into posts; the number behind them. -/
def postMark (z : S59) (a : Int) : S59 := ⟨a, a + 1, ⟨((Int.tmod (a + 2) 3) == 0), a + 3, a + 4, a + 5, ((Int.tmod (a + 6) 3) == 0), seqInt (a + 7) z.f2.f5.length⟩⟩
def marks : List S59 → Int → List S59
  | [], _ => []
  | z :: r, a => postMark z a :: marks r (a + 7 + z.f2.f5.length)
def msum : List S59 → Int → Int
  | [], a => a
  | z :: r, a => msum r (a + 7 + z.f2.f5.length)
theorem msum_le (r : List S59) (hd : ∀ z ∈ r, z.f2.f5.length ≤ 1048576) : ∀ a : Int, a ≤ msum r a ∧ msum r a ≤ a + r.length * 1048583 := by
  induction r with
  | nil => intro a; simp [msum]
  | cons z r ih =>
    intro a
    have h1 := hd z (by simp)
    have h2 := ih (fun y hy => hd y (by simp [hy])) (a + 7 + z.f2.f5.length)
    simp only [msum, List.length_cons]
    omega
theorem marks_length (r : List S59) : ∀ a, (marks r a).length = r.length := by
  induction r with
  | nil => intro a; rfl
  | cons z r ih => intro a; simp [marks, ih]
theorem w8 {a : Int} (h0 : 0 ≤ a) (h1 : a ≤ 4611686018427387000) : wrap64 (a + 1) = a + 1 ∧ wrap64 (a + 1 + 1) = a + 2 ∧ wrap64 (a + 2 + 1) = a + 3 ∧ wrap64 (a + 3 + 1) = a + 4 ∧ wrap64 (a + 4 + 1) = a + 5 ∧ wrap64 (a + 5 + 1) = a + 6 ∧ wrap64 (a + 6 + 1) = a + 7 := by
  refine ⟨?_, ?_, ?_, ?_, ?_, ?_, ?_⟩ <;> (unfold wrap64; omega)
theorem markPostS_loop (d : Nat) : ∀ (k : Nat) (l : List S59) (a : Int) (i : Nat), l.length ≤ 1048576 → (∀ z ∈ l.drop i, z.f2.f5.length ≤ 1048576) → 0 ≤ a → a + d * 1048583 ≤ 2305843009213690000 → i + d = l.length → d + 1048577 < k →
    laws_markPostS.l0 k l a i = some (msum (l.drop i) a, l.take i ++ marks (l.drop i) a) := by
  induction d with
  | zero =>
    intro k l a i hl hd ha hb hi hk
    obtain ⟨k, rfl⟩ : ∃ m, k = m + 1 := ⟨k - 1, by omega⟩
    have h : ¬ (i : Int) < (l.length : Int) := by omega
    rw [laws_markPostS.l0, if_neg h, List.drop_eq_nil_of_le (by omega), List.take_of_length_le (by omega)]; simp [msum, marks]
  | succ d ih =>
    intro k l a i hl hd ha hb hi hk
    obtain ⟨k, rfl⟩ : ∃ m, k = m + 1 := ⟨k - 1, by omega⟩
    have h : (i : Int) < (l.length : Int) := by omega
    have h0 : (0 : Int) ≤ (i : Int) := by omega
    have hil : i < l.length := by omega
    have hr : rd_T59 l (i : Int) = l[i] := getD_nat _ _ _ hil
    have hz : l[i].f2.f5.length ≤ 1048576 := hd _ (by rw [List.drop_eq_getElem_cons hil]; exact List.mem_cons_self)
    have ha7 : a ≤ 4611686018427387000 := by omega
    obtain ⟨w1, w2, w3, w4, w5, w6, w7⟩ := w8 ha ha7
    have hm := markIntS_all k l[i].f2.f5 (a + 7) (by omega) (by omega) (by omega) (by omega)
    rw [laws_markPostS.l0, if_pos h, if_pos h0, hr, w1, w2, w3, w4, w5, w6, w7, hm]; simp only [Option.bind_some]
    clear w1 w2 w3 w4 w5 w6 w7 hm
    rw [wrap_succ (n := l.length) (by omega) (by omega), Int.toNat_natCast]
    rw [ih k _ _ (i + 1) (by simpa using hl) ?_ (by omega) (by omega) (by simp; omega) (by omega)]
    · rw [set_take _ _ _ hil, set_drop, List.drop_eq_getElem_cons hil, marks, msum, List.append_assoc]; rfl
    · intro z hzm
      rw [set_drop] at hzm
      exact hd z (by rw [List.drop_eq_getElem_cons hil]; exact List.mem_cons_of_mem _ hzm)
theorem markPostS_all (k : Nat) (l : List S59) (a : Int) (hl : l.length ≤ 1048576) (hd : ∀ z ∈ l, z.f2.f5.length ≤ 1048576) (ha : 0 ≤ a) (hb : a ≤ 1000000) (hk : 2097160 < k) : laws_markPostS.f k l a = some (msum l a, marks l a) := by
  unfold laws_markPostS.f
  have := markPostS_loop l.length k l a 0 hl (by simpa using hd) ha (by omega) (by omega) (by omega)
  simpa using this
theorem heldPostS_loop (d : Nat) : ∀ (k : Nat) (l r : List S59) (a : Int) (i : Nat), l.length ≤ 1048576 → (∀ z ∈ r, z.f2.f5.length ≤ 1048576) → r.length = d → 0 ≤ a → a + d * 1048583 ≤ 2305843009213690000 → i + d = l.length → l.drop i = marks r a → d + 1048577 < k →
    laws_heldPostS.l0 k l a i = some (msum r a) := by
  induction d with
  | zero =>
    intro k l r a i hl hd hrl ha hb hi he hk
    obtain ⟨k, rfl⟩ : ∃ m, k = m + 1 := ⟨k - 1, by omega⟩
    obtain rfl := List.eq_nil_of_length_eq_zero hrl
    have h : ¬ (i : Int) < (l.length : Int) := by omega
    rw [laws_heldPostS.l0, if_neg h]; rfl
  | succ d ih =>
    intro k l r a i hl hd hrl ha hb hi he hk
    obtain ⟨k, rfl⟩ : ∃ m, k = m + 1 := ⟨k - 1, by omega⟩
    obtain ⟨z, r, rfl⟩ : ∃ z r', r = z :: r' := by
      cases r with
      | nil => simp at hrl
      | cons z r => exact ⟨z, r, rfl⟩
    have h : (i : Int) < (l.length : Int) := by omega
    have h0 : (0 : Int) ≤ (i : Int) := by omega
    have hil : i < l.length := by omega
    rw [List.drop_eq_getElem_cons hil, marks, List.cons.injEq] at he
    have hr : rd_T59 l (i : Int) = postMark z a := (getD_nat _ _ _ hil).trans he.1
    have hz : z.f2.f5.length ≤ 1048576 := hd _ (by simp)
    have ha7 : a ≤ 4611686018427387000 := by omega
    have hn : ¬ a + 7 + (z.f2.f5.length : Int) < 0 := by omega
    have e := ih k l r (a + 7 + z.f2.f5.length) (i + 1) hl (fun y hy => hd y (by simp [hy])) (by simpa using hrl) (by omega) (by omega) (by omega) he.2 (by omega)
    obtain ⟨w1, w2, w3, w4, w5, w6, w7⟩ := w8 ha ha7
    have hm := heldIntS_all k z.f2.f5.length (a + 7) (by omega) (by omega) (by omega) (by omega)
    rw [laws_heldPostS.l0, if_pos h, if_pos h0, hr, w1, w2, w3, w4, w5, w6, w7]
    rw [if_pos (show (postMark z a).f0 = a from rfl), if_pos (show (postMark z a).f1 = a + 1 from rfl), if_neg (show ¬ ((postMark z a).f2.f0 != ((Int.tmod (a + 2) 3) == 0)) = true by simp [postMark]), if_pos (show (postMark z a).f2.f1 = a + 3 from rfl), if_pos (show (postMark z a).f2.f2 = a + 4 from rfl), if_pos (show (postMark z a).f2.f3 = a + 5 from rfl), if_neg (show ¬ ((postMark z a).f2.f4 != ((Int.tmod (a + 6) 3) == 0)) = true by simp [postMark]),
      show (postMark z a).f2.f5 = seqInt (a + 7) z.f2.f5.length from rfl, hm]; simp only [Option.bind_some]
    clear w1 w2 w3 w4 w5 w6 w7 hm
    rw [if_neg hn, wrap_succ (n := l.length) (by omega) (by omega), e]; rfl
theorem heldPostS_all (k : Nat) (l : List S59) (a : Int) (hl : l.length ≤ 1048576) (hd : ∀ z ∈ l, z.f2.f5.length ≤ 1048576) (ha : 0 ≤ a) (hb : a ≤ 1000000) (hk : 2097160 < k) : laws_heldPostS.f k (marks l a) a = some (msum l a) := by
  unfold laws_heldPostS.f
  exact heldPostS_loop l.length k (marks l a) l a 0 (by rw [marks_length]; exact hl) hd rfl ha (by omega) (by rw [marks_length]; omega) (by simp) (by omega)
/-- The posts of a cycle. -/
def keep (n : Int) (l : List S59) : List S59 := l.filter fun z => decide (z.f0 = n)
theorem copy_is (z : S59) (hz : z.f2.f5.length ≤ 1048576) : spec_l5Copy.f z.f2.f0 z.f2.f1 z.f2.f2 z.f2.f3 z.f2.f4 z.f2.f5 = some (z.f2.f0, z.f2.f1, z.f2.f2, z.f2.f3, z.f2.f4, z.f2.f5) := by
  unfold spec_l5Copy.f; simp only [Option.bind_some, List.length_nil, Nat.zero_add, List.nil_append]; rw [if_pos (by omega)]
theorem own_is (z : S59) (hz : z.f2.f5.length ≤ 1048576) : impl_ownReq.f z.f2.f0 z.f2.f1 z.f2.f2 z.f2.f3 z.f2.f4 z.f2.f5 = some (z.f2.f0, z.f2.f1, z.f2.f2, z.f2.f3, z.f2.f4, z.f2.f5) := by
  unfold impl_ownReq.f slices_Clone_int_int.f; simp only [Option.bind_some, List.length_nil, Nat.zero_add, List.nil_append]; rw [if_pos (by omega)]; rfl
theorem spec_posts (n : Int) (l : List S59) (w s : List Int) (hl : l.length ≤ 1048576) (hd : ∀ z ∈ l, z.f2.f5.length ≤ 1048576) (d : Nat) : ∀ (k i : Nat) (acc : List S59), i + d = l.length → acc.length ≤ i → d < k → spec_PostsAt.l0 k n acc i l w s = some (acc ++ keep n (l.drop i)) := by
  induction d with
  | zero =>
    intro k i acc hi ha hk
    obtain ⟨k, rfl⟩ : ∃ m, k = m + 1 := ⟨k - 1, by omega⟩
    have h : ¬ (i : Int) < (l.length : Int) := by omega
    rw [spec_PostsAt.l0, if_neg h, List.drop_eq_nil_of_le (by omega)]; simp [keep]
  | succ d ih =>
    intro k i acc hi ha hk
    obtain ⟨k, rfl⟩ : ∃ m, k = m + 1 := ⟨k - 1, by omega⟩
    have h : (i : Int) < (l.length : Int) := by omega
    have h0 : (0 : Int) ≤ (i : Int) := by omega
    have hil : i < l.length := by omega
    have hr : rd_T59 l (i : Int) = l[i] := getD_nat _ _ _ hil
    rw [spec_PostsAt.l0, if_pos h, if_pos h0, hr, wrap_succ (n := l.length) (by omega) (by omega), List.drop_eq_getElem_cons hil]
    by_cases c : l[i].f0 = n
    · rw [if_pos c, copy_is _ (hd _ (List.getElem_mem hil))]; simp only [Option.bind_some]
      rw [if_pos (by omega), ih k (i + 1) _ (by omega) (by simp; omega) (by omega), keep, keep, List.filter_cons_of_pos (by simpa using c), List.append_assoc]; rfl
    · rw [if_neg c, ih k (i + 1) _ (by omega) (by omega) (by omega), keep, keep, List.filter_cons_of_neg (by simpa using c)]
theorem impl_posts (n : Int) (l : List S59) (hl : l.length ≤ 1048576) (hd : ∀ z ∈ l, z.f2.f5.length ≤ 1048576) (d : Nat) : ∀ (k i : Nat) (acc : List S59), i + d = l.length → acc.length ≤ i → d < k → impl_PostsAt.l0 k n acc l (l.length : Int) i = some (acc ++ keep n (l.drop i)) := by
  induction d with
  | zero =>
    intro k i acc hi ha hk
    obtain ⟨k, rfl⟩ : ∃ m, k = m + 1 := ⟨k - 1, by omega⟩
    have h : ¬ (i : Int) < (l.length : Int) := by omega
    rw [impl_PostsAt.l0, if_neg h, List.drop_eq_nil_of_le (by omega)]; simp [keep]
  | succ d ih =>
    intro k i acc hi ha hk
    obtain ⟨k, rfl⟩ : ∃ m, k = m + 1 := ⟨k - 1, by omega⟩
    have h : (i : Int) < (l.length : Int) := by omega
    have h0 : (0 : Int) ≤ (i : Int) := by omega
    have hil : i < l.length := by omega
    have hr : rd_T59 l (i : Int) = l[i] := getD_nat _ _ _ hil
    rw [impl_PostsAt.l0, if_pos h, if_pos h0, if_pos h, hr, wrap_succ (n := l.length) (by omega) (by omega), List.drop_eq_getElem_cons hil]
    by_cases c : l[i].f0 = n
    · rw [if_pos c, own_is _ (hd _ (List.getElem_mem hil))]; simp only [Option.bind_some]
      rw [if_pos (by omega), ih k (i + 1) _ (by omega) (by simp; omega) (by omega), keep, keep, List.filter_cons_of_pos (by simpa using c), List.append_assoc]; rfl
    · rw [if_neg c, ih k (i + 1) _ (by omega) (by omega) (by omega), keep, keep, List.filter_cons_of_neg (by simpa using c)]
theorem markScript_all (k : Nat) (l : List S59) (w s : List Int) (hl : l.length ≤ 1048576) (hd : ∀ z ∈ l, z.f2.f5.length ≤ 1048576) (hw : w.length ≤ 1048576) (hs : s.length ≤ 1048576) (hk : 2097160 < k) : ∃ m, laws_markScript.f k l w s 1 = some m ∧ 0 ≤ m := by
  unfold laws_markScript.f
  obtain ⟨b0, b1⟩ := msum_le l hd 1
  rw [markPostS_all k l 1 hl hd (by omega) (by omega) hk]; simp only [Option.bind_some]
  rw [markIntS_all k w _ (by omega) (by omega) (by omega) (by omega)]; simp only [Option.bind_some]
  rw [markIntS_all k s _ (by omega) (by omega) (by omega) (by omega)]; simp only [Option.bind_some]
  exact ⟨_, rfl, by omega⟩
theorem FnExactPostsAt (l : List S65) (w s : List Int) (n : Int) (hl : l.length ≤ 9223372036854775807) (hz : ∀ z ∈ l, z.f2.f5.length ≤ 9223372036854775807) (hw : w.length ≤ 9223372036854775807) (hs : s.length ≤ 9223372036854775807) (_ : (Lit.int .i64 n).wf = true) : ∃ k, laws_FnExactPostsAt.f k l w s n = some true := by
  refine ⟨2097200, ?_⟩
  generalize hk : 2097200 = k
  unfold laws_FnExactPostsAt.f
  obtain ⟨r, er, hr⟩ := szScript_is k l w s 1048576 (by omega) (by omega) hl hz hw hs (by omega)
  rw [er]; simp only [Option.bind_some]
  rcases hr with hr | ⟨l1, d1, w1, s1, r0, _⟩
  · rw [if_pos hr]
  · rw [if_neg (by omega), toScript_all k l w s l1 d1 w1 s1 (by omega)]; simp only [Option.bind_some]
    have pl : (l.map cvPost).length ≤ 1048576 := by simpa using l1
    have pd : ∀ z ∈ l.map cvPost, z.f2.f5.length ≤ 1048576 := cv_len l d1
    generalize l.map cvPost = p at pl pd
    have gl : (keep n p).length ≤ 1048576 := Nat.le_trans (List.length_filter_le _ _) pl
    have gd : ∀ z ∈ keep n p, z.f2.f5.length ≤ 1048576 := fun z hz => pd z (List.mem_filter.1 hz).1
    have es : spec_PostsAt.f k p w s n = some (keep n p) := by
      unfold spec_PostsAt.f
      have := spec_posts n p w s pl pd p.length k 0 [] (by omega) (by simp) (by omega)
      simpa using this
    have ei : impl_PostsAt.f k p w s n = some (keep n p) := by
      unfold impl_PostsAt.f
      have := impl_posts n p pl pd p.length k 0 [] (by omega) (by simp) (by omega)
      simpa using this
    obtain ⟨m, em, hm⟩ := markScript_all k p w s pl pd w1 s1 (by omega)
    obtain ⟨b0, _⟩ := msum_le (keep n p) gd 1
    rw [es, ei]; simp only [Option.bind_some]
    rw [eqPostS_refl k _ gl gd (by omega), eqScript_refl k p w s pl pd w1 s1 (by omega), em, markPostS_all k _ 1 gl gd (by omega) (by omega) (by omega)]; simp only [Option.bind_some]
    rw [heldPostS_all k _ 1 gl gd (by omega) (by omega) (by omega)]; simp only [Option.bind_some]
    rw [if_pos (by refine ⟨?_, ?_, hm, by omega, ?_⟩ <;> first | trivial | rfl)]

end Go.Proofs.Ytkolojgkpmbbbaa.Pure
