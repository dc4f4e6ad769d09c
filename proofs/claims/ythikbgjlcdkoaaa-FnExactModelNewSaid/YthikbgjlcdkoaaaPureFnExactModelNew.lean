/- The program's ModelNew answers as the reference's, in memory of its own. -/
import Derived.Test.YthikbgjlcdkoaaaMFnExactModelNewx
namespace Go.Proofs.Ythikbgjlcdkoaaa.Pure
open Go.RowKit Go.Proofs.Ythikbgjlcdkoaaa.MFnExactModelNew Go.Proofs.YthikbgjlcdkoaaaW.PrintWords Go.Proofs.YthikbgjlcdkoaaaW.PrintLast Go.Proofs.YthikbgjlcdkoaaaW.PrintMore
set_option linter.unusedVariables false
set_option linter.unusedSimpArgs false

theorem wf_of {a : Int} (h : (Lit.int .i64 a).wf = true) : -9223372036854775808 ≤ a ∧ a ≤ 9223372036854775807 := by
  simp [Lit.wf, IntKind.min, IntKind.max, IntKind.signed, IntKind.bits] at h; omega
theorem pow_le_i (b i j : Nat) (h0 : 0 < b) (h : i ≤ j) : (b : Int) ^ i ≤ (b : Int) ^ j := by
  have h1 := Nat.pow_le_pow_right h0 h
  have h2 : ((b ^ i : Nat) : Int) ≤ ((b ^ j : Nat) : Int) := Int.ofNat_le.2 h1
  rwa [Int.natCast_pow, Int.natCast_pow] at h2
theorem wrap64_id {a : Int} (h0 : -9223372036854775808 ≤ a) (h1 : a ≤ 9223372036854775807) : wrap64 a = a := by unfold wrap64; omega

theorem wrap_succ {i n : Nat} (h : i < n) (hn : n ≤ 1099511627776) : wrap64 ((i : Int) + 1) = ((i + 1 : Nat) : Int) := by unfold wrap64; omega
theorem rd_nat (l : List Int) (i : Nat) (h : i < l.length) : rd l (i : Int) = l[i] := by
  unfold rd; simp [List.getD_eq_getElem?_getD, List.getElem?_eq_getElem h]
theorem rdOf_nat {α : Type} (d : α) (l : List α) (i : Nat) (h : i < l.length) : rdOf d l (i : Int) = l[i] := by
  unfold rdOf; simp [List.getD_eq_getElem?_getD, List.getElem?_eq_getElem h]
theorem set_take {α : Type} (l : List α) (i : Nat) (x : α) (h : i < l.length) : (l.set i x).take (i + 1) = l.take i ++ [x] := by
  rw [List.take_succ_eq_append_getElem (by simpa using h), List.take_set, List.set_eq_of_length_le (by simp; omega)]; simp
theorem set_drop {α : Type} (l : List α) (i : Nat) (x : α) : (l.set i x).drop (i + 1) = l.drop (i + 1) := by
  rw [List.drop_set]; simp

theorem eqIntS_loop (l : List Int) (hl : l.length ≤ 1099511627776) (d : Nat) : ∀ (k i : Nat), i + d = l.length → d < k → laws_eqIntS.l0 k l l i = some true := by
  induction d with
  | zero =>
    intro k i hi hk
    obtain ⟨k, rfl⟩ : ∃ m, k = m + 1 := ⟨k - 1, by omega⟩
    have h : ¬ (i : Int) < (l.length : Int) := by omega
    simp only [laws_eqIntS.l0]; rw [if_neg h]
  | succ d ih =>
    intro k i hi hk
    obtain ⟨k, rfl⟩ : ∃ m, k = m + 1 := ⟨k - 1, by omega⟩
    have h : (i : Int) < (l.length : Int) := by omega
    have h0 : (0 : Int) ≤ (i : Int) := by omega
    have e := ih k (i + 1) (by omega) (by omega)
    simp only [laws_eqIntS.l0]; rw [if_pos h, if_pos h0, if_pos h, wrap_succ (n := l.length) (by omega) hl]
    simp only [if_true]; exact e
theorem eqIntS_refl (l : List Int) (hl : l.length ≤ 1099511627776) (k : Nat) (hk : l.length < k) : laws_eqIntS.f k l l = some true := by
  unfold laws_eqIntS.f; rw [if_pos rfl]; exact eqIntS_loop l hl l.length k 0 (by omega) hk

theorem eqDev_refl (k : Nat) (r f : List Int) (t : Int) (hr : r.length ≤ 1099511627776) (hf : f.length ≤ 1099511627776) (kr : r.length < k) (kf : f.length < k) : laws_eqDev.f k r t f r t f = some true := by
  unfold laws_eqDev.f; rw [eqIntS_refl r hr k kr]; simp only [Option.bind_some, if_true]; rw [eqIntS_refl f hf k kf]; simp

theorem eqModel_refl (k : Nat) (m r f : List Int) (t : Int) (hm : m.length ≤ 1099511627776) (hr : r.length ≤ 1099511627776) (hf : f.length ≤ 1099511627776) (km : m.length < k) (kr : r.length < k) (kf : f.length < k) : laws_eqModel.f k m r t f m r t f = some true := by
  unfold laws_eqModel.f; rw [eqIntS_refl m hm k km]; simp only [Option.bind_some, if_true]; rw [eqDev_refl k r f t hr hf kr kf]; simp

/-- What marking lays. -/
def seqInt : Int → Nat → List Int
  | _, 0 => []
  | a, d + 1 => a :: seqInt (a + 1) d
theorem seqInt_length (d : Nat) : ∀ a, (seqInt a d).length = d := by
  induction d with
  | zero => intro a; rfl
  | succ d ih => intro a; simp [seqInt, ih]
theorem markIntS_loop (d : Nat) : ∀ (k : Nat) (l : List Int) (a : Int) (i : Nat), l.length ≤ 1099511627776 → 0 ≤ a → a + d ≤ 4611686018427387904 → i + d = l.length → d < k →
    laws_markIntS.l0 k l a i = some (a + d, l.take i ++ seqInt a d) := by
  induction d with
  | zero =>
    intro k l a i hl ha hb hi hk
    obtain ⟨k, rfl⟩ : ∃ m, k = m + 1 := ⟨k - 1, by omega⟩
    have h : ¬ (i : Int) < (l.length : Int) := by omega
    simp only [laws_markIntS.l0]; rw [if_neg h]; simp [seqInt, List.take_of_length_le (show l.length ≤ i by omega)]
  | succ d ih =>
    intro k l a i hl ha hb hi hk
    obtain ⟨k, rfl⟩ : ∃ m, k = m + 1 := ⟨k - 1, by omega⟩
    have h : (i : Int) < (l.length : Int) := by omega
    have h0 : (0 : Int) ≤ (i : Int) := by omega
    have hw : wrap64 (a + 1) = a + 1 := wrap64_id (by omega) (by omega)
    simp only [laws_markIntS.l0]; rw [if_pos h, if_pos h0, wrap_succ (n := l.length) (by omega) hl, hw, Int.toNat_natCast, ih k _ _ (i + 1) (by simpa using hl) (by omega) (by omega) (by simp; omega) (by omega)]
    rw [set_take _ _ _ (by omega)]
    simp [seqInt]; omega
theorem markIntS_all (k : Nat) (l : List Int) (a : Int) (hl : l.length ≤ 1099511627776) (ha : 0 ≤ a) (hb : a ≤ 2305843009213693952) (hk : l.length < k) :
    laws_markIntS.f k l a = some (a + l.length, seqInt a l.length) := by
  unfold laws_markIntS.f
  have := markIntS_loop l.length k l a 0 hl ha (by omega) (by omega) hk
  simpa using this

theorem heldIntS_loop (d : Nat) : ∀ (k : Nat) (l : List Int) (a : Int) (i : Nat), l.length ≤ 1099511627776 → 0 ≤ a → a + d ≤ 4611686018427387904 → i + d = l.length → l.drop i = seqInt a d → d < k →
    laws_heldIntS.l0 k l a i = some (a + d) := by
  induction d with
  | zero =>
    intro k l a i hl ha hb hi he hk
    obtain ⟨k, rfl⟩ : ∃ m, k = m + 1 := ⟨k - 1, by omega⟩
    have h : ¬ (i : Int) < (l.length : Int) := by omega
    simp only [laws_heldIntS.l0]; rw [if_neg h]; simp
  | succ d ih =>
    intro k l a i hl ha hb hi he hk
    obtain ⟨k, rfl⟩ : ∃ m, k = m + 1 := ⟨k - 1, by omega⟩
    have h : (i : Int) < (l.length : Int) := by omega
    have h0 : (0 : Int) ≤ (i : Int) := by omega
    have hw : wrap64 (a + 1) = a + 1 := wrap64_id (by omega) (by omega)
    have hil : i < l.length := by omega
    rw [List.drop_eq_getElem_cons hil] at he
    simp only [seqInt, List.cons.injEq] at he
    have e := ih k l (a + 1) (i + 1) hl (by omega) (by omega) (by omega) he.2 (by omega)
    simp only [laws_heldIntS.l0]; rw [if_pos h, if_pos h0, rd_nat _ _ hil, he.1, wrap_succ (n := l.length) (by omega) hl, hw]
    rw [if_pos rfl]; rw [e]; congr 1; omega
theorem heldIntS_all (k n : Nat) (a : Int) (hl : n ≤ 1099511627776) (ha : 0 ≤ a) (hb : a ≤ 2305843009213693952) (hk : n < k) :
    laws_heldIntS.f k (seqInt a n) a = some (a + n) := by
  unfold laws_heldIntS.f
  exact heldIntS_loop n k _ a 0 (by rw [seqInt_length]; exact hl) ha (by omega) (by rw [seqInt_length]; omega) (by simp) hk

theorem markDev_all (k : Nat) (r f : List Int) (t a : Int) (hr : r.length ≤ 1073741824) (hf : f.length ≤ 1073741824) (ha : 0 ≤ a) (hb : a ≤ 1099511627776) (kr : r.length < k) (kf : f.length < k) :
    laws_markDev.f k r t f a = some (a + r.length + f.length, seqInt a r.length, seqInt (a + r.length) f.length) := by
  unfold laws_markDev.f
  rw [markIntS_all k r a (by omega) (by omega) (by omega) kr]; simp only [Option.bind_some]
  rw [markIntS_all k f _ (by omega) (by omega) (by omega) kf]; simp
theorem heldDev_all (k : Nat) (r f : Nat) (t a : Int) (hr : r ≤ 1073741824) (hf : f ≤ 1073741824) (ha : 0 ≤ a) (hb : a ≤ 1099511627776) (kr : r < k) (kf : f < k) :
    laws_heldDev.f k (seqInt a r) t (seqInt (a + r) f) a = some (a + r + f) := by
  unfold laws_heldDev.f
  rw [heldIntS_all k r a (by omega) (by omega) (by omega) kr]; simp only [Option.bind_some]
  rw [if_neg (by omega), heldIntS_all k f _ (by omega) (by omega) (by omega) kf]; simp only [Option.bind_some]
  rw [if_neg (by omega)]

theorem markModel_all (k : Nat) (m r f : List Int) (t a : Int) (hm : m.length ≤ 1073741824) (hr : r.length ≤ 1073741824) (hf : f.length ≤ 1073741824) (ha : 0 ≤ a) (hb : a ≤ 1073741824) (km : m.length < k) (kr : r.length < k) (kf : f.length < k) :
    laws_markModel.f k m r t f a = some (a + m.length + r.length + f.length, seqInt a m.length, seqInt (a + m.length) r.length, seqInt (a + m.length + r.length) f.length) := by
  unfold laws_markModel.f
  rw [markIntS_all k m a (by omega) (by omega) (by omega) km]; simp only [Option.bind_some]
  rw [markDev_all k r f t _ hr hf (by omega) (by omega) kr kf]; simp
theorem heldModel_all (k : Nat) (m r f : Nat) (t a : Int) (hm : m ≤ 1073741824) (hr : r ≤ 1073741824) (hf : f ≤ 1073741824) (ha : 0 ≤ a) (hb : a ≤ 1073741824) (km : m < k) (kr : r < k) (kf : f < k) :
    laws_heldModel.f k (seqInt a m) (seqInt (a + m) r) t (seqInt (a + m + r) f) a = some (a + m + r + f) := by
  unfold laws_heldModel.f
  rw [heldIntS_all k m a (by omega) (by omega) (by omega) km]; simp only [Option.bind_some]
  rw [if_neg (by omega), heldDev_all k r f t _ hr hf (by omega) (by omega) kr kf]; simp only [Option.bind_some]
  rw [if_neg (by omega)]

theorem model_new_core (k : Nat) (hk : 1000 ≤ k) (m r f : List Int) (l1 : m.length = 192) (l2 : r.length = 4) (l3 : f.length = 0) (e : spec_ModelNew.f = some (m, r, 0, f)) (e' : impl_ModelNew.f = some (m, r, 0, f)) :
    laws_FnExactModelNew.f k = some true := by
  unfold laws_FnExactModelNew.f
  rw [e, e']; simp only [Option.bind_some]
  rw [eqModel_refl k _ _ _ _ (by omega) (by omega) (by omega) (by omega) (by omega) (by omega)]; simp only [Option.bind_some, if_true]
  rw [markModel_all k _ _ _ _ _ (by omega) (by omega) (by omega) (by omega) (by omega) (by omega) (by omega) (by omega)]; simp only [Option.bind_some]
  rw [heldModel_all k _ _ _ _ _ (by omega) (by omega) (by omega) (by omega) (by omega) (by omega) (by omega) (by omega)]; simp only [Option.bind_some]
  have h : ¬ (1 : Int) + m.length + r.length + f.length < 0 := by omega
  simp [h]
theorem FnExactModelNew : laws_FnExactModelNew.Pure := by
  have e : spec_ModelNew.f = some (List.replicate 192 0, List.replicate 4 0, 0, []) := by unfold spec_ModelNew.f spec_DevNew.f; rw [if_pos (by omega), if_pos (by omega)]; rfl
  have e' : impl_ModelNew.f = some (List.replicate 192 0, List.replicate 4 0, 0, []) := by unfold impl_ModelNew.f impl_DevNew.f; rw [if_pos (by omega), if_pos (by omega)]; rfl
  exact ⟨1000, model_new_core 1000 (by omega) _ _ _ List.length_replicate List.length_replicate rfl e e'⟩

end Go.Proofs.Ythikbgjlcdkoaaa.Pure
