/- The program's ReadVar answers as the reference's, for every string. -/
import Derived.Test.YtpkaggjbphafeaaPFnExactReadVarx
namespace Go.Proofs.Ytpkaggjbphafeaa.Pure
open Go.RowKit Go.Proofs.Ytpkaggjbphafeaa.PFnExactReadVar Go.Proofs.YtpkaggjbphafeaaW.PrintWords Go.Proofs.YtpkaggjbphafeaaW.PrintLast Go.Proofs.YtpkaggjbphafeaaW.PrintMore
set_option linter.unusedVariables false
set_option linter.unusedSimpArgs false
set_option maxHeartbeats 4000000

theorem spec_in (a b c : Int) : spec_l1In.f a b c = some (decide (b ≤ a ∧ a ≤ c)) := by
  unfold spec_l1In.f; by_cases h : b ≤ a
  · rw [if_pos h]; simp [h]
  · rw [if_neg h]; simp [h]

theorem wf_of {a : Int} (h : (Lit.int .i64 a).wf = true) : -9223372036854775808 ≤ a ∧ a ≤ 9223372036854775807 := by
  simp [Lit.wf, IntKind.min, IntKind.max, IntKind.signed, IntKind.bits] at h; omega
theorem pow_le_i (b i j : Nat) (h0 : 0 < b) (h : i ≤ j) : (b : Int) ^ i ≤ (b : Int) ^ j := by
  have h1 := Nat.pow_le_pow_right h0 h
  have h2 : ((b ^ i : Nat) : Int) ≤ ((b ^ j : Nat) : Int) := Int.ofNat_le.2 h1
  rwa [Int.natCast_pow, Int.natCast_pow] at h2
theorem wrap64_id {a : Int} (h0 : -9223372036854775808 ≤ a) (h1 : a ≤ 9223372036854775807) : wrap64 a = a := by unfold wrap64; omega

theorem wraps_i64 (n : Int) (h₀ : 0 ≤ n) (h₁ : n < 2 ^ 63) : IntKind.i64.wrap n = n := by rw [IntKind.wrap_i64]; omega
theorem and_mask (i : Nat) (hi : i ≤ 63) (x : Int) (h₀ : 0 ≤ x) (h₁ : x ≤ 9223372036854775807) : Go.bits .and .i64 x (2 ^ i - 1) = x % 2 ^ i :=
  bits_mask .i64 63 (by decide) wraps_i64 i hi x h₀ (by omega)
theorem or_join (i : Nat) (x y : Int) (hx₀ : 0 ≤ x) (hx : x % 2 ^ i = 0) (hx₁ : x ≤ 9223372036854775807) (hy₀ : 0 ≤ y) (hy : y < 2 ^ i) (hy₁ : y ≤ 9223372036854775807) : Go.bits .or .i64 x y = x + y :=
  bits_join .i64 63 (by decide) wraps_i64 i x y hx₀ hx (by omega) hy₀ hy (by omega)
theorem i64wrap_id {a : Int} (h0 : -9223372036854775808 ≤ a) (h1 : a ≤ 9223372036854775807) : IntKind.i64.wrap a = a := by rw [IntKind.wrap_i64]; omega
theorem and255 {x : Int} (h₀ : 0 ≤ x) (h₁ : x ≤ 9223372036854775807) : Go.bits .and .i64 x 255 = x % 256 := and_mask 8 (by decide) x h₀ h₁
theorem and127 {x : Int} (h₀ : 0 ≤ x) (h₁ : x ≤ 9223372036854775807) : Go.bits .and .i64 x 127 = x % 128 := and_mask 7 (by decide) x h₀ h₁
theorem or_comm_i64 (x y : Int) : Go.bits .or .i64 x y = Go.bits .or .i64 y x := by
  simp only [Go.bits, BitVec.or_comm]

/-- The bytes of a varint. -/
def varL : Nat → Int → List Int
  | 0, n => [n]
  | d + 1, n => if n < 128 then [n] else (128 + n % 128) :: varL d (n / 128)
theorem spec_var_loop (d : Nat) : ∀ (k : Nat) (n : Int) (acc : List Int), 0 ≤ n → n < 128 ^ (d + 1) → d ≤ 8 → acc.length + d ≤ 100 → d < k →
    spec_Var.l0 k n acc = some (strOfNums (acc ++ varL d n)) := by
  induction d with
  | zero =>
    intro k n acc h0 h1 _ hl hk
    obtain ⟨k, rfl⟩ : ∃ m, k = m + 1 := ⟨k - 1, by omega⟩
    simp at h1
    have hn : ¬ n ≥ 128 := by omega
    have hlt : acc.length < 140737488355328 := by omega
    have hm : n % 256 = n := by omega
    simp only [spec_Var.l0]; rw [if_neg hn, if_pos hlt, hm]; rfl
  | succ d ih =>
    intro k n acc h0 h1 hd hl hk
    obtain ⟨k, rfl⟩ : ∃ m, k = m + 1 := ⟨k - 1, by omega⟩
    have hlt : acc.length < 140737488355328 := by omega
    by_cases hn : n ≥ 128
    · have hp : (128 : Int) ^ (d + 1 + 1) = 128 ^ (d + 1) * 128 := Int.pow_succ ..
      have hp9 : (128 : Int) ^ (d + 1) ≤ 128 ^ 8 := pow_le_i 128 (d + 1) 8 (by decide) (by omega)
      have hp9' : (128 : Int) ^ 8 = 72057594037927936 := by decide
      have hm : Int.tmod n 128 = n % 128 := Int.tmod_eq_emod_of_nonneg h0
      have hq : Int.tdiv n 128 = n / 128 := Int.tdiv_eq_ediv_of_nonneg h0
      have hw1 : wrap64 (n / 128) = n / 128 := wrap64_id (by omega) (by omega)
      have hw2 : wrap64 (128 + n % 128) = 128 + n % 128 := wrap64_id (by omega) (by omega)
      have hw3 : (128 + n % 128) % 256 = 128 + n % 128 := by omega
      simp only [spec_Var.l0]; rw [if_pos hn, if_pos hlt, hm, hq, hw1, hw2, hw3, ih k _ _ (by omega) (by omega) (by omega) (by simp; omega) (by omega)]
      have hn' : ¬ n < 128 := by omega
      simp only [varL]; rw [if_neg hn']; simp
    · have hm : n % 256 = n := by omega
      have hn' : n < 128 := by omega
      simp only [spec_Var.l0]; rw [if_neg hn, if_pos hlt, hm]
      simp only [varL]; rw [if_pos hn']
theorem spec_var (k : Nat) (n : Int) : spec_Var.f (k + 7) n = some (if 0 ≤ n ∧ n ≤ 562949953421311 then strOfNums (varL 6 n) else ⟨#[]⟩) := by
  unfold spec_Var.f; rw [spec_in]; simp only [Option.bind_some]
  by_cases h : 0 ≤ n ∧ n ≤ 562949953421311
  · have hp : (128 : Int) ^ (6 + 1) = 562949953421312 := by decide
    rw [decide_eq_true h, if_pos h]; simp only [if_true]
    rw [spec_var_loop 6 _ n [] h.1 (by rw [hp]; omega) (by omega) (by simp) (by omega)]; simp
  · rw [decide_eq_false h, if_neg h]; simp

theorem u8_and127 {x : Int} (h₀ : 0 ≤ x) (h₁ : x ≤ 255) : Go.bits .and .u8 x 127 = x % 128 := bits_mask .u8 8 (by decide) wraps_u8 7 (by decide) x h₀ (by omega)

def pre (s : ByteArray) (k : Nat) : List Int := (List.range k).map fun (i : Nat) => bt s (i : Int)
theorem pre_succ (s : ByteArray) (k : Nat) : pre s (k + 1) = pre s k ++ [bt s (k : Int)] := by unfold pre; rw [List.range_succ]; simp
theorem pre_length (s : ByteArray) (k : Nat) : (pre s k).length = k := by unfold pre; simp
theorem pre_bytes (s : ByteArray) (k : Nat) : ∀ x ∈ pre s k, 0 ≤ x ∧ x ≤ 255 := by
  intro x hx; unfold pre at hx
  obtain ⟨i, _, rfl⟩ := List.mem_map.1 hx
  exact bt_range s i
theorem pre_data (s : ByteArray) (k : Nat) (h : k ≤ s.size) : (s.extract 0 k).data.toList = (pre s k).map fun n => UInt8.ofNat n.toNat := by
  have hs : s.data.size = s.size := rfl
  apply List.ext_getElem
  · simp [pre]; omega
  · intro i h1 h2
    have hk : i < k := by simpa [pre] using h2
    have hi : i < s.size := by omega
    have hb := bt_at s (i : Int) (by simpa using hi)
    simp only [pre, List.getElem_map, List.getElem_range]
    rw [← hb]
    simp [ByteArray.data_extract]
    rfl
theorem back (l : List Int) (h : ∀ x ∈ l, 0 ≤ x ∧ x ≤ 255) : (l.map fun n => UInt8.ofNat n.toNat).map (fun u => (u.toNat : Int)) = l := by
  induction l with
  | nil => rfl
  | cons a t ih =>
    have ha := h a (by simp)
    simp only [List.map_cons]
    rw [ih (fun x hx => h x (by simp [hx]))]
    have : ((UInt8.ofNat a.toNat).toNat : Int) = a := by rw [UInt8.toNat_ofNat']; omega
    rw [this]
theorem str_eq (s : ByteArray) (k : Nat) (h : k ≤ s.size) (l : List Int) (hl : ∀ x ∈ l, 0 ≤ x ∧ x ≤ 255) : (strOfNums l).toList = (s.extract 0 k).toList ↔ l = pre s k := by
  rw [ByteArray.toList_eq, ByteArray.toList_eq, strOfNums_data, pre_data s k h]
  constructor
  · intro e
    have e' := congrArg (List.map fun (u : UInt8) => (u.toNat : Int)) e
    rw [back l hl, back _ (pre_bytes s k)] at e'; exact e'
  · rintro rfl; rfl
def valL : List Int → Int
  | [] => 0
  | b :: t => b % 128 + 128 * valL t
def goodL : List Int → Bool
  | [] => false
  | [b] => decide (b < 128)
  | b :: c :: t => decide (128 ≤ b) && goodL (c :: t) && decide ((c :: t) ≠ [0])
theorem pow128 (n : Nat) : (128 : Int) ^ (n + 1) = 128 ^ n * 128 := Int.pow_succ ..
theorem val_range (l : List Int) : 0 ≤ valL l ∧ valL l < 128 ^ l.length := by
  induction l with
  | nil => simp [valL]
  | cons a t ih =>
    simp only [valL, List.length_cons]; rw [pow128]
    generalize (128 : Int) ^ t.length = p at ih ⊢
    omega
theorem val_snoc (l : List Int) (b : Int) : valL (l ++ [b]) = valL l + 128 ^ l.length * (b % 128) := by
  induction l with
  | nil => simp [valL]
  | cons a t ih =>
    simp only [List.cons_append, valL, List.length_cons]; rw [ih, pow128, Int.mul_add, ← Int.mul_assoc, Int.mul_comm 128 ((128 : Int) ^ t.length), Int.add_assoc]
theorem varL_bytes (d : Nat) : ∀ n : Int, 0 ≤ n → n < 128 ^ (d + 1) → ∀ x ∈ varL d n, 0 ≤ x ∧ x ≤ 255 := by
  induction d with
  | zero => intro n h0 h1 x hx; simp only [varL, List.mem_singleton] at hx; simp at h1; omega
  | succ d ih =>
    intro n h0 h1 x hx
    have hp := pow128 (d + 1)
    simp only [varL] at hx
    by_cases hn : n < 128
    · rw [if_pos hn] at hx; simp only [List.mem_singleton] at hx; omega
    · rw [if_neg hn] at hx
      rcases List.mem_cons.1 hx with rfl | hx
      · omega
      · exact ih (n / 128) (by omega) (by generalize (128 : Int) ^ (d + 1) = p at *; omega) x hx
theorem good_zero (l : List Int) (hb : ∀ x ∈ l, 0 ≤ x ∧ x ≤ 255) (hg : goodL l = true) (hv : valL l = 0) : l = [0] := by
  induction l with
  | nil => simp [goodL] at hg
  | cons b t ih =>
    have h1 := hb b (by simp)
    cases t with
    | nil => simp only [goodL, decide_eq_true_eq] at hg; simp only [valL] at hv; rw [show b = 0 by omega]
    | cons c t =>
      simp only [goodL, Bool.and_eq_true, decide_eq_true_eq] at hg
      have hr := (val_range (c :: t)).1
      have hz : valL (c :: t) = 0 := by rw [valL] at hv; omega
      exact absurd (ih (fun x hx => hb x (by simp only [List.mem_cons] at hx ⊢; right; exact hx)) hg.1.2 hz) hg.2
theorem var_val (l : List Int) : ∀ d, l ≠ [] → l.length ≤ d + 1 → (∀ x ∈ l, 0 ≤ x ∧ x ≤ 255) → (varL d (valL l) = l ↔ goodL l = true) := by
  induction l with
  | nil => intro d h; exact absurd rfl h
  | cons b t ih =>
    intro d _ hl hb
    have h1 := hb b (by simp)
    cases t with
    | nil =>
      have hv : valL [b] = b % 128 := by simp [valL]
      have hd : varL d (b % 128) = [b % 128] := by
        cases d with
        | zero => rfl
        | succ d => simp only [varL]; rw [if_pos (by omega)]
      rw [hv, hd]; simp only [goodL, decide_eq_true_eq, List.cons.injEq, and_true]; omega
    | cons c t =>
      obtain ⟨d, rfl⟩ : ∃ e, d = e + 1 := ⟨d - 1, by simp at hl; omega⟩
      have hb' : ∀ x ∈ c :: t, 0 ≤ x ∧ x ≤ 255 := fun x hx => hb x (by simp only [List.mem_cons] at hx ⊢; right; exact hx)
      have hi := ih d (by simp) (by simp at hl ⊢; omega) hb'
      have hr := (val_range (c :: t)).1
      have hz := good_zero (c :: t) hb'
      have h0 : (c :: t) = [0] → valL (c :: t) = 0 := by intro e; rw [e]; rfl
      rw [valL]; simp only [goodL, Bool.and_eq_true, decide_eq_true_eq]
      generalize hm : c :: t = m at *
      generalize valL m = v at *
      simp only [varL]
      by_cases hn : b % 128 + 128 * v < 128
      · rw [if_pos hn]
        have hv0 : v = 0 := by omega
        constructor
        · intro e; rw [← hm] at e; simp at e
        · intro hg; exact absurd (hz hg.1.2 hv0) hg.2
      · rw [if_neg hn]
        have e1 : (b % 128 + 128 * v) % 128 = b % 128 := by omega
        have e2 : (b % 128 + 128 * v) / 128 = v := by omega
        rw [e1, e2, List.cons.injEq, hi]
        constructor
        · rintro ⟨ha, hg⟩; exact ⟨⟨by omega, hg⟩, fun e => by have := h0 e; omega⟩
        · rintro ⟨⟨ha, hg⟩, _⟩; exact ⟨by omega, hg⟩
theorem good_cons (a : Int) (m : List Int) (h : m ≠ []) : goodL (a :: m) = (decide (128 ≤ a) && goodL m && decide (m ≠ [0])) := by
  cases m with
  | nil => exact absurd rfl h
  | cons c t => rfl
theorem good_snoc (l : List Int) (b : Int) (hl : ∀ x ∈ l, 128 ≤ x) : goodL (l ++ [b]) = true ↔ b < 128 ∧ (b ≠ 0 ∨ l = []) := by
  induction l with
  | nil => simp [goodL]
  | cons a t ih =>
    have ha := hl a (by simp)
    have hi := ih (fun x hx => hl x (by simp [hx]))
    rw [List.cons_append, good_cons _ _ (by simp), Bool.and_eq_true, Bool.and_eq_true, hi, decide_eq_true_eq, decide_eq_true_eq]
    cases t with
    | nil => simp; omega
    | cons c t => simp; omega
theorem good_dead (l : List Int) (b : Int) (hl : ∃ x ∈ l, x < 128) : goodL (l ++ [b]) = false := by
  induction l with
  | nil => obtain ⟨x, hx, _⟩ := hl; simp at hx
  | cons a t ih =>
    rw [List.cons_append, good_cons _ _ (by simp)]
    obtain ⟨x, hx, hlt⟩ := hl
    rcases List.mem_cons.1 hx with rfl | hx
    · rw [decide_eq_false (by omega)]; simp
    · rw [ih ⟨x, hx, hlt⟩]; simp
theorem pow_le7 (j : Nat) (h : j ≤ 7) : (128 : Int) ^ j ≤ 562949953421312 := by
  have h2 : (128 : Int) ^ j ≤ (128 : Int) ^ 7 := pow_le_i 128 j 7 (by decide) h
  have e : (128 : Int) ^ 7 = 562949953421312 := by decide
  omega
theorem step_val (acc b : Int) (h0 : 0 ≤ acc) (h1 : acc ≤ 562949953421312) (hb : 0 ≤ b ∧ b ≤ 255) : wrap64 (wrap64 (acc * 128) + Int.tmod (wrap64 b) 128) = acc * 128 + b % 128 := by
  rw [show wrap64 b = b from wrap64_id (by omega) (by omega), show wrap64 (acc * 128) = acc * 128 from wrap64_id (by omega) (by omega), Int.tmod_eq_emod_of_nonneg hb.1]
  exact wrap64_id (by omega) (by omega)
theorem wrap_pred (i : Nat) (h : i ≤ 7) : wrap64 ((i : Int) - 1) = (i : Int) - 1 := wrap64_id (by omega) (by omega)
theorem l1_val (s : ByteArray) (F : Nat) (x4 : Int) (i : Nat) : ∀ (j : Nat) (acc : Int), 0 ≤ acc → acc < 128 ^ j → i + j ≤ 7 → i ≤ s.size →
    spec_ReadVar.l1 (F + i) s x4 acc ((i : Int) - 1) = spec_ReadVar.l1 F s x4 (valL (pre s i) + 128 ^ i * acc) (-1) := by
  induction i with
  | zero => intro j acc _ _ _ _; simp [pre, valL]
  | succ i ih =>
    intro j acc h0 h1 hj hs
    have hp := pow_le7 j (by omega)
    have hb := bt_range s i
    have hsv := step_val acc (bt s i) h0 (by omega) hb
    have hwp := wrap_pred i (by omega)
    have c1 : (i : Int) ≥ 0 := by omega
    have c2 : (0 : Int) ≤ (i : Int) := by omega
    have c3 : (i : Int) < (s.size : Int) := by omega
    have hpj := pow128 j
    have e := ih (j + 1) (acc * 128 + bt s i % 128) (by omega) (by generalize (128 : Int) ^ j = p at *; clear hsv hwp; omega) (by omega) (by omega)
    rw [show F + (i + 1) = (F + i) + 1 from rfl, show (((i + 1 : Nat) : Int) - 1) = (i : Int) by omega, spec_ReadVar.l1, if_pos c1, if_pos c2, if_pos c3, hsv, hwp, e, pre_succ, val_snoc, pre_length, pow128]
    congr 1
    rw [Int.mul_add, Int.mul_assoc, Int.mul_comm acc 128]
    generalize (128 : Int) ^ i * (128 * acc) = u
    omega
theorem wrap_succ7 (i : Nat) (h : i ≤ 100) : wrap64 ((i : Int) + 1) = ((i + 1 : Nat) : Int) := by rw [wrap64_id (by omega) (by omega)]; rfl
theorem spec_round (s : ByteArray) (k F : Nat) (hk : 1 ≤ k) (h7 : k ≤ 7) (hs : k ≤ s.size) (hF : 7 ≤ F) :
    spec_ReadVar.l0 (F + 1 + k + 1 + 1) s (k : Int) = if goodL (pre s k) = true then some (valL (pre s k), (k : Int)) else spec_ReadVar.l0 F s ((k + 1 : Nat) : Int) := by
  have hr := val_range (pre s k)
  rw [pre_length] at hr
  have hp := pow_le7 k h7
  have hn : 0 ≤ valL (pre s k) ∧ valL (pre s k) ≤ 562949953421311 := ⟨hr.1, by omega⟩
  have hwp := wrap_pred k h7
  have hws := wrap_succ7 k (by omega)
  have e := l1_val s (F + 1) (k : Int) k 0 0 (by omega) (by simp) (by omega) hs
  obtain ⟨F, rfl⟩ : ∃ m, F = m + 7 := ⟨F - 7, by omega⟩
  have h77 : (128 : Int) ^ (6 + 1) = 562949953421312 := by decide
  have hlt : valL (pre s k) < 128 ^ (6 + 1) := by rw [h77]; clear h77 hwp hws e hr hp; omega
  have hse := str_eq s k hs (varL 6 (valL (pre s k))) (varL_bytes 6 _ hn.1 hlt)
  rw [var_val (pre s k) 6 (by intro e; have := pre_length s k; rw [e] at this; simp at this; omega) (by rw [pre_length]; omega) (pre_bytes s k)] at hse
  rw [spec_ReadVar.l0, if_pos (show (k : Int) ≤ 7 by omega), decide_eq_true (show (k : Int) ≤ (s.size : Int) by omega), spec_ReadVar.j1, if_pos rfl, hwp, e]
  rw [Int.mul_zero, Int.add_zero, spec_ReadVar.l1, if_neg (by omega), spec_var, if_pos hn]; simp only [Option.bind_some]
  rw [if_pos (show (0 : Int) ≤ (k : Int) by omega), if_pos (show (k : Int) ≤ (s.size : Int) by omega), Int.toNat_natCast, hws]
  by_cases hg : goodL (pre s k) = true
  · rw [if_pos (hse.2 hg), if_pos hg]
  · rw [if_neg (fun h => hg (hse.1 h)), if_neg hg]
theorem spec_end (s : ByteArray) (k F : Nat) (h : 7 < k ∨ s.size < k) : spec_ReadVar.l0 (F + 2) s (k : Int) = some (0, 0) := by
  rw [spec_ReadVar.l0]
  by_cases h7 : (k : Int) ≤ 7
  · rw [if_pos h7, decide_eq_false (by omega), spec_ReadVar.j1]; simp
  · rw [if_neg h7, spec_ReadVar.j1]; simp
theorem spec_dead (s : ByteArray) (m : Nat) (hm : m ≤ 7) (hs : m ≤ s.size) (hM : m = 7 ∨ m = s.size) (d : Nat) : ∀ (F i : Nat), i + d = m → 12 * d + 10 ≤ F → (∃ x ∈ pre s i, x < 128) →
    spec_ReadVar.l0 F s ((i + 1 : Nat) : Int) = some (0, 0) := by
  induction d with
  | zero =>
    intro F i hi hF _
    obtain ⟨F, rfl⟩ : ∃ e, F = e + 2 := ⟨F - 2, by omega⟩
    exact spec_end s (i + 1) F (by omega)
  | succ d ih =>
    intro F i hi hF hx
    obtain ⟨G, rfl⟩ : ∃ G, F = G + 1 + (i + 1) + 1 + 1 := ⟨F - i - 4, by omega⟩
    have hg : ¬ goodL (pre s (i + 1)) = true := by rw [pre_succ, good_dead _ _ hx]; simp
    rw [spec_round s (i + 1) G (by omega) (by omega) (by omega) (by omega), if_neg hg]
    refine ih G (i + 1) (by omega) (by omega) ?_
    obtain ⟨x, h1, h2⟩ := hx
    exact ⟨x, by rw [pre_succ]; simp [h1], h2⟩
theorem shl_seven (i : Nat) (h : i ≤ 6) (y : Int) (h0 : 0 ≤ y) (h1 : y < 128) : shl .i64 y (7 * (i : Int)) = 128 ^ i * y := by
  have hi : i = 0 ∨ i = 1 ∨ i = 2 ∨ i = 3 ∨ i = 4 ∨ i = 5 ∨ i = 6 := by omega
  rcases hi with rfl | rfl | rfl | rfl | rfl | rfl | rfl <;> (unfold shl; rw [i64wrap_id]; all_goals (simp [IntKind.bits]; try omega))
theorem join_seven (i : Nat) (h : i ≤ 6) (n y : Int) (hn : 0 ≤ n) (hn1 : n < 128 ^ i) (h0 : 0 ≤ y) (h1 : y < 128) : Go.bits .or .i64 n (128 ^ i * y) = n + 128 ^ i * y := by
  rw [or_comm_i64, Int.add_comm]
  have hp : (128 : Int) ^ i = 2 ^ (7 * i) := by rw [show (128 : Int) = 2 ^ 7 by decide, ← Int.pow_mul]
  have hq := pow_le7 (i + 1) (by omega)
  rw [pow128] at hq
  have hpos : (1 : Int) ≤ 128 ^ i := by have := Int.pow_pos (n := 128) (m := i) (by decide); omega
  have hm : (128 : Int) ^ i * y ≤ 128 ^ i * 127 := Int.mul_le_mul_of_nonneg_left (by omega) (by omega)
  have hm0 : 0 ≤ (128 : Int) ^ i * y := Int.mul_nonneg (by omega) h0
  exact or_join (7 * i) _ _ hm0 (by rw [← hp]; exact Int.mul_emod_right ..) (by generalize (128 : Int) ^ i * y = u at *; generalize (128 : Int) ^ i = p at *; omega) hn (by rw [← hp]; exact hn1) (by generalize (128 : Int) ^ i * y = u at *; generalize (128 : Int) ^ i = p at *; omega)
theorem and_byte (s : ByteArray) (i : Int) : wrap64 (Go.bits .and .u8 (bt s i) 127) = bt s i % 128 := by
  have hb := bt_range s i
  rw [u8_and127 hb.1 hb.2]; exact wrap64_id (by omega) (by omega)
theorem wrap_seven (i : Nat) (h : i ≤ 7) : wrap64 (7 * (i : Int)) = 7 * (i : Int) := wrap64_id (by omega) (by omega)
theorem rv_both (s : ByteArray) (m : Nat) (hm : m ≤ 7) (hs : m ≤ s.size) (hM : m = 7 ∨ m = s.size) (d : Nat) : ∀ (F G i : Nat), i + d = m → 12 * d + 10 ≤ F → d < G → (∀ x ∈ pre s i, 128 ≤ x) →
    ∃ r, spec_ReadVar.l0 F s ((i + 1 : Nat) : Int) = some r ∧ impl_ReadVar.l0 G s (valL (pre s i)) (m : Int) (i : Int) = some r := by
  induction d with
  | zero =>
    intro F G i hi hF hG _
    obtain ⟨F, rfl⟩ : ∃ e, F = e + 2 := ⟨F - 2, by omega⟩
    obtain ⟨G, rfl⟩ : ∃ e, G = e + 1 := ⟨G - 1, by omega⟩
    refine ⟨_, spec_end s (i + 1) F (by omega), ?_⟩
    rw [impl_ReadVar.l0, if_neg (by omega)]
  | succ d ih =>
    intro F G i hi hF hG hx
    obtain ⟨F, rfl⟩ : ∃ G, F = G + 1 + (i + 1) + 1 + 1 := ⟨F - i - 4, by omega⟩
    obtain ⟨G, rfl⟩ : ∃ e, G = e + 1 := ⟨G - 1, by omega⟩
    have c0 : i ≤ 6 := by omega
    have c1 : (i : Int) < (m : Int) := by omega
    have c2 : (0 : Int) ≤ (i : Int) := by omega
    have c3 : (i : Int) < (s.size : Int) := by omega
    have c4 : (0 : Int) ≤ 7 * (i : Int) := by omega
    have d1 : (i + 1) + d = m := by omega
    have d2 : 12 * d + 10 ≤ F := by omega
    have d3 : d < G := by omega
    have hrd := spec_round s (i + 1) F (by omega) (by omega) (by omega) (by omega)
    have hb := bt_range s i
    have m0 : 0 ≤ bt s i % 128 := by omega
    have m1 : bt s i % 128 < 128 := by omega
    have hr := val_range (pre s i)
    rw [pre_length] at hr
    have hsl := shl_seven i c0 (bt s i % 128) m0 m1
    have hj := join_seven i c0 (valL (pre s i)) (bt s i % 128) hr.1 hr.2 m0 m1
    have hv : valL (pre s i) + 128 ^ i * (bt s i % 128) = valL (pre s (i + 1)) := by rw [pre_succ, val_snoc, pre_length]
    have hgs := good_snoc (pre s i) (bt s i) hx
    rw [← pre_succ] at hgs
    have hne : pre s i = [] ↔ i = 0 := by rw [← List.length_eq_zero_iff, pre_length]
    have hab := and_byte s i
    have hw7 := wrap_seven i (Nat.le_succ_of_le c0)
    have hws := wrap_succ7 i (Nat.le_trans c0 (by decide))
    rw [impl_ReadVar.l0, if_pos c1, if_pos c2, if_pos c3, hw7, if_pos c4, hab, hsl, hj, hv, hws, hrd]
    clear hw7 hws hab hsl hj hrd hv hr m0 m1 hb
    by_cases hlt : bt s i < 128
    · rw [if_pos hlt]
      by_cases hz : bt s i = 0
      · rw [if_pos hz]
        by_cases hi0 : (i : Int) > 0
        · rw [if_pos hi0]
          have hng : ¬ goodL (pre s (i + 1)) = true := by
            intro h; rcases (hgs.1 h).2 with h | h
            · exact h hz
            · have := hne.1 h; omega
          rw [if_neg hng]
          exact ⟨_, spec_dead s m hm hs hM d F (i + 1) d1 d2 ⟨bt s i, by rw [pre_succ]; simp, hlt⟩, rfl⟩
        · rw [if_neg hi0, if_pos (hgs.2 ⟨hlt, Or.inr (hne.2 (by omega))⟩)]; exact ⟨_, rfl, rfl⟩
      · rw [if_neg hz, if_pos (hgs.2 ⟨hlt, Or.inl hz⟩)]; exact ⟨_, rfl, rfl⟩
    · rw [if_neg hlt, if_neg (fun h => hlt (hgs.1 h).1)]
      refine ih F G (i + 1) d1 d2 d3 ?_
      intro x hx'; rw [pre_succ] at hx'
      rcases List.mem_append.1 hx' with h | h
      · exact hx x h
      · rw [List.mem_singleton.1 h]; omega
theorem FnExactReadVar : laws_FnExactReadVar.Pure := by
  intro s _
  refine ⟨200, ?_⟩
  unfold laws_FnExactReadVar.f
  by_cases h : (s.size : Int) > 1048576
  · rw [if_pos h]
  · rw [if_neg h]; unfold spec_ReadVar.f impl_ReadVar.f
    obtain ⟨m, hm, h7, hs, hM⟩ : ∃ m : Nat, mn (s.size : Int) 7 = (m : Int) ∧ m ≤ 7 ∧ m ≤ s.size ∧ (m = 7 ∨ m = s.size) := by
      unfold mn; by_cases h7 : (7 : Int) < (s.size : Int)
      · rw [if_pos h7]; exact ⟨7, rfl, by omega, by omega, Or.inl rfl⟩
      · rw [if_neg h7]; exact ⟨s.size, rfl, by omega, by omega, Or.inr rfl⟩
    rw [hm]
    obtain ⟨r, e1, e2⟩ := rv_both s m h7 hs hM m 200 200 0 (by omega) (by omega) (by omega) (by simp [pre])
    simp only [pre, List.range_zero, List.map_nil, valL] at e2
    rw [show ((0 + 1 : Nat) : Int) = 1 from rfl] at e1
    rw [show ((0 : Nat) : Int) = 0 from rfl] at e2
    rw [e1, e2]; simp

end Go.Proofs.Ytpkaggjbphafeaa.Pure
