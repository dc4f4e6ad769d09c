-- Written for this claim by a program of the session (wip/mk.py) over the kit's print.
import Derived.Test.YteibpjckmiifpaaDoorMFnExactReqTextx0
import Derived.Test.YteibpjckmiifpaaDoorMFnExactReqTextx1
import Derived.Test.YteibpjckmiifpaaDoorMFnExactReqTextx3
namespace Go.Proofs.YteibpjckmiifpaaDoor.MFnExactReqText
open Go.RowKit Go.Proofs.YteibpjckmiifpaaDoorW.PrintWords Go.Proofs.YteibpjckmiifpaaDoorW.PrintLast Go.Proofs.YteibpjckmiifpaaDoorW.PrintMore
attribute [local go_sem] max2_int min2_int max_two min_two max_three min_three max_four min_four   -- for this text's walks alone
set_option linter.unusedVariables false
set_option linter.unusedSimpArgs false

/-! ### spec_ReqText: function 8 -/
mutual
def spec_ReqText.j0 : Nat → ByteArray → Bool → Int → Int → Int → Bool → List Int → Option (ByteArray)
  | 0, _, _, _, _, _, _, _ => none
  | k + 1, x3, x153000, x153001, x153002, x153003, x153004, x153005 => if x3.size + 1 ≤ 9223372036854775807 then ((some (([(⟨#[98, 121, 116, 101]⟩ : ByteArray), (⟨#[104, 97, 108, 102]⟩ : ByteArray), (⟨#[119, 111, 114, 100]⟩ : ByteArray)] : List ByteArray) : List ByteArray)).bind fun y154 => (if 0 ≤ x153002 then (if x153002 < (y154.length : Int) then (if (x3 ++ (⟨#[32]⟩ : ByteArray)).size + (rdOf ByteArray.empty y154 x153002).size ≤ 9223372036854775807 then (if ((x3 ++ (⟨#[32]⟩ : ByteArray)) ++ (rdOf ByteArray.empty y154 x153002)).size + 1 ≤ 9223372036854775807 then ((some (([(⟨#[111, 110, 101]⟩ : ByteArray), (⟨#[102, 111, 117, 114]⟩ : ByteArray), (⟨#[119, 114, 97, 112]⟩ : ByteArray), (⟨#[101, 105, 103, 104, 116]⟩ : ByteArray)] : List ByteArray) : List ByteArray)).bind fun y158 => (if 0 ≤ x153003 then (if x153003 < (y158.length : Int) then (if (((x3 ++ (⟨#[32]⟩ : ByteArray)) ++ (rdOf ByteArray.empty y154 x153002)) ++ (⟨#[32]⟩ : ByteArray)).size + (rdOf ByteArray.empty y158 x153003).size ≤ 9223372036854775807 then (if ((((x3 ++ (⟨#[32]⟩ : ByteArray)) ++ (rdOf ByteArray.empty y154 x153002)) ++ (⟨#[32]⟩ : ByteArray)) ++ (rdOf ByteArray.empty y158 x153003)).size + 1 ≤ 9223372036854775807 then ((spec_Dec.f k x153001).bind fun t162 => (if (((((x3 ++ (⟨#[32]⟩ : ByteArray)) ++ (rdOf ByteArray.empty y154 x153002)) ++ (⟨#[32]⟩ : ByteArray)) ++ (rdOf ByteArray.empty y158 x153003)) ++ (⟨#[32]⟩ : ByteArray)).size + t162.size ≤ 9223372036854775807 then (if x153004 = true then (if ((((((x3 ++ (⟨#[32]⟩ : ByteArray)) ++ (rdOf ByteArray.empty y154 x153002)) ++ (⟨#[32]⟩ : ByteArray)) ++ (rdOf ByteArray.empty y158 x153003)) ++ (⟨#[32]⟩ : ByteArray)) ++ t162).size + 5 ≤ 9223372036854775807 then (spec_ReqText.j1 k (((((((x3 ++ (⟨#[32]⟩ : ByteArray)) ++ (rdOf ByteArray.empty y154 x153002)) ++ (⟨#[32]⟩ : ByteArray)) ++ (rdOf ByteArray.empty y158 x153003)) ++ (⟨#[32]⟩ : ByteArray)) ++ t162) ++ (⟨#[32, 108, 111, 99, 107]⟩ : ByteArray)) x153000 x153001 x153002 x153003 x153004 x153005) else (none)) else (spec_ReqText.j1 k ((((((x3 ++ (⟨#[32]⟩ : ByteArray)) ++ (rdOf ByteArray.empty y154 x153002)) ++ (⟨#[32]⟩ : ByteArray)) ++ (rdOf ByteArray.empty y158 x153003)) ++ (⟨#[32]⟩ : ByteArray)) ++ t162) x153000 x153001 x153002 x153003 x153004 x153005)) else (none))) else (none)) else (none)) else (none)) else (none))) else (none)) else (none)) else (none)) else (none))) else (none)
def spec_ReqText.j1 : Nat → ByteArray → Bool → Int → Int → Int → Bool → List Int → Option (ByteArray)
  | 0, _, _, _, _, _, _, _ => none
  | k + 1, x3, x153000, x153001, x153002, x153003, x153004, x153005 => spec_ReqText.l0 k x3 0 x153000 x153001 x153002 x153003 x153004 x153005
def spec_ReqText.l0 : Nat → ByteArray → Int → Bool → Int → Int → Int → Bool → List Int → Option (ByteArray)
  | 0, _, _, _, _, _, _, _, _ => none
  | k + 1, x3, x4, x153000, x153001, x153002, x153003, x153004, x153005 => if x4 < (x153005.length : Int) then (if x3.size + 1 ≤ 9223372036854775807 then (if 0 ≤ x4 then ((spec_Dec.f k (rd x153005 x4)).bind fun t164 => (if (x3 ++ (⟨#[32]⟩ : ByteArray)).size + t164.size ≤ 9223372036854775807 then (spec_ReqText.l0 k ((x3 ++ (⟨#[32]⟩ : ByteArray)) ++ t164) (wrap64 (x4 + 1)) x153000 x153001 x153002 x153003 x153004 x153005) else (none))) else (none)) else (none)) else (some x3)
end
def spec_ReqText.f (k : Nat) (a0_0 : Bool) (a0_1 : Int) (a0_2 : Int) (a0_3 : Int) (a0_4 : Bool) (l0_5 : List Int) : Option (ByteArray) := (spec_ReqOk.f k a0_0 a0_1 a0_2 a0_3 a0_4 l0_5).bind fun t153 => (if t153 = true then (if a0_0 = true then (spec_ReqText.j0 k (⟨#[119, 114, 105, 116, 101]⟩ : ByteArray) a0_0 a0_1 a0_2 a0_3 a0_4 l0_5) else (spec_ReqText.j0 k (⟨#[114, 101, 97, 100]⟩ : ByteArray) a0_0 a0_1 a0_2 a0_3 a0_4 l0_5)) else (some (⟨#[]⟩ : ByteArray)))
theorem spec_ReqText.mono_l : ∀ k, (∀ y0 y1 y2 y3 y4 y5 y6, LeO (spec_ReqText.j0 k y0 y1 y2 y3 y4 y5 y6) (spec_ReqText.j0 (k + 1) y0 y1 y2 y3 y4 y5 y6)) ∧ (∀ y0 y1 y2 y3 y4 y5 y6, LeO (spec_ReqText.j1 k y0 y1 y2 y3 y4 y5 y6) (spec_ReqText.j1 (k + 1) y0 y1 y2 y3 y4 y5 y6)) ∧ (∀ y0 y1 y2 y3 y4 y5 y6 y7, LeO (spec_ReqText.l0 k y0 y1 y2 y3 y4 y5 y6 y7) (spec_ReqText.l0 (k + 1) y0 y1 y2 y3 y4 y5 y6 y7))
  | 0 => ⟨fun _ _ _ _ _ _ _ r h => by simp [spec_ReqText.j0] at h, fun _ _ _ _ _ _ _ r h => by simp [spec_ReqText.j1] at h, fun _ _ _ _ _ _ _ _ r h => by simp [spec_ReqText.l0] at h⟩
  | k + 1 => by
    obtain ⟨ih0, ih1, ih2⟩ := spec_ReqText.mono_l k
    refine ⟨?_, ?_, ?_⟩
    · intro y0 y1 y2 y3 y4 y5 y6
      unfold spec_ReqText.j0
      repeat' first
      | (with_reducible exact ih0 _ _ _ _ _ _ _)
      | (with_reducible exact ih1 _ _ _ _ _ _ _)
      | (with_reducible exact ih2 _ _ _ _ _ _ _ _)
      | (with_reducible exact spec_Dec.mono _ _)
      | (with_reducible exact spec_ReqOk.mono _ _ _ _ _ _ _)
      | (with_reducible exact LeO.refl _)
      | (with_reducible exact LeO.none _)
      | (with_reducible refine LeO.ite ?_ ?_)
      | (with_reducible refine LeO.bind ?_ (fun _ => ?_))
      | exact ih0 _ _ _ _ _ _ _
      | exact ih1 _ _ _ _ _ _ _
      | exact ih2 _ _ _ _ _ _ _ _
      | exact spec_Dec.mono _ _
      | exact spec_ReqOk.mono _ _ _ _ _ _ _
      | exact LeO.none _
      | refine LeO.ite ?_ ?_
      | refine LeO.bind ?_ (fun _ => ?_)
    · intro y0 y1 y2 y3 y4 y5 y6
      unfold spec_ReqText.j1
      repeat' first
      | (with_reducible exact ih0 _ _ _ _ _ _ _)
      | (with_reducible exact ih1 _ _ _ _ _ _ _)
      | (with_reducible exact ih2 _ _ _ _ _ _ _ _)
      | (with_reducible exact spec_Dec.mono _ _)
      | (with_reducible exact spec_ReqOk.mono _ _ _ _ _ _ _)
      | (with_reducible exact LeO.refl _)
      | (with_reducible exact LeO.none _)
      | (with_reducible refine LeO.ite ?_ ?_)
      | (with_reducible refine LeO.bind ?_ (fun _ => ?_))
      | exact ih0 _ _ _ _ _ _ _
      | exact ih1 _ _ _ _ _ _ _
      | exact ih2 _ _ _ _ _ _ _ _
      | exact spec_Dec.mono _ _
      | exact spec_ReqOk.mono _ _ _ _ _ _ _
      | exact LeO.none _
      | refine LeO.ite ?_ ?_
      | refine LeO.bind ?_ (fun _ => ?_)
    · intro y0 y1 y2 y3 y4 y5 y6 y7
      unfold spec_ReqText.l0
      repeat' first
      | (with_reducible exact ih0 _ _ _ _ _ _ _)
      | (with_reducible exact ih1 _ _ _ _ _ _ _)
      | (with_reducible exact ih2 _ _ _ _ _ _ _ _)
      | (with_reducible exact spec_Dec.mono _ _)
      | (with_reducible exact spec_ReqOk.mono _ _ _ _ _ _ _)
      | (with_reducible exact LeO.refl _)
      | (with_reducible exact LeO.none _)
      | (with_reducible refine LeO.ite ?_ ?_)
      | (with_reducible refine LeO.bind ?_ (fun _ => ?_))
      | exact ih0 _ _ _ _ _ _ _
      | exact ih1 _ _ _ _ _ _ _
      | exact ih2 _ _ _ _ _ _ _ _
      | exact spec_Dec.mono _ _
      | exact spec_ReqOk.mono _ _ _ _ _ _ _
      | exact LeO.none _
      | refine LeO.ite ?_ ?_
      | refine LeO.bind ?_ (fun _ => ?_)
theorem spec_ReqText.mono : ∀ a0 a1 a2 a3 a4 a5 k, LeO (spec_ReqText.f k a0 a1 a2 a3 a4 a5) (spec_ReqText.f (k + 1) a0 a1 a2 a3 a4 a5) := by
  intro a0 a1 a2 a3 a4 a5 k
  obtain ⟨ih0, ih1, ih2⟩ := spec_ReqText.mono_l k
  unfold spec_ReqText.f
  repeat' first
      | (with_reducible exact ih0 _ _ _ _ _ _ _)
      | (with_reducible exact ih1 _ _ _ _ _ _ _)
      | (with_reducible exact ih2 _ _ _ _ _ _ _ _)
      | (with_reducible exact spec_Dec.mono _ _)
      | (with_reducible exact spec_ReqOk.mono _ _ _ _ _ _ _)
      | (with_reducible exact LeO.refl _)
      | (with_reducible exact LeO.none _)
      | (with_reducible refine LeO.ite ?_ ?_)
      | (with_reducible refine LeO.bind ?_ (fun _ => ?_))
      | exact ih0 _ _ _ _ _ _ _
      | exact ih1 _ _ _ _ _ _ _
      | exact ih2 _ _ _ _ _ _ _ _
      | exact spec_Dec.mono _ _
      | exact spec_ReqOk.mono _ _ _ _ _ _ _
      | exact LeO.none _
      | refine LeO.ite ?_ ?_
      | refine LeO.bind ?_ (fun _ => ?_)
def spec_ReqText.T6 : Bool × List (List Nat × List Nat) := (true, [([], []), ([0], [0]), ([], []), ([], []), ([3], [3]), ([2, 4], [2, 4]), ([5], [5]), ([1, 6], [1, 6]), ([7], [7]), ([], []), ([], []), ([10], [10]), ([9, 11], [9, 11]), ([12], [12]), ([8, 13], [8, 13]), ([14], [14]), ([], []), ([16], [16]), ([17], [17]), ([15, 18], [15, 18]), ([19, 18, 0, 1, 2, 3, 4, 5, 6, 7, 8, 9, 10, 11, 12, 13, 14, 15, 16, 17, 18, 19], [0, 19])])
def spec_ReqText.B6 : List Nat := [0, 1, 0, 0, 8, 28, 60, 127, 255, 0, 0, 1024, 3584, 7680, 16383, 32767, 0, 65536, 196608, 524287, 1048575]
theorem spec_ReqText.tab6 : rtab .any (opsOf Tryd.f8 6) = spec_ReqText.T6 := by kernel_rfl
theorem spec_ReqText.bits6 : waitsOk spec_ReqText.T6.2 spec_ReqText.B6 = true := by kernel_rfl
set_option maxHeartbeats 8000000 in
set_option maxRecDepth 100000 in
theorem spec_ReqText.calls (k : Nat) (a0_0 : Bool) (a0_1 : Int) (a0_2 : Int) (a0_3 : Int) (a0_4 : Bool) (A0_5 : Option Addr) (c0_5 : Nat) (l0_5 : List Int) (r : ByteArray) (w : World) (hr0_5 : Kd.C (Kd.int .i64) w A0_5 l0_5.length l0_5) (hc0_5 : l0_5.length ≤ c0_5) (h : spec_ReqText.f k a0_0 a0_1 a0_2 a0_3 a0_4 l0_5 = some r) :
    Calls Tryd.prog 8 #[.agg #[.bool a0_0, .int .i64 a0_1, .int .i64 a0_2, .int .i64 a0_3, .bool a0_4, .slice A0_5 l0_5.length c0_5]] w fun e w' => e = .returned (.string r) ∧ Below w.heap.size w w' := by
  have hu29 := Tryd.underlying29
  have HR0_5 := Aside0.mk hr0_5
  have HC0_5 := Aside0.mk hc0_5
  clear hr0_5 hc0_5
  have HB := Aside0.mk (Below.refl w.heap.size w)
  have H : ((spec_ReqOk.f k a0_0 a0_1 a0_2 a0_3 a0_4 l0_5).bind fun t153 => (if t153 = true then (if a0_0 = true then (spec_ReqText.j0 k (⟨#[119, 114, 105, 116, 101]⟩ : ByteArray) a0_0 a0_1 a0_2 a0_3 a0_4 l0_5) else (spec_ReqText.j0 k (⟨#[114, 101, 97, 100]⟩ : ByteArray) a0_0 a0_1 a0_2 a0_3 a0_4 l0_5)) else (some (⟨#[]⟩ : ByteArray)))) = some r := h
  clear h
  replace H := Option.bind_eq_some_iff.mp H
  obtain ⟨t153, A20, H⟩ := H
  replace H : (if t153 = true then (if a0_0 = true then (spec_ReqText.j0 k (⟨#[119, 114, 105, 116, 101]⟩ : ByteArray) a0_0 a0_1 a0_2 a0_3 a0_4 l0_5) else (spec_ReqText.j0 k (⟨#[114, 101, 97, 100]⟩ : ByteArray) a0_0 a0_1 a0_2 a0_3 a0_4 l0_5)) else (some (⟨#[]⟩ : ByteArray))) = some r := H
  have A2 := Aside0.mk A20
  clear A20
  by_cases c3 : t153 = true
  · subst c3
    have H1 : (if a0_0 = true then (spec_ReqText.j0 k (⟨#[119, 114, 105, 116, 101]⟩ : ByteArray) a0_0 a0_1 a0_2 a0_3 a0_4 l0_5) else (spec_ReqText.j0 k (⟨#[114, 101, 97, 100]⟩ : ByteArray) a0_0 a0_1 a0_2 a0_3 a0_4 l0_5)) = some r := by rw [if_pos rfl] at H; exact H
    clear H
    have H := H1
    clear H1
    have HC4 := Aside0.mk H
    clear H
    go_enter Tryd.func8, Tryd.ntmps8
    go_upto_if 9 with (first | ((with_reducible refine gate_dst (N := 1) rfl ?_); refine box_event ?hg (N := 1) ?hd (cs := #[.bool a0_0, .int .i64 a0_1, .int .i64 a0_2, .int .i64 a0_3, .bool a0_4, .slice A0_5 l0_5.length c0_5]) (t := 29) ?hr ?_; (case hd => rfl); (case hg => rfl); (case hr => first | (go_simp; done) | (go_simp; rfl)); intro gb152 hg w5 hbox hb; have n0_ := Aside0.mk (below_step (by repeat (first | (with_reducible first | exact HB.out | apply below_alloc | apply pw_below_drewN | apply below_drew1) | exact HB.out)) hb); have n1_ := Aside0.mk (hbox); have n2_ := Aside0.mk ((by rw [hg]; exact (below_size (by repeat (first | (with_reducible first | exact HB.out | apply below_alloc | apply pw_below_drewN | apply below_drew1) | exact HB.out))) : w.heap.size ≤ gb152)); have n3_ := Aside0.mk ((by rw [hg]; exact (below_size (by repeat (first | (with_reducible first | exact HB.out | apply below_alloc | apply pw_below_drewN | apply below_drew1) | exact HB.out))) : w.heap.size ≤ gb152)); clear HB; have HB := n0_; have BK152 := n1_; have GW152 := n2_; have GE152 := n3_; clear n0_ n1_ n2_ n3_; clear hb hbox hg; have hcz6_0 : w5.cell? ⟨gb152, 0, none⟩ = some (.bool a0_0) := (blk_cell BK152.out 0).trans rfl; have hcz6_1 : w5.cell? ⟨gb152, 1, none⟩ = some (.int .i64 a0_1) := (blk_cell BK152.out 1).trans rfl; have hcz6_2 : w5.cell? ⟨gb152, 2, none⟩ = some (.int .i64 a0_2) := (blk_cell BK152.out 2).trans rfl; have hcz6_3 : w5.cell? ⟨gb152, 3, none⟩ = some (.int .i64 a0_3) := (blk_cell BK152.out 3).trans rfl; have hcz6_4 : w5.cell? ⟨gb152, 4, none⟩ = some (.bool a0_4) := (blk_cell BK152.out 4).trans rfl; have hcz6_5 : w5.cell? ⟨gb152, 5, none⟩ = some (.slice A0_5 l0_5.length c0_5) := (blk_cell BK152.out 5).trans rfl; have hfz6_0 := blk_frozen BK152.out 0; have hfz6_1 := blk_frozen BK152.out 1; have hfz6_2 := blk_frozen BK152.out 2; have hfz6_3 := blk_frozen BK152.out 3; have hfz6_4 := blk_frozen BK152.out 4; have hfz6_5 := blk_frozen BK152.out 5) | ((with_reducible refine gate_callee (f := 14) rfl ?_); refine goesL_ (some 6) rfl rfl Tryd.func14 (by kernel_rfl) rfl #[.agg #[.bool a0_0, .int .i64 a0_1, .int .i64 a0_2, .int .i64 a0_3, .bool a0_4, .slice A0_5 l0_5.length c0_5]] rfl (by (try simp only [List.map_toArray, List.map_cons, List.map_nil]); first | done | rfl | (simp only [List.length_drop, List.length_take]; rfl)) ?_; (with_reducible refine (spec_ReqOk.calls k a0_0 a0_1 a0_2 a0_3 a0_4 _ _ l0_5 true _ ?side1 ?side2 A2.out).mono ?_); (case side1 => repeat (first | exact (Kd.C_below HR0_5.out HB.out) | (with_reducible refine Kd.C_alloc ?_ _) | (with_reducible refine Kd.C_drewN ?_ _) | (with_reducible refine Kd.C_drew ?_))); (case side2 => exact HC0_5.out); rintro e w7 ⟨rfl, hb⟩; refine ⟨_, rfl, ?_⟩; have n0_ := Aside0.mk (blk_below (g := gb152) (o := .cells #[.bool a0_0, .int .i64 a0_1, .int .i64 a0_2, .int .i64 a0_3, .bool a0_4, .slice A0_5 l0_5.length c0_5] 29 (0, 0)) (by (with_reducible repeat (first | refine blk_drewN ?_ _ | refine blk_drew ?_ | refine blk_alloc ?_ _)); exact BK152.out) hb); have n1_ := Aside0.mk (below_step (by repeat (first | (with_reducible first | exact HB.out | apply below_alloc | apply pw_below_drewN | apply below_drew1 | refine below_set ?_ GE152.out) | exact HB.out)) hb); clear BK152; clear HB; have BK152 := n0_; have HB := n1_; clear n0_ n1_; (try clear hb); (try clear hb2); (try clear hk); (try clear hi); have hcz8_0 : w7.cell? ⟨gb152, 0, none⟩ = some (.bool a0_0) := (blk_cell BK152.out 0).trans rfl; have hcz8_1 : w7.cell? ⟨gb152, 1, none⟩ = some (.int .i64 a0_1) := (blk_cell BK152.out 1).trans rfl; have hcz8_2 : w7.cell? ⟨gb152, 2, none⟩ = some (.int .i64 a0_2) := (blk_cell BK152.out 2).trans rfl; have hcz8_3 : w7.cell? ⟨gb152, 3, none⟩ = some (.int .i64 a0_3) := (blk_cell BK152.out 3).trans rfl; have hcz8_4 : w7.cell? ⟨gb152, 4, none⟩ = some (.bool a0_4) := (blk_cell BK152.out 4).trans rfl; have hcz8_5 : w7.cell? ⟨gb152, 5, none⟩ = some (.slice A0_5 l0_5.length c0_5) := (blk_cell BK152.out 5).trans rfl; have hfz8_0 := blk_frozen BK152.out 0; have hfz8_1 := blk_frozen BK152.out 1; have hfz8_2 := blk_frozen BK152.out 2; have hfz8_3 := blk_frozen BK152.out 3; have hfz8_4 := blk_frozen BK152.out 4; have hfz8_5 := blk_frozen BK152.out 5))
    (try simp only [Act.put, List.setIfInBounds_toArray, List.set_cons_zero, List.set_cons_succ])
    go_cut [3] (fun v3 wc => ∃ (kq : Nat) (x3_3 : ByteArray), v3 = .string x3_3 ∧ Aside0 (spec_ReqText.j0 kq x3_3 a0_0 a0_1 a0_2 a0_3 a0_4 l0_5 = some r) ∧ Aside0 (kq ≤ k) ∧ Aside0 (wc.heap[gb152]? = some (.cells #[.bool a0_0, .int .i64 a0_1, .int .i64 a0_2, .int .i64 a0_3, .bool a0_4, (.slice A0_5 l0_5.length c0_5)] 29 (0, 0))) ∧ Aside0 (Below w.heap.size w wc))
    case first =>
      have H := HC4.out
      clear HC4
      by_cases c9 : a0_0 = true
      · subst c9
        have H1 : (spec_ReqText.j0 k (⟨#[119, 114, 105, 116, 101]⟩ : ByteArray) true a0_1 a0_2 a0_3 a0_4 l0_5) = some r := by rw [if_pos rfl] at H; exact H
        clear H
        have H := H1
        clear H1
        have H' := Aside0.mk H
        clear H
        go_wp2
        go_meet
        case rel => exact ⟨_, ((⟨#[119, 114, 105, 116, 101]⟩ : ByteArray)), (by first | rfl | (simp; done) | (simp [*]; done)), H', ⟨by first | omega | exact Nat.le_refl _⟩, ⟨by (with_reducible repeat (first | refine blk_drewN ?_ _ | refine blk_drew ?_ | refine blk_alloc ?_ _)); exact BK152.out⟩, ⟨by repeat (first | (with_reducible first | exact HB.out | apply below_alloc | apply pw_below_drewN | apply below_drew1 | refine below_set ?_ GE152.out) | exact HB.out)⟩⟩
      · replace c9 := Bool.eq_false_iff.mpr c9
        subst c9
        have H1 : (spec_ReqText.j0 k (⟨#[114, 101, 97, 100]⟩ : ByteArray) false a0_1 a0_2 a0_3 a0_4 l0_5) = some r := by rw [if_neg (show ¬ (false = true) by decide)] at H; exact H
        clear H
        have H := H1
        clear H1
        have H' := Aside0.mk H
        clear H
        go_wp2
        go_meet
        case rel => exact ⟨_, ((⟨#[114, 101, 97, 100]⟩ : ByteArray)), (by first | rfl | (simp; done) | (simp [*]; done)), H', ⟨by first | omega | exact Nat.le_refl _⟩, ⟨by (with_reducible repeat (first | refine blk_drewN ?_ _ | refine blk_drew ?_ | refine blk_alloc ?_ _)); exact BK152.out⟩, ⟨by repeat (first | (with_reducible first | exact HB.out | apply below_alloc | apply pw_below_drewN | apply below_drew1 | refine below_set ?_ GE152.out) | exact HB.out)⟩⟩
    case rest =>
      clear HC4
      try clear c1
      try clear p2
      try clear c3
      try clear c8
      try clear c9
      try clear hcz6_0
      try clear hcz6_1
      try clear hcz6_2
      try clear hcz6_3
      try clear hcz6_4
      try clear hcz6_5
      try clear hcz8_0
      try clear hcz8_1
      try clear hcz8_2
      try clear hcz8_3
      try clear hcz8_4
      try clear hcz8_5
      try clear hfz6_0
      try clear hfz6_1
      try clear hfz6_2
      try clear hfz6_3
      try clear hfz6_4
      try clear hfz6_5
      try clear hfz8_0
      try clear hfz8_1
      try clear hfz8_2
      try clear hfz8_3
      try clear hfz8_4
      try clear hfz8_5
      obtain ⟨kq, x3_3, rfl, HA, HJ3, BK152, HB⟩ := hcut
      cases kq with
      | zero => exact absurd HA.out (by simp [spec_ReqText.j0])
      | succ kj3 =>
        have H := HA.out
        clear HA
        simp only [spec_ReqText.j0] at H
        by_cases c10 : x3_3.size + 1 ≤ 9223372036854775807
        · rw [if_pos c10] at H
          have c10b0 := eq_true c10
          have c10b1 : decide (x3_3.size + 1 ≤ 9223372036854775807) = true := decide_eq_true c10
          try have c10b2 : (9223372036854775807 < x3_3.size + 1) = False := eq_false (Nat.not_lt.2 c10)
          obtain ⟨y154, hy154⟩ : ∃ y_ : List ByteArray, y_ = (([(⟨#[98, 121, 116, 101]⟩ : ByteArray), (⟨#[104, 97, 108, 102]⟩ : ByteArray), (⟨#[119, 111, 114, 100]⟩ : ByteArray)] : List ByteArray)) := ⟨_, rfl⟩
          replace H : (if 0 ≤ a0_2 then (if a0_2 < (y154.length : Int) then (if (x3_3 ++ (⟨#[32]⟩ : ByteArray)).size + (rdOf ByteArray.empty y154 a0_2).size ≤ 9223372036854775807 then (if ((x3_3 ++ (⟨#[32]⟩ : ByteArray)) ++ (rdOf ByteArray.empty y154 a0_2)).size + 1 ≤ 9223372036854775807 then ((some (([(⟨#[111, 110, 101]⟩ : ByteArray), (⟨#[102, 111, 117, 114]⟩ : ByteArray), (⟨#[119, 114, 97, 112]⟩ : ByteArray), (⟨#[101, 105, 103, 104, 116]⟩ : ByteArray)] : List ByteArray) : List ByteArray)).bind fun y158 => (if 0 ≤ a0_3 then (if a0_3 < (y158.length : Int) then (if (((x3_3 ++ (⟨#[32]⟩ : ByteArray)) ++ (rdOf ByteArray.empty y154 a0_2)) ++ (⟨#[32]⟩ : ByteArray)).size + (rdOf ByteArray.empty y158 a0_3).size ≤ 9223372036854775807 then (if ((((x3_3 ++ (⟨#[32]⟩ : ByteArray)) ++ (rdOf ByteArray.empty y154 a0_2)) ++ (⟨#[32]⟩ : ByteArray)) ++ (rdOf ByteArray.empty y158 a0_3)).size + 1 ≤ 9223372036854775807 then ((spec_Dec.f kj3 a0_1).bind fun t162 => (if (((((x3_3 ++ (⟨#[32]⟩ : ByteArray)) ++ (rdOf ByteArray.empty y154 a0_2)) ++ (⟨#[32]⟩ : ByteArray)) ++ (rdOf ByteArray.empty y158 a0_3)) ++ (⟨#[32]⟩ : ByteArray)).size + t162.size ≤ 9223372036854775807 then (if a0_4 = true then (if ((((((x3_3 ++ (⟨#[32]⟩ : ByteArray)) ++ (rdOf ByteArray.empty y154 a0_2)) ++ (⟨#[32]⟩ : ByteArray)) ++ (rdOf ByteArray.empty y158 a0_3)) ++ (⟨#[32]⟩ : ByteArray)) ++ t162).size + 5 ≤ 9223372036854775807 then (spec_ReqText.j1 kj3 (((((((x3_3 ++ (⟨#[32]⟩ : ByteArray)) ++ (rdOf ByteArray.empty y154 a0_2)) ++ (⟨#[32]⟩ : ByteArray)) ++ (rdOf ByteArray.empty y158 a0_3)) ++ (⟨#[32]⟩ : ByteArray)) ++ t162) ++ (⟨#[32, 108, 111, 99, 107]⟩ : ByteArray)) a0_0 a0_1 a0_2 a0_3 a0_4 l0_5) else (none)) else (spec_ReqText.j1 kj3 ((((((x3_3 ++ (⟨#[32]⟩ : ByteArray)) ++ (rdOf ByteArray.empty y154 a0_2)) ++ (⟨#[32]⟩ : ByteArray)) ++ (rdOf ByteArray.empty y158 a0_3)) ++ (⟨#[32]⟩ : ByteArray)) ++ t162) a0_0 a0_1 a0_2 a0_3 a0_4 l0_5)) else (none))) else (none)) else (none)) else (none)) else (none))) else (none)) else (none)) else (none)) else (none)) = some r := by first | (rw [hy154]; with_reducible exact H) | (have H2_ := (Option.bind_some _ _).symm.trans H; rw [hy154]; with_reducible exact H2_) | (have H2_ := (Option.bind_some _ _).symm.trans H; with_reducible exact H2_) | with_reducible exact H | (rw [hy154]; exact H) | exact H
          have Ny154 := Aside0.mk hy154
          clear hy154
          by_cases c11 : 0 ≤ a0_2
          · rw [if_pos c11] at H
            have c11b0 : decide (0 ≤ a0_2) = true := decide_eq_true c11
            clear c11
            by_cases c12 : a0_2 < (y154.length : Int)
            · rw [if_pos c12] at H
              have c12b0 : decide (a0_2 < (y154.length : Int)) = true := decide_eq_true c12
              clear c12
              by_cases c13 : (x3_3 ++ (⟨#[32]⟩ : ByteArray)).size + (rdOf ByteArray.empty y154 a0_2).size ≤ 9223372036854775807
              · rw [if_pos c13] at H
                have c13b0 := eq_true c13
                have c13s0 : x3_3.size + 1 + (rdOf ByteArray.empty y154 a0_2).size ≤ 9223372036854775807 := by have h_ := c13; simp only [ByteArray.size_append, show (⟨#[32]⟩ : ByteArray).size = 1 from rfl, show (⟨#[32, 108, 111, 99, 107]⟩ : ByteArray).size = 5 from rfl] at h_; omega
                have c13s2 : (9223372036854775807 < x3_3.size + 1 + (rdOf ByteArray.empty y154 a0_2).size) = False := eq_false (Nat.not_lt.2 c13s0)
                have c13b1 : decide ((x3_3 ++ (⟨#[32]⟩ : ByteArray)).size + (rdOf ByteArray.empty y154 a0_2).size ≤ 9223372036854775807) = true := decide_eq_true c13
                try have c13b2 : (9223372036854775807 < (x3_3 ++ (⟨#[32]⟩ : ByteArray)).size + (rdOf ByteArray.empty y154 a0_2).size) = False := eq_false (Nat.not_lt.2 c13)
                by_cases c14 : ((x3_3 ++ (⟨#[32]⟩ : ByteArray)) ++ (rdOf ByteArray.empty y154 a0_2)).size + 1 ≤ 9223372036854775807
                · rw [if_pos c14] at H
                  have c14b0 := eq_true c14
                  have c14s0 : x3_3.size + 1 + (rdOf ByteArray.empty y154 a0_2).size + 1 ≤ 9223372036854775807 := by have h_ := c14; simp only [ByteArray.size_append, show (⟨#[32]⟩ : ByteArray).size = 1 from rfl, show (⟨#[32, 108, 111, 99, 107]⟩ : ByteArray).size = 5 from rfl] at h_; omega
                  have c14s2 : (9223372036854775807 < x3_3.size + 1 + (rdOf ByteArray.empty y154 a0_2).size + 1) = False := eq_false (Nat.not_lt.2 c14s0)
                  have c14s3 : x3_3.size + 1 + (rdOf ByteArray.empty y154 a0_2).size ≤ 9223372036854775806 := by have h_ := c14s0; omega
                  have c14s4 : (9223372036854775806 < x3_3.size + 1 + (rdOf ByteArray.empty y154 a0_2).size) = False := eq_false (Nat.not_lt.2 c14s3)
                  have c14b1 : decide (((x3_3 ++ (⟨#[32]⟩ : ByteArray)) ++ (rdOf ByteArray.empty y154 a0_2)).size + 1 ≤ 9223372036854775807) = true := decide_eq_true c14
                  try have c14b2 : (9223372036854775807 < ((x3_3 ++ (⟨#[32]⟩ : ByteArray)) ++ (rdOf ByteArray.empty y154 a0_2)).size + 1) = False := eq_false (Nat.not_lt.2 c14)
                  obtain ⟨y158, hy158⟩ : ∃ y_ : List ByteArray, y_ = (([(⟨#[111, 110, 101]⟩ : ByteArray), (⟨#[102, 111, 117, 114]⟩ : ByteArray), (⟨#[119, 114, 97, 112]⟩ : ByteArray), (⟨#[101, 105, 103, 104, 116]⟩ : ByteArray)] : List ByteArray)) := ⟨_, rfl⟩
                  replace H : (if 0 ≤ a0_3 then (if a0_3 < (y158.length : Int) then (if (((x3_3 ++ (⟨#[32]⟩ : ByteArray)) ++ (rdOf ByteArray.empty y154 a0_2)) ++ (⟨#[32]⟩ : ByteArray)).size + (rdOf ByteArray.empty y158 a0_3).size ≤ 9223372036854775807 then (if ((((x3_3 ++ (⟨#[32]⟩ : ByteArray)) ++ (rdOf ByteArray.empty y154 a0_2)) ++ (⟨#[32]⟩ : ByteArray)) ++ (rdOf ByteArray.empty y158 a0_3)).size + 1 ≤ 9223372036854775807 then ((spec_Dec.f kj3 a0_1).bind fun t162 => (if (((((x3_3 ++ (⟨#[32]⟩ : ByteArray)) ++ (rdOf ByteArray.empty y154 a0_2)) ++ (⟨#[32]⟩ : ByteArray)) ++ (rdOf ByteArray.empty y158 a0_3)) ++ (⟨#[32]⟩ : ByteArray)).size + t162.size ≤ 9223372036854775807 then (if a0_4 = true then (if ((((((x3_3 ++ (⟨#[32]⟩ : ByteArray)) ++ (rdOf ByteArray.empty y154 a0_2)) ++ (⟨#[32]⟩ : ByteArray)) ++ (rdOf ByteArray.empty y158 a0_3)) ++ (⟨#[32]⟩ : ByteArray)) ++ t162).size + 5 ≤ 9223372036854775807 then (spec_ReqText.j1 kj3 (((((((x3_3 ++ (⟨#[32]⟩ : ByteArray)) ++ (rdOf ByteArray.empty y154 a0_2)) ++ (⟨#[32]⟩ : ByteArray)) ++ (rdOf ByteArray.empty y158 a0_3)) ++ (⟨#[32]⟩ : ByteArray)) ++ t162) ++ (⟨#[32, 108, 111, 99, 107]⟩ : ByteArray)) a0_0 a0_1 a0_2 a0_3 a0_4 l0_5) else (none)) else (spec_ReqText.j1 kj3 ((((((x3_3 ++ (⟨#[32]⟩ : ByteArray)) ++ (rdOf ByteArray.empty y154 a0_2)) ++ (⟨#[32]⟩ : ByteArray)) ++ (rdOf ByteArray.empty y158 a0_3)) ++ (⟨#[32]⟩ : ByteArray)) ++ t162) a0_0 a0_1 a0_2 a0_3 a0_4 l0_5)) else (none))) else (none)) else (none)) else (none)) else (none)) = some r := by first | (rw [hy158]; with_reducible exact H) | (have H2_ := (Option.bind_some _ _).symm.trans H; rw [hy158]; with_reducible exact H2_) | (have H2_ := (Option.bind_some _ _).symm.trans H; with_reducible exact H2_) | with_reducible exact H | (rw [hy158]; exact H) | exact H
                  have Ny158 := Aside0.mk hy158
                  clear hy158
                  by_cases c15 : 0 ≤ a0_3
                  · rw [if_pos c15] at H
                    have c15b0 : decide (0 ≤ a0_3) = true := decide_eq_true c15
                    clear c15
                    by_cases c16 : a0_3 < (y158.length : Int)
                    · rw [if_pos c16] at H
                      have c16b0 : decide (a0_3 < (y158.length : Int)) = true := decide_eq_true c16
                      clear c16
                      by_cases c17 : (((x3_3 ++ (⟨#[32]⟩ : ByteArray)) ++ (rdOf ByteArray.empty y154 a0_2)) ++ (⟨#[32]⟩ : ByteArray)).size + (rdOf ByteArray.empty y158 a0_3).size ≤ 9223372036854775807
                      · rw [if_pos c17] at H
                        have c17b0 := eq_true c17
                        have c17s0 : x3_3.size + 1 + (rdOf ByteArray.empty y154 a0_2).size + 1 + (rdOf ByteArray.empty y158 a0_3).size ≤ 9223372036854775807 := by have h_ := c17; simp only [ByteArray.size_append, show (⟨#[32]⟩ : ByteArray).size = 1 from rfl, show (⟨#[32, 108, 111, 99, 107]⟩ : ByteArray).size = 5 from rfl] at h_; omega
                        have c17s2 : (9223372036854775807 < x3_3.size + 1 + (rdOf ByteArray.empty y154 a0_2).size + 1 + (rdOf ByteArray.empty y158 a0_3).size) = False := eq_false (Nat.not_lt.2 c17s0)
                        have c17b1 : decide ((((x3_3 ++ (⟨#[32]⟩ : ByteArray)) ++ (rdOf ByteArray.empty y154 a0_2)) ++ (⟨#[32]⟩ : ByteArray)).size + (rdOf ByteArray.empty y158 a0_3).size ≤ 9223372036854775807) = true := decide_eq_true c17
                        try have c17b2 : (9223372036854775807 < (((x3_3 ++ (⟨#[32]⟩ : ByteArray)) ++ (rdOf ByteArray.empty y154 a0_2)) ++ (⟨#[32]⟩ : ByteArray)).size + (rdOf ByteArray.empty y158 a0_3).size) = False := eq_false (Nat.not_lt.2 c17)
                        by_cases c18 : ((((x3_3 ++ (⟨#[32]⟩ : ByteArray)) ++ (rdOf ByteArray.empty y154 a0_2)) ++ (⟨#[32]⟩ : ByteArray)) ++ (rdOf ByteArray.empty y158 a0_3)).size + 1 ≤ 9223372036854775807
                        · rw [if_pos c18] at H
                          have c18b0 := eq_true c18
                          have c18s0 : x3_3.size + 1 + (rdOf ByteArray.empty y154 a0_2).size + 1 + (rdOf ByteArray.empty y158 a0_3).size + 1 ≤ 9223372036854775807 := by have h_ := c18; simp only [ByteArray.size_append, show (⟨#[32]⟩ : ByteArray).size = 1 from rfl, show (⟨#[32, 108, 111, 99, 107]⟩ : ByteArray).size = 5 from rfl] at h_; omega
                          have c18s2 : (9223372036854775807 < x3_3.size + 1 + (rdOf ByteArray.empty y154 a0_2).size + 1 + (rdOf ByteArray.empty y158 a0_3).size + 1) = False := eq_false (Nat.not_lt.2 c18s0)
                          have c18s3 : x3_3.size + 1 + (rdOf ByteArray.empty y154 a0_2).size + 1 + (rdOf ByteArray.empty y158 a0_3).size ≤ 9223372036854775806 := by have h_ := c18s0; omega
                          have c18s4 : (9223372036854775806 < x3_3.size + 1 + (rdOf ByteArray.empty y154 a0_2).size + 1 + (rdOf ByteArray.empty y158 a0_3).size) = False := eq_false (Nat.not_lt.2 c18s3)
                          have c18b1 : decide (((((x3_3 ++ (⟨#[32]⟩ : ByteArray)) ++ (rdOf ByteArray.empty y154 a0_2)) ++ (⟨#[32]⟩ : ByteArray)) ++ (rdOf ByteArray.empty y158 a0_3)).size + 1 ≤ 9223372036854775807) = true := decide_eq_true c18
                          try have c18b2 : (9223372036854775807 < ((((x3_3 ++ (⟨#[32]⟩ : ByteArray)) ++ (rdOf ByteArray.empty y154 a0_2)) ++ (⟨#[32]⟩ : ByteArray)) ++ (rdOf ByteArray.empty y158 a0_3)).size + 1) = False := eq_false (Nat.not_lt.2 c18)
                          replace H := Option.bind_eq_some_iff.mp H
                          obtain ⟨t162, A190, H⟩ := H
                          replace H : (if (((((x3_3 ++ (⟨#[32]⟩ : ByteArray)) ++ (rdOf ByteArray.empty y154 a0_2)) ++ (⟨#[32]⟩ : ByteArray)) ++ (rdOf ByteArray.empty y158 a0_3)) ++ (⟨#[32]⟩ : ByteArray)).size + t162.size ≤ 9223372036854775807 then (if a0_4 = true then (if ((((((x3_3 ++ (⟨#[32]⟩ : ByteArray)) ++ (rdOf ByteArray.empty y154 a0_2)) ++ (⟨#[32]⟩ : ByteArray)) ++ (rdOf ByteArray.empty y158 a0_3)) ++ (⟨#[32]⟩ : ByteArray)) ++ t162).size + 5 ≤ 9223372036854775807 then (spec_ReqText.j1 kj3 (((((((x3_3 ++ (⟨#[32]⟩ : ByteArray)) ++ (rdOf ByteArray.empty y154 a0_2)) ++ (⟨#[32]⟩ : ByteArray)) ++ (rdOf ByteArray.empty y158 a0_3)) ++ (⟨#[32]⟩ : ByteArray)) ++ t162) ++ (⟨#[32, 108, 111, 99, 107]⟩ : ByteArray)) a0_0 a0_1 a0_2 a0_3 a0_4 l0_5) else (none)) else (spec_ReqText.j1 kj3 ((((((x3_3 ++ (⟨#[32]⟩ : ByteArray)) ++ (rdOf ByteArray.empty y154 a0_2)) ++ (⟨#[32]⟩ : ByteArray)) ++ (rdOf ByteArray.empty y158 a0_3)) ++ (⟨#[32]⟩ : ByteArray)) ++ t162) a0_0 a0_1 a0_2 a0_3 a0_4 l0_5)) else (none)) = some r := H
                          have A19 := Aside0.mk A190
                          clear A190
                          by_cases c20 : (((((x3_3 ++ (⟨#[32]⟩ : ByteArray)) ++ (rdOf ByteArray.empty y154 a0_2)) ++ (⟨#[32]⟩ : ByteArray)) ++ (rdOf ByteArray.empty y158 a0_3)) ++ (⟨#[32]⟩ : ByteArray)).size + t162.size ≤ 9223372036854775807
                          · rw [if_pos c20] at H
                            have c20b0 := eq_true c20
                            have c20s0 : x3_3.size + 1 + (rdOf ByteArray.empty y154 a0_2).size + 1 + (rdOf ByteArray.empty y158 a0_3).size + 1 + t162.size ≤ 9223372036854775807 := by have h_ := c20; simp only [ByteArray.size_append, show (⟨#[32]⟩ : ByteArray).size = 1 from rfl, show (⟨#[32, 108, 111, 99, 107]⟩ : ByteArray).size = 5 from rfl] at h_; omega
                            have c20s2 : (9223372036854775807 < x3_3.size + 1 + (rdOf ByteArray.empty y154 a0_2).size + 1 + (rdOf ByteArray.empty y158 a0_3).size + 1 + t162.size) = False := eq_false (Nat.not_lt.2 c20s0)
                            have c20b1 : decide ((((((x3_3 ++ (⟨#[32]⟩ : ByteArray)) ++ (rdOf ByteArray.empty y154 a0_2)) ++ (⟨#[32]⟩ : ByteArray)) ++ (rdOf ByteArray.empty y158 a0_3)) ++ (⟨#[32]⟩ : ByteArray)).size + t162.size ≤ 9223372036854775807) = true := decide_eq_true c20
                            try have c20b2 : (9223372036854775807 < (((((x3_3 ++ (⟨#[32]⟩ : ByteArray)) ++ (rdOf ByteArray.empty y154 a0_2)) ++ (⟨#[32]⟩ : ByteArray)) ++ (rdOf ByteArray.empty y158 a0_3)) ++ (⟨#[32]⟩ : ByteArray)).size + t162.size) = False := eq_false (Nat.not_lt.2 c20)
                            have HC21 := Aside0.mk H
                            clear H
                            try go_wp2
                            have pi157 : (0 ≤ (a0_2 : Int)) = True := eq_true (of_decide_eq_true (by first | (with_reducible assumption) | assumption))
                            have qi157 : (a0_2 < (y154.length : Int)) = True := eq_true (of_decide_eq_true (by first | (with_reducible assumption) | assumption))
                            have pi161 : (0 ≤ (a0_3 : Int)) = True := eq_true (of_decide_eq_true (by first | (with_reducible assumption) | assumption))
                            have qi161 : (a0_3 < (y158.length : Int)) = True := eq_true (of_decide_eq_true (by first | (with_reducible assumption) | assumption))
                            have n0_ := Aside0.mk (blk_drew BK152.out)
                            have n1_ := Aside0.mk (below_drew1 HB.out)
                            clear BK152
                            clear HB
                            have BK152 := n0_
                            have HB := n1_
                            clear n0_ n1_
                            refine start_ (n := 21) (S := fun w' => True) (ds := []) #[false, false, false, false, false, false, false, false, false, false, false, false, false, false, false, false, false, false, false, false, false] (by kernel_rfl) rfl rfl trivial (fun hHeld => ?_); refine with_tabW spec_ReqText.tab6 spec_ReqText.bits6 (fun HT_ HW_ => ?_)
                            generalize wc.drew = w22 at BK152 HB hHeld ⊢
                            refine pure_ (i := 0) (N := some 10) (v := ?_) (a' := ?_) #[true, false, false, false, false, false, false, false, false, false, false, false, false, false, false, false, false, false, false, false, false] rfl rfl (any_of HT_.out (by kernel_rfl)) (fun _ _ _ h => h) (Or.inl ⟨by rfl, ?_⟩) ?_ ?_
                            rotate_left
                            · intro w'
                              go_simp
                              with_reducible rfl
                            rotate_left
                            · simp only [Act.put, List.setIfInBounds_toArray, List.set_cons_zero, List.set_cons_succ, i64_w, i32_w]
                              rfl
                            refine pure_ (i := 3) (N := some 13) (v := ?_) (a' := ?_) #[true, false, false, true, false, false, false, false, false, false, false, false, false, false, false, false, false, false, false, false, false] rfl rfl (any_of HT_.out (by kernel_rfl)) (fun _ _ _ h => h) (Or.inl ⟨by rfl, ?_⟩) ?_ ?_
                            rotate_left
                            · intro w'
                              go_simp
                              with_reducible rfl
                            rotate_left
                            · simp only [Act.put, List.setIfInBounds_toArray, List.set_cons_zero, List.set_cons_succ, i64_w, i32_w]
                              rfl
                            refine pure_ (i := 10) (N := some 20) (v := ?_) (a' := ?_) #[true, false, false, true, false, false, false, false, false, false, true, false, false, false, false, false, false, false, false, false, false] rfl rfl (any_of HT_.out (by kernel_rfl)) (fun _ _ _ h => h) (Or.inl ⟨by rfl, ?_⟩) ?_ ?_
                            rotate_left
                            · intro w'
                              go_simp
                              with_reducible rfl
                            rotate_left
                            · simp only [Act.put, List.setIfInBounds_toArray, List.set_cons_zero, List.set_cons_succ, i64_w, i32_w]
                              rfl
                            refine pure_ (i := 16) (N := some 26) (v := ?_) (a' := ?_) #[true, false, false, true, false, false, false, false, false, false, true, false, false, false, false, false, true, false, false, false, false] rfl rfl (any_of HT_.out (by kernel_rfl)) (fun _ _ _ h => h) (Or.inl ⟨by rfl, ?_⟩) ?_ ?_
                            rotate_left
                            · intro w'
                              go_simp
                              with_reducible rfl
                            rotate_left
                            · simp only [Act.put, List.setIfInBounds_toArray, List.set_cons_zero, List.set_cons_succ, i64_w, i32_w]
                              rfl
                            refine inv_at [1, 2, 4, 5, 6, 7, 8, 9, 11, 12, 13, 14, 15, 17, 18, 19, 20] (fun a0_ b a w' => ∃ (v155 : Value) (adz_v155 : Addr) (v159 : Value) (adz_v159 : Addr) (m5_ : Value) (m12_ : Value), a = putSel a0_ b [(1, 11, .string (x3_3 ++ (⟨#[32]⟩ : ByteArray))), (2, 12, v155), (4, 14, .int .i64 a0_2), (5, 15, m5_), (6, 16, .string (rdOf ByteArray.empty y154 a0_2)), (7, 17, .string ((x3_3 ++ (⟨#[32]⟩ : ByteArray)) ++ (rdOf ByteArray.empty y154 a0_2))), (8, 18, .string (((x3_3 ++ (⟨#[32]⟩ : ByteArray)) ++ (rdOf ByteArray.empty y154 a0_2)) ++ (⟨#[32]⟩ : ByteArray))), (9, 19, v159), (11, 21, .int .i64 a0_3), (12, 22, m12_), (13, 23, .string (rdOf ByteArray.empty y158 a0_3)), (14, 24, .string ((((x3_3 ++ (⟨#[32]⟩ : ByteArray)) ++ (rdOf ByteArray.empty y154 a0_2)) ++ (⟨#[32]⟩ : ByteArray)) ++ (rdOf ByteArray.empty y158 a0_3))), (15, 25, .string (((((x3_3 ++ (⟨#[32]⟩ : ByteArray)) ++ (rdOf ByteArray.empty y154 a0_2)) ++ (⟨#[32]⟩ : ByteArray)) ++ (rdOf ByteArray.empty y158 a0_3)) ++ (⟨#[32]⟩ : ByteArray))), (17, 27, .int .i64 a0_1), (18, 28, .string t162), (19, 29, .string ((((((x3_3 ++ (⟨#[32]⟩ : ByteArray)) ++ (rdOf ByteArray.empty y154 a0_2)) ++ (⟨#[32]⟩ : ByteArray)) ++ (rdOf ByteArray.empty y158 a0_3)) ++ (⟨#[32]⟩ : ByteArray)) ++ t162)), (20, 3, .string ((((((x3_3 ++ (⟨#[32]⟩ : ByteArray)) ++ (rdOf ByteArray.empty y154 a0_2)) ++ (⟨#[32]⟩ : ByteArray)) ++ (rdOf ByteArray.empty y158 a0_3)) ++ (⟨#[32]⟩ : ByteArray)) ++ t162))] ∧ (w'.heap[gb152]? = some (.cells #[.bool a0_0, .int .i64 a0_1, .int .i64 a0_2, .int .i64 a0_3, .bool a0_4, .slice A0_5 l0_5.length c0_5] 29 (0, 0))) ∧ (Below w.heap.size w w') ∧ (b 2 = true → Kd.R Kd.string 9 w' w.heap.size (fun _ => True) v155 y154) ∧ (b 2 = true → ∃ c_, (v155 : Value) = .slice (some adz_v155) y154.length c_) ∧ (b 9 = true → Kd.R Kd.string 9 w' w.heap.size (fun _ => True) v159 y158) ∧ (b 9 = true → ∃ c_, (v159 : Value) = .slice (some adz_v159) y158.length c_) ∧ (b 5 = true → (m5_ : Value) = .pointer (some (adz_v155.add (a0_2).toNat))) ∧ (b 12 = true → (m12_ : Value) = .pointer (some (adz_v159.add (a0_3).toNat)))) HT_.out HW_.out (by kernel_rfl) (by kernel_rfl) ?_ ?_ ?_
                            · exact ⟨.bool false, ⟨0, 0, none⟩, .bool false, ⟨0, 0, none⟩, .bool false, .bool false, by simp only [putSel, Bool.false_eq_true, if_false], BK152.out, HB.out, fun h_ => absurd h_ (by decide), fun h_ => absurd h_ (by decide), fun h_ => absurd h_ (by decide), fun h_ => absurd h_ (by decide), fun h_ => absurd h_ (by decide), fun h_ => absurd h_ (by decide)⟩
                            · skip
                              clear BK152 HB
                              refine steps_cons ?_ ?_
                              · rintro b a w' ⟨v155, adz_v155, v159, adz_v159, m5_, m12_, ha, Q_BK152, Q_HB, Q_HO156, Q_HA_HO156, Q_HO160, Q_HA_HO160, Q_X5_, Q_X12_⟩ hb_ hon hoff
                                refine ⟨_, rfl, fun K hK => ?_⟩
                                have e10 : a.tmps[10]? = some (.string x3_3) := by rw [ha]; exact (putSel_off rfl).trans rfl
                                replace ha := Aside0.mk ha
                                have BK152 := Aside0.mk Q_BK152
                                have HB := Aside0.mk Q_HB
                                refine value_ (w1 := w') (v := .string (x3_3 ++ (⟨#[32]⟩ : ByteArray))) (by rfl) rfl ?_ ?_
                                · go_simp
                                  (try simp only [i64_w])
                                  try rfl
                                  try omega
                                refine hK.out _ _ ⟨v155, adz_v155, v159, adz_v159, m5_, m12_, (by rw [ha.out]; exact putSel_upk 0 hb_ rfl rfl rfl), Q_BK152, Q_HB, Q_HO156, Q_HA_HO156, Q_HO160, Q_HA_HO160, Q_X5_, Q_X12_⟩
                              refine steps_cons ?_ ?_
                              · rintro b a w' ⟨v155, adz_v155, v159, adz_v159, m5_, m12_, ha, Q_BK152, Q_HB, Q_HO156, Q_HA_HO156, Q_HO160, Q_HA_HO160, Q_X5_, Q_X12_⟩ hb_ hon hoff
                                refine ⟨_, rfl, fun K hK => ?_⟩
                                replace ha := Aside0.mk ha
                                have BK152 := Aside0.mk Q_BK152
                                have HB := Aside0.mk Q_HB
                                refine Kd.R_lit_step Kd.string _ 9 ?hg (N := 12) ?hd (xs := ([(⟨#[98, 121, 116, 101]⟩ : ByteArray), (⟨#[104, 97, 108, 102]⟩ : ByteArray), (⟨#[119, 111, 114, 100]⟩ : ByteArray)] : List ByteArray)) (inner := [.string (⟨#[98, 121, 116, 101]⟩ : ByteArray), .string (⟨#[104, 97, 108, 102]⟩ : ByteArray), .string (⟨#[119, 111, 114, 100]⟩ : ByteArray)]) (ok := fun _ => True) (okp := fun _ => True) ?hr ?hp (fun _ hk => hk) trivial (Below.refl _ _) (Nat.le_refl _) (by simp) ?_; (case hd => rfl); (case hg => rfl); (case hr => first | (go_simp; done) | (go_simp; rfl)); (case hp => exact (Reps.one (show Kd.M Kd.string _ _ _ (⟨#[98, 121, 116, 101]⟩ : ByteArray) [.string (⟨#[98, 121, 116, 101]⟩ : ByteArray)] from rfl) (Reps.one (show Kd.M Kd.string _ _ _ (⟨#[104, 97, 108, 102]⟩ : ByteArray) [.string (⟨#[104, 97, 108, 102]⟩ : ByteArray)] from rfl) (Reps.one (show Kd.M Kd.string _ _ _ (⟨#[119, 111, 114, 100]⟩ : ByteArray) [.string (⟨#[119, 111, 114, 100]⟩ : ByteArray)] from rfl) (Reps.none _ _)))))
                                intro v155 w23 ho24 hb hg_ hnew_
                                clear hg_ hnew_
                                (first | rw [← Ny154.out] at ho24 | (simp only [Int.reduceToNat] at ho24; rw [← Ny154.out] at ho24))
                                have n0_ := Aside0.mk (Kd.R_lower ho24 (below_size (by repeat (first | (with_reducible first | exact HB.out | apply below_alloc | apply pw_below_drewN | apply below_drew1 | refine below_set ?_ GE152.out) | exact HB.out))))
                                have n1_ := Aside0.mk (blk_below (g := gb152) (o := .cells #[.bool a0_0, .int .i64 a0_1, .int .i64 a0_2, .int .i64 a0_3, .bool a0_4, .slice A0_5 l0_5.length c0_5] 29 (0, 0)) (by (with_reducible repeat (first | refine blk_drewN ?_ _ | refine blk_drew ?_ | refine blk_alloc ?_ _)); exact BK152.out) hb)
                                have n2_ := Aside0.mk (below_step (by repeat (first | (with_reducible first | exact HB.out | apply below_alloc | apply pw_below_drewN | apply below_drew1 | refine below_set ?_ GE152.out) | exact HB.out)) hb)
                                have z_HO160 := fun (h0_ : b 9 = true) => (show Kd.R Kd.string 9 w23 w.heap.size (fun _ => True) v159 y158 from by first | exact (Kd.R_elder' (by (with_reducible repeat (first | apply Kd.R_alloc | apply Kd.R_drewN | apply Kd.R_drew)); exact (Q_HO160 h0_)) (Kd.R_base ho24) hb) | exact Kd.R_mono (Kd.R_elder' (by (with_reducible repeat (first | apply Kd.R_alloc | apply Kd.R_drewN | apply Kd.R_drew)); exact (Q_HO160 h0_)) (Kd.R_base ho24) hb) (fun _ h_ => by first | trivial | exact h_ | exact h_.1))
                                clear BK152
                                clear HB
                                have HO156 := n0_
                                have BK152 := n1_
                                have HB := n2_
                                clear n0_ n1_ n2_
                                clear hb ho24
                                obtain ⟨Ao25, co25, eo25⟩ := Kd.R_slice HO156.out
                                subst eo25
                                obtain ⟨ado25, fo25, _⟩ := Kd.at_string (Kd.R_reads' HO156.out).2.2 0 (by decide) (by rw [Ny154.out]; simp)
                                cases fo25
                                refine hK.out _ _ ⟨.slice (some ado25) y154.length co25, ado25, v159, adz_v159, m5_, m12_, (by rw [ha.out]; exact putSel_upk 1 hb_ rfl rfl rfl), (by (with_reducible repeat (first | refine blk_drewN ?_ _ | refine blk_drew ?_ | refine blk_alloc ?_ _)); exact BK152.out), (by repeat (first | (with_reducible first | exact HB.out | apply below_alloc | apply pw_below_drewN | apply below_drew1 | refine below_set ?_ GE152.out) | exact HB.out)), fun _ => (by (with_reducible repeat (first | apply Kd.R_alloc | apply Kd.R_drewN | apply Kd.R_drew)); exact HO156.out), fun _ => ⟨_, rfl⟩, z_HO160, Q_HA_HO160, fun h0_ => absurd ((hoff 5 (by kernel_rfl)).symm.trans h0_) (by decide), Q_X12_⟩
                              refine steps_cons ?_ ?_
                              · rintro b a w' ⟨v155, adz_v155, v159, adz_v159, m5_, m12_, ha, Q_BK152, Q_HB, Q_HO156, Q_HA_HO156, Q_HO160, Q_HA_HO160, Q_X5_, Q_X12_⟩ hb_ hon hoff
                                refine ⟨_, rfl, fun K hK => ?_⟩
                                have e13 : a.tmps[13]? = some (.pointer (some ⟨gb152, 2, none⟩)) := by rw [ha]; exact (putSel_off rfl).trans rfl
                                replace ha := Aside0.mk ha
                                have BK152 := Aside0.mk Q_BK152
                                have HB := Aside0.mk Q_HB
                                have hc0_ : w'.cell? ⟨gb152, 0, none⟩ = some (.bool a0_0) := (blk_cell BK152.out 0).trans rfl
                                have hc1_ : w'.cell? ⟨gb152, 1, none⟩ = some (.int .i64 a0_1) := (blk_cell BK152.out 1).trans rfl
                                have hc2_ : w'.cell? ⟨gb152, 2, none⟩ = some (.int .i64 a0_2) := (blk_cell BK152.out 2).trans rfl
                                have hc3_ : w'.cell? ⟨gb152, 3, none⟩ = some (.int .i64 a0_3) := (blk_cell BK152.out 3).trans rfl
                                have hc4_ : w'.cell? ⟨gb152, 4, none⟩ = some (.bool a0_4) := (blk_cell BK152.out 4).trans rfl
                                have hc5_ : w'.cell? ⟨gb152, 5, none⟩ = some (.slice A0_5 l0_5.length c0_5) := (blk_cell BK152.out 5).trans rfl
                                refine value_ (w1 := w') (v := .int .i64 a0_2) (by rfl) rfl ?_ ?_
                                · go_simp
                                  (try simp only [i64_w])
                                  try rfl
                                  try omega
                                refine hK.out _ _ ⟨v155, adz_v155, v159, adz_v159, m5_, m12_, (by rw [ha.out]; exact putSel_upk 2 hb_ rfl rfl rfl), Q_BK152, Q_HB, Q_HO156, Q_HA_HO156, Q_HO160, Q_HA_HO160, fun h0_ => absurd ((hoff 5 (by kernel_rfl)).symm.trans h0_) (by decide), Q_X12_⟩
                              refine steps_cons ?_ ?_
                              · rintro b a w' ⟨v155, adz_v155, v159, adz_v159, m5_, m12_, ha, Q_BK152, Q_HB, Q_HO156, Q_HA_HO156, Q_HO160, Q_HA_HO160, Q_X5_, Q_X12_⟩ hb_ hon hoff
                                refine ⟨_, rfl, fun K hK => ?_⟩
                                have e12 : a.tmps[12]? = some (v155) := by rw [ha]; exact putSel_on (e := (2, 12, v155)) 1 rfl rfl (hon 2 (by kernel_rfl)) rfl
                                have e14 : a.tmps[14]? = some (.int .i64 a0_2) := by rw [ha]; exact putSel_on (e := (4, 14, .int .i64 a0_2)) 2 rfl rfl (hon 4 (by kernel_rfl)) rfl
                                replace ha := Aside0.mk ha
                                have BK152 := Aside0.mk Q_BK152
                                have HB := Aside0.mk Q_HB
                                have HO156 := Aside0.mk (Q_HO156 (hon 2 (by kernel_rfl)))
                                have HA_HO156 := Aside0.mk (Q_HA_HO156 (hon 2 (by kernel_rfl)))
                                obtain ⟨c_, hv_⟩ := HA_HO156.out
                                rw [hv_] at e12
                                refine value_ (w1 := w') (v := .pointer (some (adz_v155.add (a0_2).toNat))) (by rfl) rfl ?_ ?_
                                · go_simp
                                  (try simp only [i64_w])
                                  try rfl
                                  try omega
                                refine hK.out _ _ ⟨v155, adz_v155, v159, adz_v159, (.pointer (some (adz_v155.add (a0_2).toNat))), m12_, (by rw [ha.out]; exact putSel_upk 3 hb_ rfl rfl rfl), Q_BK152, Q_HB, Q_HO156, Q_HA_HO156, Q_HO160, Q_HA_HO160, fun _ => rfl, Q_X12_⟩
                              refine steps_cons ?_ ?_
                              · rintro b a w' ⟨v155, adz_v155, v159, adz_v159, m5_, m12_, ha, Q_BK152, Q_HB, Q_HO156, Q_HA_HO156, Q_HO160, Q_HA_HO160, Q_X5_, Q_X12_⟩ hb_ hon hoff
                                refine ⟨_, rfl, fun K hK => ?_⟩
                                have e15 : a.tmps[15]? = some (m5_) := by rw [ha]; exact putSel_on (e := (5, 15, m5_)) 3 rfl rfl (hon 5 (by kernel_rfl)) rfl
                                rw [Q_X5_ (hon 5 (by kernel_rfl))] at e15
                                replace ha := Aside0.mk ha
                                have BK152 := Aside0.mk Q_BK152
                                have HB := Aside0.mk Q_HB
                                have HO156 := Aside0.mk (Q_HO156 (hon 2 (by kernel_rfl)))
                                have HA_HO156 := Aside0.mk (Q_HA_HO156 (hon 2 (by kernel_rfl)))
                                obtain ⟨c_, hv_⟩ := HA_HO156.out
                                have hF_ := HO156.out
                                rw [hv_] at hF_
                                obtain ⟨ad_, ea_, hx_⟩ := Kd.at_string (Kd.R_reads' hF_).2.2 a0_2 (of_eq_true pi157) (of_eq_true qi157)
                                cases ea_
                                refine value_ (w1 := w') (v := .string (rdOf ByteArray.empty y154 a0_2)) (by rfl) rfl ?_ ?_
                                · go_simp
                                  (try simp only [i64_w])
                                  try rfl
                                  try omega
                                refine hK.out _ _ ⟨v155, adz_v155, v159, adz_v159, m5_, m12_, (by rw [ha.out]; exact putSel_upk 4 hb_ rfl rfl rfl), Q_BK152, Q_HB, Q_HO156, Q_HA_HO156, Q_HO160, Q_HA_HO160, Q_X5_, Q_X12_⟩
                              refine steps_cons ?_ ?_
                              · rintro b a w' ⟨v155, adz_v155, v159, adz_v159, m5_, m12_, ha, Q_BK152, Q_HB, Q_HO156, Q_HA_HO156, Q_HO160, Q_HA_HO160, Q_X5_, Q_X12_⟩ hb_ hon hoff
                                refine ⟨_, rfl, fun K hK => ?_⟩
                                have e11 : a.tmps[11]? = some (.string (x3_3 ++ (⟨#[32]⟩ : ByteArray))) := by rw [ha]; exact putSel_on (e := (1, 11, .string (x3_3 ++ (⟨#[32]⟩ : ByteArray)))) 0 rfl rfl (hon 1 (by kernel_rfl)) rfl
                                have e16 : a.tmps[16]? = some (.string (rdOf ByteArray.empty y154 a0_2)) := by rw [ha]; exact putSel_on (e := (6, 16, .string (rdOf ByteArray.empty y154 a0_2))) 4 rfl rfl (hon 6 (by kernel_rfl)) rfl
                                replace ha := Aside0.mk ha
                                have BK152 := Aside0.mk Q_BK152
                                have HB := Aside0.mk Q_HB
                                have HO156 := Aside0.mk (Q_HO156 (hon 2 (by kernel_rfl)))
                                have HA_HO156 := Aside0.mk (Q_HA_HO156 (hon 2 (by kernel_rfl)))
                                refine value_ (w1 := w') (v := .string ((x3_3 ++ (⟨#[32]⟩ : ByteArray)) ++ (rdOf ByteArray.empty y154 a0_2))) (by rfl) rfl ?_ ?_
                                · go_simp
                                  (try simp only [i64_w])
                                  try rfl
                                  try omega
                                refine hK.out _ _ ⟨v155, adz_v155, v159, adz_v159, m5_, m12_, (by rw [ha.out]; exact putSel_upk 5 hb_ rfl rfl rfl), Q_BK152, Q_HB, Q_HO156, Q_HA_HO156, Q_HO160, Q_HA_HO160, Q_X5_, Q_X12_⟩
                              refine steps_cons ?_ ?_
                              · rintro b a w' ⟨v155, adz_v155, v159, adz_v159, m5_, m12_, ha, Q_BK152, Q_HB, Q_HO156, Q_HA_HO156, Q_HO160, Q_HA_HO160, Q_X5_, Q_X12_⟩ hb_ hon hoff
                                refine ⟨_, rfl, fun K hK => ?_⟩
                                have e17 : a.tmps[17]? = some (.string ((x3_3 ++ (⟨#[32]⟩ : ByteArray)) ++ (rdOf ByteArray.empty y154 a0_2))) := by rw [ha]; exact putSel_on (e := (7, 17, .string ((x3_3 ++ (⟨#[32]⟩ : ByteArray)) ++ (rdOf ByteArray.empty y154 a0_2)))) 5 rfl rfl (hon 7 (by kernel_rfl)) rfl
                                replace ha := Aside0.mk ha
                                have BK152 := Aside0.mk Q_BK152
                                have HB := Aside0.mk Q_HB
                                have HO156 := Aside0.mk (Q_HO156 (hon 2 (by kernel_rfl)))
                                have HA_HO156 := Aside0.mk (Q_HA_HO156 (hon 2 (by kernel_rfl)))
                                refine value_ (w1 := w') (v := .string (((x3_3 ++ (⟨#[32]⟩ : ByteArray)) ++ (rdOf ByteArray.empty y154 a0_2)) ++ (⟨#[32]⟩ : ByteArray))) (by rfl) rfl ?_ ?_
                                · go_simp
                                  (try simp only [i64_w])
                                  try rfl
                                  try omega
                                refine hK.out _ _ ⟨v155, adz_v155, v159, adz_v159, m5_, m12_, (by rw [ha.out]; exact putSel_upk 6 hb_ rfl rfl rfl), Q_BK152, Q_HB, Q_HO156, Q_HA_HO156, Q_HO160, Q_HA_HO160, Q_X5_, Q_X12_⟩
                              refine steps_cons ?_ ?_
                              · rintro b a w' ⟨v155, adz_v155, v159, adz_v159, m5_, m12_, ha, Q_BK152, Q_HB, Q_HO156, Q_HA_HO156, Q_HO160, Q_HA_HO160, Q_X5_, Q_X12_⟩ hb_ hon hoff
                                refine ⟨_, rfl, fun K hK => ?_⟩
                                replace ha := Aside0.mk ha
                                have BK152 := Aside0.mk Q_BK152
                                have HB := Aside0.mk Q_HB
                                refine Kd.R_lit_step Kd.string _ 9 ?hg (N := 19) ?hd (xs := ([(⟨#[111, 110, 101]⟩ : ByteArray), (⟨#[102, 111, 117, 114]⟩ : ByteArray), (⟨#[119, 114, 97, 112]⟩ : ByteArray), (⟨#[101, 105, 103, 104, 116]⟩ : ByteArray)] : List ByteArray)) (inner := [.string (⟨#[111, 110, 101]⟩ : ByteArray), .string (⟨#[102, 111, 117, 114]⟩ : ByteArray), .string (⟨#[119, 114, 97, 112]⟩ : ByteArray), .string (⟨#[101, 105, 103, 104, 116]⟩ : ByteArray)]) (ok := fun _ => True) (okp := fun _ => True) ?hr ?hp (fun _ hk => hk) trivial (Below.refl _ _) (Nat.le_refl _) (by simp) ?_; (case hd => rfl); (case hg => rfl); (case hr => first | (go_simp; done) | (go_simp; rfl)); (case hp => exact (Reps.one (show Kd.M Kd.string _ _ _ (⟨#[111, 110, 101]⟩ : ByteArray) [.string (⟨#[111, 110, 101]⟩ : ByteArray)] from rfl) (Reps.one (show Kd.M Kd.string _ _ _ (⟨#[102, 111, 117, 114]⟩ : ByteArray) [.string (⟨#[102, 111, 117, 114]⟩ : ByteArray)] from rfl) (Reps.one (show Kd.M Kd.string _ _ _ (⟨#[119, 114, 97, 112]⟩ : ByteArray) [.string (⟨#[119, 114, 97, 112]⟩ : ByteArray)] from rfl) (Reps.one (show Kd.M Kd.string _ _ _ (⟨#[101, 105, 103, 104, 116]⟩ : ByteArray) [.string (⟨#[101, 105, 103, 104, 116]⟩ : ByteArray)] from rfl) (Reps.none _ _))))))
                                intro v159 w23 ho24 hb hg_ hnew_
                                clear hg_ hnew_
                                (first | rw [← Ny158.out] at ho24 | (simp only [Int.reduceToNat] at ho24; rw [← Ny158.out] at ho24))
                                have n0_ := Aside0.mk (Kd.R_lower ho24 (below_size (by repeat (first | (with_reducible first | exact HB.out | apply below_alloc | apply pw_below_drewN | apply below_drew1 | refine below_set ?_ GE152.out) | exact HB.out))))
                                have n1_ := Aside0.mk (blk_below (g := gb152) (o := .cells #[.bool a0_0, .int .i64 a0_1, .int .i64 a0_2, .int .i64 a0_3, .bool a0_4, .slice A0_5 l0_5.length c0_5] 29 (0, 0)) (by (with_reducible repeat (first | refine blk_drewN ?_ _ | refine blk_drew ?_ | refine blk_alloc ?_ _)); exact BK152.out) hb)
                                have n2_ := Aside0.mk (below_step (by repeat (first | (with_reducible first | exact HB.out | apply below_alloc | apply pw_below_drewN | apply below_drew1 | refine below_set ?_ GE152.out) | exact HB.out)) hb)
                                have z_HO156 := fun (h0_ : b 2 = true) => (show Kd.R Kd.string 9 w23 w.heap.size (fun _ => True) v155 y154 from by first | exact (Kd.R_elder' (by (with_reducible repeat (first | apply Kd.R_alloc | apply Kd.R_drewN | apply Kd.R_drew)); exact (Q_HO156 h0_)) (Kd.R_base ho24) hb) | exact Kd.R_mono (Kd.R_elder' (by (with_reducible repeat (first | apply Kd.R_alloc | apply Kd.R_drewN | apply Kd.R_drew)); exact (Q_HO156 h0_)) (Kd.R_base ho24) hb) (fun _ h_ => by first | trivial | exact h_ | exact h_.1))
                                clear BK152
                                clear HB
                                have HO160 := n0_
                                have BK152 := n1_
                                have HB := n2_
                                clear n0_ n1_ n2_
                                clear hb ho24
                                obtain ⟨Ao25, co25, eo25⟩ := Kd.R_slice HO160.out
                                subst eo25
                                obtain ⟨ado25, fo25, _⟩ := Kd.at_string (Kd.R_reads' HO160.out).2.2 0 (by decide) (by rw [Ny158.out]; simp)
                                cases fo25
                                refine hK.out _ _ ⟨v155, adz_v155, .slice (some ado25) y158.length co25, ado25, m5_, m12_, (by rw [ha.out]; exact putSel_upk 7 hb_ rfl rfl rfl), (by (with_reducible repeat (first | refine blk_drewN ?_ _ | refine blk_drew ?_ | refine blk_alloc ?_ _)); exact BK152.out), (by repeat (first | (with_reducible first | exact HB.out | apply below_alloc | apply pw_below_drewN | apply below_drew1 | refine below_set ?_ GE152.out) | exact HB.out)), z_HO156, Q_HA_HO156, fun _ => (by (with_reducible repeat (first | apply Kd.R_alloc | apply Kd.R_drewN | apply Kd.R_drew)); exact HO160.out), fun _ => ⟨_, rfl⟩, Q_X5_, fun h0_ => absurd ((hoff 12 (by kernel_rfl)).symm.trans h0_) (by decide)⟩
                              refine steps_cons ?_ ?_
                              · rintro b a w' ⟨v155, adz_v155, v159, adz_v159, m5_, m12_, ha, Q_BK152, Q_HB, Q_HO156, Q_HA_HO156, Q_HO160, Q_HA_HO160, Q_X5_, Q_X12_⟩ hb_ hon hoff
                                refine ⟨_, rfl, fun K hK => ?_⟩
                                have e20 : a.tmps[20]? = some (.pointer (some ⟨gb152, 3, none⟩)) := by rw [ha]; exact (putSel_off rfl).trans rfl
                                replace ha := Aside0.mk ha
                                have BK152 := Aside0.mk Q_BK152
                                have HB := Aside0.mk Q_HB
                                have hc0_ : w'.cell? ⟨gb152, 0, none⟩ = some (.bool a0_0) := (blk_cell BK152.out 0).trans rfl
                                have hc1_ : w'.cell? ⟨gb152, 1, none⟩ = some (.int .i64 a0_1) := (blk_cell BK152.out 1).trans rfl
                                have hc2_ : w'.cell? ⟨gb152, 2, none⟩ = some (.int .i64 a0_2) := (blk_cell BK152.out 2).trans rfl
                                have hc3_ : w'.cell? ⟨gb152, 3, none⟩ = some (.int .i64 a0_3) := (blk_cell BK152.out 3).trans rfl
                                have hc4_ : w'.cell? ⟨gb152, 4, none⟩ = some (.bool a0_4) := (blk_cell BK152.out 4).trans rfl
                                have hc5_ : w'.cell? ⟨gb152, 5, none⟩ = some (.slice A0_5 l0_5.length c0_5) := (blk_cell BK152.out 5).trans rfl
                                refine value_ (w1 := w') (v := .int .i64 a0_3) (by rfl) rfl ?_ ?_
                                · go_simp
                                  (try simp only [i64_w])
                                  try rfl
                                  try omega
                                refine hK.out _ _ ⟨v155, adz_v155, v159, adz_v159, m5_, m12_, (by rw [ha.out]; exact putSel_upk 8 hb_ rfl rfl rfl), Q_BK152, Q_HB, Q_HO156, Q_HA_HO156, Q_HO160, Q_HA_HO160, Q_X5_, fun h0_ => absurd ((hoff 12 (by kernel_rfl)).symm.trans h0_) (by decide)⟩
                              refine steps_cons ?_ ?_
                              · rintro b a w' ⟨v155, adz_v155, v159, adz_v159, m5_, m12_, ha, Q_BK152, Q_HB, Q_HO156, Q_HA_HO156, Q_HO160, Q_HA_HO160, Q_X5_, Q_X12_⟩ hb_ hon hoff
                                refine ⟨_, rfl, fun K hK => ?_⟩
                                have e19 : a.tmps[19]? = some (v159) := by rw [ha]; exact putSel_on (e := (9, 19, v159)) 7 rfl rfl (hon 9 (by kernel_rfl)) rfl
                                have e21 : a.tmps[21]? = some (.int .i64 a0_3) := by rw [ha]; exact putSel_on (e := (11, 21, .int .i64 a0_3)) 8 rfl rfl (hon 11 (by kernel_rfl)) rfl
                                replace ha := Aside0.mk ha
                                have BK152 := Aside0.mk Q_BK152
                                have HB := Aside0.mk Q_HB
                                have HO160 := Aside0.mk (Q_HO160 (hon 9 (by kernel_rfl)))
                                have HA_HO160 := Aside0.mk (Q_HA_HO160 (hon 9 (by kernel_rfl)))
                                obtain ⟨c_, hv_⟩ := HA_HO160.out
                                rw [hv_] at e19
                                refine value_ (w1 := w') (v := .pointer (some (adz_v159.add (a0_3).toNat))) (by rfl) rfl ?_ ?_
                                · go_simp
                                  (try simp only [i64_w])
                                  try rfl
                                  try omega
                                refine hK.out _ _ ⟨v155, adz_v155, v159, adz_v159, m5_, (.pointer (some (adz_v159.add (a0_3).toNat))), (by rw [ha.out]; exact putSel_upk 9 hb_ rfl rfl rfl), Q_BK152, Q_HB, Q_HO156, Q_HA_HO156, Q_HO160, Q_HA_HO160, Q_X5_, fun _ => rfl⟩
                              refine steps_cons ?_ ?_
                              · rintro b a w' ⟨v155, adz_v155, v159, adz_v159, m5_, m12_, ha, Q_BK152, Q_HB, Q_HO156, Q_HA_HO156, Q_HO160, Q_HA_HO160, Q_X5_, Q_X12_⟩ hb_ hon hoff
                                refine ⟨_, rfl, fun K hK => ?_⟩
                                have e22 : a.tmps[22]? = some (m12_) := by rw [ha]; exact putSel_on (e := (12, 22, m12_)) 9 rfl rfl (hon 12 (by kernel_rfl)) rfl
                                rw [Q_X12_ (hon 12 (by kernel_rfl))] at e22
                                replace ha := Aside0.mk ha
                                have BK152 := Aside0.mk Q_BK152
                                have HB := Aside0.mk Q_HB
                                have HO160 := Aside0.mk (Q_HO160 (hon 9 (by kernel_rfl)))
                                have HA_HO160 := Aside0.mk (Q_HA_HO160 (hon 9 (by kernel_rfl)))
                                obtain ⟨c_, hv_⟩ := HA_HO160.out
                                have hF_ := HO160.out
                                rw [hv_] at hF_
                                obtain ⟨ad_, ea_, hx_⟩ := Kd.at_string (Kd.R_reads' hF_).2.2 a0_3 (of_eq_true pi161) (of_eq_true qi161)
                                cases ea_
                                refine value_ (w1 := w') (v := .string (rdOf ByteArray.empty y158 a0_3)) (by rfl) rfl ?_ ?_
                                · go_simp
                                  (try simp only [i64_w])
                                  try rfl
                                  try omega
                                refine hK.out _ _ ⟨v155, adz_v155, v159, adz_v159, m5_, m12_, (by rw [ha.out]; exact putSel_upk 10 hb_ rfl rfl rfl), Q_BK152, Q_HB, Q_HO156, Q_HA_HO156, Q_HO160, Q_HA_HO160, Q_X5_, Q_X12_⟩
                              refine steps_cons ?_ ?_
                              · rintro b a w' ⟨v155, adz_v155, v159, adz_v159, m5_, m12_, ha, Q_BK152, Q_HB, Q_HO156, Q_HA_HO156, Q_HO160, Q_HA_HO160, Q_X5_, Q_X12_⟩ hb_ hon hoff
                                refine ⟨_, rfl, fun K hK => ?_⟩
                                have e18 : a.tmps[18]? = some (.string (((x3_3 ++ (⟨#[32]⟩ : ByteArray)) ++ (rdOf ByteArray.empty y154 a0_2)) ++ (⟨#[32]⟩ : ByteArray))) := by rw [ha]; exact putSel_on (e := (8, 18, .string (((x3_3 ++ (⟨#[32]⟩ : ByteArray)) ++ (rdOf ByteArray.empty y154 a0_2)) ++ (⟨#[32]⟩ : ByteArray)))) 6 rfl rfl (hon 8 (by kernel_rfl)) rfl
                                have e23 : a.tmps[23]? = some (.string (rdOf ByteArray.empty y158 a0_3)) := by rw [ha]; exact putSel_on (e := (13, 23, .string (rdOf ByteArray.empty y158 a0_3))) 10 rfl rfl (hon 13 (by kernel_rfl)) rfl
                                replace ha := Aside0.mk ha
                                have BK152 := Aside0.mk Q_BK152
                                have HB := Aside0.mk Q_HB
                                have HO156 := Aside0.mk (Q_HO156 (hon 2 (by kernel_rfl)))
                                have HA_HO156 := Aside0.mk (Q_HA_HO156 (hon 2 (by kernel_rfl)))
                                have HO160 := Aside0.mk (Q_HO160 (hon 9 (by kernel_rfl)))
                                have HA_HO160 := Aside0.mk (Q_HA_HO160 (hon 9 (by kernel_rfl)))
                                refine value_ (w1 := w') (v := .string ((((x3_3 ++ (⟨#[32]⟩ : ByteArray)) ++ (rdOf ByteArray.empty y154 a0_2)) ++ (⟨#[32]⟩ : ByteArray)) ++ (rdOf ByteArray.empty y158 a0_3))) (by rfl) rfl ?_ ?_
                                · go_simp
                                  (try simp only [i64_w])
                                  try rfl
                                  try omega
                                refine hK.out _ _ ⟨v155, adz_v155, v159, adz_v159, m5_, m12_, (by rw [ha.out]; exact putSel_upk 11 hb_ rfl rfl rfl), Q_BK152, Q_HB, Q_HO156, Q_HA_HO156, Q_HO160, Q_HA_HO160, Q_X5_, Q_X12_⟩
                              refine steps_cons ?_ ?_
                              · rintro b a w' ⟨v155, adz_v155, v159, adz_v159, m5_, m12_, ha, Q_BK152, Q_HB, Q_HO156, Q_HA_HO156, Q_HO160, Q_HA_HO160, Q_X5_, Q_X12_⟩ hb_ hon hoff
                                refine ⟨_, rfl, fun K hK => ?_⟩
                                have e24 : a.tmps[24]? = some (.string ((((x3_3 ++ (⟨#[32]⟩ : ByteArray)) ++ (rdOf ByteArray.empty y154 a0_2)) ++ (⟨#[32]⟩ : ByteArray)) ++ (rdOf ByteArray.empty y158 a0_3))) := by rw [ha]; exact putSel_on (e := (14, 24, .string ((((x3_3 ++ (⟨#[32]⟩ : ByteArray)) ++ (rdOf ByteArray.empty y154 a0_2)) ++ (⟨#[32]⟩ : ByteArray)) ++ (rdOf ByteArray.empty y158 a0_3)))) 11 rfl rfl (hon 14 (by kernel_rfl)) rfl
                                replace ha := Aside0.mk ha
                                have BK152 := Aside0.mk Q_BK152
                                have HB := Aside0.mk Q_HB
                                have HO156 := Aside0.mk (Q_HO156 (hon 2 (by kernel_rfl)))
                                have HA_HO156 := Aside0.mk (Q_HA_HO156 (hon 2 (by kernel_rfl)))
                                have HO160 := Aside0.mk (Q_HO160 (hon 9 (by kernel_rfl)))
                                have HA_HO160 := Aside0.mk (Q_HA_HO160 (hon 9 (by kernel_rfl)))
                                refine value_ (w1 := w') (v := .string (((((x3_3 ++ (⟨#[32]⟩ : ByteArray)) ++ (rdOf ByteArray.empty y154 a0_2)) ++ (⟨#[32]⟩ : ByteArray)) ++ (rdOf ByteArray.empty y158 a0_3)) ++ (⟨#[32]⟩ : ByteArray))) (by rfl) rfl ?_ ?_
                                · go_simp
                                  (try simp only [i64_w])
                                  try rfl
                                  try omega
                                refine hK.out _ _ ⟨v155, adz_v155, v159, adz_v159, m5_, m12_, (by rw [ha.out]; exact putSel_upk 12 hb_ rfl rfl rfl), Q_BK152, Q_HB, Q_HO156, Q_HA_HO156, Q_HO160, Q_HA_HO160, Q_X5_, Q_X12_⟩
                              refine steps_cons ?_ ?_
                              · rintro b a w' ⟨v155, adz_v155, v159, adz_v159, m5_, m12_, ha, Q_BK152, Q_HB, Q_HO156, Q_HA_HO156, Q_HO160, Q_HA_HO160, Q_X5_, Q_X12_⟩ hb_ hon hoff
                                refine ⟨_, rfl, fun K hK => ?_⟩
                                have e26 : a.tmps[26]? = some (.pointer (some ⟨gb152, 1, none⟩)) := by rw [ha]; exact (putSel_off rfl).trans rfl
                                replace ha := Aside0.mk ha
                                have BK152 := Aside0.mk Q_BK152
                                have HB := Aside0.mk Q_HB
                                have hc0_ : w'.cell? ⟨gb152, 0, none⟩ = some (.bool a0_0) := (blk_cell BK152.out 0).trans rfl
                                have hc1_ : w'.cell? ⟨gb152, 1, none⟩ = some (.int .i64 a0_1) := (blk_cell BK152.out 1).trans rfl
                                have hc2_ : w'.cell? ⟨gb152, 2, none⟩ = some (.int .i64 a0_2) := (blk_cell BK152.out 2).trans rfl
                                have hc3_ : w'.cell? ⟨gb152, 3, none⟩ = some (.int .i64 a0_3) := (blk_cell BK152.out 3).trans rfl
                                have hc4_ : w'.cell? ⟨gb152, 4, none⟩ = some (.bool a0_4) := (blk_cell BK152.out 4).trans rfl
                                have hc5_ : w'.cell? ⟨gb152, 5, none⟩ = some (.slice A0_5 l0_5.length c0_5) := (blk_cell BK152.out 5).trans rfl
                                refine value_ (w1 := w') (v := .int .i64 a0_1) (by rfl) rfl ?_ ?_
                                · go_simp
                                  (try simp only [i64_w])
                                  try rfl
                                  try omega
                                refine hK.out _ _ ⟨v155, adz_v155, v159, adz_v159, m5_, m12_, (by rw [ha.out]; exact putSel_upk 13 hb_ rfl rfl rfl), Q_BK152, Q_HB, Q_HO156, Q_HA_HO156, Q_HO160, Q_HA_HO160, Q_X5_, Q_X12_⟩
                              refine steps_cons ?_ ?_
                              · rintro b a w' ⟨v155, adz_v155, v159, adz_v159, m5_, m12_, ha, Q_BK152, Q_HB, Q_HO156, Q_HA_HO156, Q_HO160, Q_HA_HO160, Q_X5_, Q_X12_⟩ hb_ hon hoff
                                refine ⟨_, rfl, fun K hK => ?_⟩
                                have e27 : a.tmps[27]? = some (.int .i64 a0_1) := by rw [ha]; exact putSel_on (e := (17, 27, .int .i64 a0_1)) 13 rfl rfl (hon 17 (by kernel_rfl)) rfl
                                replace ha := Aside0.mk ha
                                have BK152 := Aside0.mk Q_BK152
                                have HB := Aside0.mk Q_HB
                                refine goes_ Tryd.func5 (by kernel_rfl) rfl #[.int .i64 a0_1] (by rfl) rfl rfl (by first | (simp only [List.map_toArray, List.map_cons, List.map_nil, Act.eval, Array.getD_eq_getD_getElem?, Option.getD_some, e27]; done) | (simp only [List.map_toArray, List.map_cons, List.map_nil, Act.eval, Array.getD_eq_getD_getElem?, Option.getD_some, e27]; rfl)) ?_
                                with_reducible refine (spec_Dec.calls kj3 a0_1 t162 _ A19.out).mono ?_
                                rintro e w23 ⟨rfl, hb⟩
                                refine ⟨_, rfl, ?_⟩
                                have n0_ := Aside0.mk (blk_below (g := gb152) (o := .cells #[.bool a0_0, .int .i64 a0_1, .int .i64 a0_2, .int .i64 a0_3, .bool a0_4, .slice A0_5 l0_5.length c0_5] 29 (0, 0)) (by (with_reducible repeat (first | refine blk_drewN ?_ _ | refine blk_drew ?_ | refine blk_alloc ?_ _)); exact BK152.out) hb)
                                have n1_ := Aside0.mk (below_step (by repeat (first | (with_reducible first | exact HB.out | apply below_alloc | apply pw_below_drewN | apply below_drew1 | refine below_set ?_ GE152.out) | exact HB.out)) hb)
                                have z_HO156 := fun (h0_ : b 2 = true) => (show Kd.R Kd.string 9 w23 w.heap.size (fun _ => True) v155 y154 from by first | exact (Kd.R_below (by (with_reducible repeat (first | apply Kd.R_alloc | apply Kd.R_drewN | apply Kd.R_drew)); exact (Q_HO156 h0_)) hb) | exact Kd.R_mono (Kd.R_below (by (with_reducible repeat (first | apply Kd.R_alloc | apply Kd.R_drewN | apply Kd.R_drew)); exact (Q_HO156 h0_)) hb) (fun _ h_ => by first | trivial | exact h_ | exact h_.1))
                                have z_HO160 := fun (h0_ : b 9 = true) => (show Kd.R Kd.string 9 w23 w.heap.size (fun _ => True) v159 y158 from by first | exact (Kd.R_below (by (with_reducible repeat (first | apply Kd.R_alloc | apply Kd.R_drewN | apply Kd.R_drew)); exact (Q_HO160 h0_)) hb) | exact Kd.R_mono (Kd.R_below (by (with_reducible repeat (first | apply Kd.R_alloc | apply Kd.R_drewN | apply Kd.R_drew)); exact (Q_HO160 h0_)) hb) (fun _ h_ => by first | trivial | exact h_ | exact h_.1))
                                clear BK152
                                clear HB
                                have BK152 := n0_
                                have HB := n1_
                                clear n0_ n1_
                                (try clear hb)
                                (try clear hb2)
                                (try clear hk)
                                (try clear hi)
                                refine hK.out _ _ ⟨v155, adz_v155, v159, adz_v159, m5_, m12_, (by rw [ha.out]; exact putSel_upk 14 hb_ rfl rfl rfl), (by (with_reducible repeat (first | refine blk_drewN ?_ _ | refine blk_drew ?_ | refine blk_alloc ?_ _)); exact BK152.out), (by repeat (first | (with_reducible first | exact HB.out | apply below_alloc | apply pw_below_drewN | apply below_drew1 | refine below_set ?_ GE152.out) | exact HB.out)), z_HO156, Q_HA_HO156, z_HO160, Q_HA_HO160, Q_X5_, Q_X12_⟩
                              refine steps_cons ?_ ?_
                              · rintro b a w' ⟨v155, adz_v155, v159, adz_v159, m5_, m12_, ha, Q_BK152, Q_HB, Q_HO156, Q_HA_HO156, Q_HO160, Q_HA_HO160, Q_X5_, Q_X12_⟩ hb_ hon hoff
                                refine ⟨_, rfl, fun K hK => ?_⟩
                                have e25 : a.tmps[25]? = some (.string (((((x3_3 ++ (⟨#[32]⟩ : ByteArray)) ++ (rdOf ByteArray.empty y154 a0_2)) ++ (⟨#[32]⟩ : ByteArray)) ++ (rdOf ByteArray.empty y158 a0_3)) ++ (⟨#[32]⟩ : ByteArray))) := by rw [ha]; exact putSel_on (e := (15, 25, .string (((((x3_3 ++ (⟨#[32]⟩ : ByteArray)) ++ (rdOf ByteArray.empty y154 a0_2)) ++ (⟨#[32]⟩ : ByteArray)) ++ (rdOf ByteArray.empty y158 a0_3)) ++ (⟨#[32]⟩ : ByteArray)))) 12 rfl rfl (hon 15 (by kernel_rfl)) rfl
                                have e28 : a.tmps[28]? = some (.string t162) := by rw [ha]; exact putSel_on (e := (18, 28, .string t162)) 14 rfl rfl (hon 18 (by kernel_rfl)) rfl
                                replace ha := Aside0.mk ha
                                have BK152 := Aside0.mk Q_BK152
                                have HB := Aside0.mk Q_HB
                                have HO156 := Aside0.mk (Q_HO156 (hon 2 (by kernel_rfl)))
                                have HA_HO156 := Aside0.mk (Q_HA_HO156 (hon 2 (by kernel_rfl)))
                                have HO160 := Aside0.mk (Q_HO160 (hon 9 (by kernel_rfl)))
                                have HA_HO160 := Aside0.mk (Q_HA_HO160 (hon 9 (by kernel_rfl)))
                                refine value_ (w1 := w') (v := .string ((((((x3_3 ++ (⟨#[32]⟩ : ByteArray)) ++ (rdOf ByteArray.empty y154 a0_2)) ++ (⟨#[32]⟩ : ByteArray)) ++ (rdOf ByteArray.empty y158 a0_3)) ++ (⟨#[32]⟩ : ByteArray)) ++ t162)) (by rfl) rfl ?_ ?_
                                · go_simp
                                  (try simp only [i64_w])
                                  try rfl
                                  try omega
                                refine hK.out _ _ ⟨v155, adz_v155, v159, adz_v159, m5_, m12_, (by rw [ha.out]; exact putSel_upk 15 hb_ rfl rfl rfl), Q_BK152, Q_HB, Q_HO156, Q_HA_HO156, Q_HO160, Q_HA_HO160, Q_X5_, Q_X12_⟩
                              refine steps_cons ?_ ?_
                              · rintro b a w' ⟨v155, adz_v155, v159, adz_v159, m5_, m12_, ha, Q_BK152, Q_HB, Q_HO156, Q_HA_HO156, Q_HO160, Q_HA_HO160, Q_X5_, Q_X12_⟩ hb_ hon hoff
                                refine ⟨_, rfl, fun K hK => ?_⟩
                                have e29 : a.tmps[29]? = some (.string ((((((x3_3 ++ (⟨#[32]⟩ : ByteArray)) ++ (rdOf ByteArray.empty y154 a0_2)) ++ (⟨#[32]⟩ : ByteArray)) ++ (rdOf ByteArray.empty y158 a0_3)) ++ (⟨#[32]⟩ : ByteArray)) ++ t162)) := by rw [ha]; exact putSel_on (e := (19, 29, .string ((((((x3_3 ++ (⟨#[32]⟩ : ByteArray)) ++ (rdOf ByteArray.empty y154 a0_2)) ++ (⟨#[32]⟩ : ByteArray)) ++ (rdOf ByteArray.empty y158 a0_3)) ++ (⟨#[32]⟩ : ByteArray)) ++ t162))) 15 rfl rfl (hon 19 (by kernel_rfl)) rfl
                                replace ha := Aside0.mk ha
                                have BK152 := Aside0.mk Q_BK152
                                have HB := Aside0.mk Q_HB
                                have HO156 := Aside0.mk (Q_HO156 (hon 2 (by kernel_rfl)))
                                have HA_HO156 := Aside0.mk (Q_HA_HO156 (hon 2 (by kernel_rfl)))
                                have HO160 := Aside0.mk (Q_HO160 (hon 9 (by kernel_rfl)))
                                have HA_HO160 := Aside0.mk (Q_HA_HO160 (hon 9 (by kernel_rfl)))
                                refine value_ (w1 := w') (v := .string ((((((x3_3 ++ (⟨#[32]⟩ : ByteArray)) ++ (rdOf ByteArray.empty y154 a0_2)) ++ (⟨#[32]⟩ : ByteArray)) ++ (rdOf ByteArray.empty y158 a0_3)) ++ (⟨#[32]⟩ : ByteArray)) ++ t162)) (by rfl) rfl ?_ ?_
                                · go_simp
                                  (try simp only [i64_w])
                                  try rfl
                                  try omega
                                refine hK.out _ _ ⟨v155, adz_v155, v159, adz_v159, m5_, m12_, (by rw [ha.out]; exact putSel_upk 16 hb_ rfl rfl rfl), Q_BK152, Q_HB, Q_HO156, Q_HA_HO156, Q_HO160, Q_HA_HO160, Q_X5_, Q_X12_⟩
                              exact steps_nil
                            rintro b a w30 hall ⟨v155, adz_v155, v159, adz_v159, m5_, m12_, ha, Q_BK152, Q_HB, Q_HO156, Q_HA_HO156, Q_HO160, Q_HA_HO160, Q_X5_, Q_X12_⟩
                            clear BK152 HB
                            have hb1_ := hall 1 (by kernel_rfl)
                            have hb2_ := hall 2 (by kernel_rfl)
                            have hb4_ := hall 4 (by kernel_rfl)
                            have hb5_ := hall 5 (by kernel_rfl)
                            have hb6_ := hall 6 (by kernel_rfl)
                            have hb7_ := hall 7 (by kernel_rfl)
                            have hb8_ := hall 8 (by kernel_rfl)
                            have hb9_ := hall 9 (by kernel_rfl)
                            have hb11_ := hall 11 (by kernel_rfl)
                            have hb12_ := hall 12 (by kernel_rfl)
                            have hb13_ := hall 13 (by kernel_rfl)
                            have hb14_ := hall 14 (by kernel_rfl)
                            have hb15_ := hall 15 (by kernel_rfl)
                            have hb17_ := hall 17 (by kernel_rfl)
                            have hb18_ := hall 18 (by kernel_rfl)
                            have hb19_ := hall 19 (by kernel_rfl)
                            have hb20_ := hall 20 (by kernel_rfl)
                            subst ha
                            obtain rfl := Q_X5_ hb5_
                            obtain rfl := Q_X12_ hb12_
                            simp only [putSel, hb1_, hb2_, hb4_, hb5_, hb6_, hb7_, hb8_, hb9_, hb11_, hb12_, hb13_, hb14_, hb15_, hb17_, hb18_, hb19_, hb20_, if_true, Act.put, List.setIfInBounds_toArray, List.set_cons_zero, List.set_cons_succ]
                            have BK152 := Aside0.mk Q_BK152
                            clear Q_BK152
                            have HB := Aside0.mk Q_HB
                            clear Q_HB
                            have HO156 := Aside0.mk (Q_HO156 hb2_)
                            clear Q_HO156
                            have HA_HO156 := Aside0.mk (Q_HA_HO156 hb2_)
                            clear Q_HA_HO156
                            have HO160 := Aside0.mk (Q_HO160 hb9_)
                            clear Q_HO160
                            have HA_HO160 := Aside0.mk (Q_HA_HO160 hb9_)
                            clear Q_HA_HO160
                            clear hall hb1_ hb2_ hb4_ hb5_ hb6_ hb7_ hb8_ hb9_ hb11_ hb12_ hb13_ hb14_ hb15_ hb17_ hb18_ hb19_ hb20_
                            obtain ⟨co31, eo31⟩ := HA_HO156.out
                            clear HA_HO156
                            subst eo31
                            obtain ⟨co32, eo32⟩ := HA_HO160.out
                            clear HA_HO160
                            subst eo32
                            have hcz33_0 : w30.cell? ⟨gb152, 0, none⟩ = some (.bool a0_0) := (blk_cell BK152.out 0).trans rfl
                            have hcz33_1 : w30.cell? ⟨gb152, 1, none⟩ = some (.int .i64 a0_1) := (blk_cell BK152.out 1).trans rfl
                            have hcz33_2 : w30.cell? ⟨gb152, 2, none⟩ = some (.int .i64 a0_2) := (blk_cell BK152.out 2).trans rfl
                            have hcz33_3 : w30.cell? ⟨gb152, 3, none⟩ = some (.int .i64 a0_3) := (blk_cell BK152.out 3).trans rfl
                            have hcz33_4 : w30.cell? ⟨gb152, 4, none⟩ = some (.bool a0_4) := (blk_cell BK152.out 4).trans rfl
                            have hcz33_5 : w30.cell? ⟨gb152, 5, none⟩ = some (.slice A0_5 l0_5.length c0_5) := (blk_cell BK152.out 5).trans rfl
                            have hfz33_0 := blk_frozen BK152.out 0
                            have hfz33_1 := blk_frozen BK152.out 1
                            have hfz33_2 := blk_frozen BK152.out 2
                            have hfz33_3 := blk_frozen BK152.out 3
                            have hfz33_4 := blk_frozen BK152.out 4
                            have hfz33_5 := blk_frozen BK152.out 5
                            go_upto_if 31 with (fail)
                            go_cut [3] (fun v3 wc => ∃ (kq : Nat) (x3_20 : ByteArray), v3 = .string x3_20 ∧ Aside0 (spec_ReqText.j1 kq x3_20 a0_0 a0_1 a0_2 a0_3 a0_4 l0_5 = some r) ∧ Aside0 (kq ≤ kj3) ∧ Aside0 (wc.heap[gb152]? = some (.cells #[.bool a0_0, .int .i64 a0_1, .int .i64 a0_2, .int .i64 a0_3, .bool a0_4, (.slice A0_5 l0_5.length c0_5)] 29 (0, 0))) ∧ Aside0 (Below w.heap.size w wc))
                            case first =>
                              have H := HC21.out
                              clear HC21
                              by_cases c34 : a0_4 = true
                              · subst c34
                                have H1 : (if ((((((x3_3 ++ (⟨#[32]⟩ : ByteArray)) ++ (rdOf ByteArray.empty y154 a0_2)) ++ (⟨#[32]⟩ : ByteArray)) ++ (rdOf ByteArray.empty y158 a0_3)) ++ (⟨#[32]⟩ : ByteArray)) ++ t162).size + 5 ≤ 9223372036854775807 then (spec_ReqText.j1 kj3 (((((((x3_3 ++ (⟨#[32]⟩ : ByteArray)) ++ (rdOf ByteArray.empty y154 a0_2)) ++ (⟨#[32]⟩ : ByteArray)) ++ (rdOf ByteArray.empty y158 a0_3)) ++ (⟨#[32]⟩ : ByteArray)) ++ t162) ++ (⟨#[32, 108, 111, 99, 107]⟩ : ByteArray)) a0_0 a0_1 a0_2 a0_3 true l0_5) else (none)) = some r := by rw [if_pos rfl] at H; exact H
                                clear H
                                have H := H1
                                clear H1
                                by_cases c35 : ((((((x3_3 ++ (⟨#[32]⟩ : ByteArray)) ++ (rdOf ByteArray.empty y154 a0_2)) ++ (⟨#[32]⟩ : ByteArray)) ++ (rdOf ByteArray.empty y158 a0_3)) ++ (⟨#[32]⟩ : ByteArray)) ++ t162).size + 5 ≤ 9223372036854775807
                                · rw [if_pos c35] at H
                                  have c35b0 := eq_true c35
                                  have c35s0 : x3_3.size + 1 + (rdOf ByteArray.empty y154 a0_2).size + 1 + (rdOf ByteArray.empty y158 a0_3).size + 1 + t162.size + 5 ≤ 9223372036854775807 := by have h_ := c35; simp only [ByteArray.size_append, show (⟨#[32]⟩ : ByteArray).size = 1 from rfl, show (⟨#[32, 108, 111, 99, 107]⟩ : ByteArray).size = 5 from rfl] at h_; omega
                                  have c35s2 : (9223372036854775807 < x3_3.size + 1 + (rdOf ByteArray.empty y154 a0_2).size + 1 + (rdOf ByteArray.empty y158 a0_3).size + 1 + t162.size + 5) = False := eq_false (Nat.not_lt.2 c35s0)
                                  have c35s3 : x3_3.size + 1 + (rdOf ByteArray.empty y154 a0_2).size + 1 + (rdOf ByteArray.empty y158 a0_3).size + 1 + t162.size ≤ 9223372036854775802 := by have h_ := c35s0; omega
                                  have c35s4 : (9223372036854775802 < x3_3.size + 1 + (rdOf ByteArray.empty y154 a0_2).size + 1 + (rdOf ByteArray.empty y158 a0_3).size + 1 + t162.size) = False := eq_false (Nat.not_lt.2 c35s3)
                                  have c35b1 : decide (((((((x3_3 ++ (⟨#[32]⟩ : ByteArray)) ++ (rdOf ByteArray.empty y154 a0_2)) ++ (⟨#[32]⟩ : ByteArray)) ++ (rdOf ByteArray.empty y158 a0_3)) ++ (⟨#[32]⟩ : ByteArray)) ++ t162).size + 5 ≤ 9223372036854775807) = true := decide_eq_true c35
                                  try have c35b2 : (9223372036854775807 < ((((((x3_3 ++ (⟨#[32]⟩ : ByteArray)) ++ (rdOf ByteArray.empty y154 a0_2)) ++ (⟨#[32]⟩ : ByteArray)) ++ (rdOf ByteArray.empty y158 a0_3)) ++ (⟨#[32]⟩ : ByteArray)) ++ t162).size + 5) = False := eq_false (Nat.not_lt.2 c35)
                                  have H' := Aside0.mk H
                                  clear H
                                  go_wp2
                                  go_meet
                                  case rel => exact ⟨_, (((((((x3_3 ++ (⟨#[32]⟩ : ByteArray)) ++ (rdOf ByteArray.empty y154 a0_2)) ++ (⟨#[32]⟩ : ByteArray)) ++ (rdOf ByteArray.empty y158 a0_3)) ++ (⟨#[32]⟩ : ByteArray)) ++ t162) ++ (⟨#[32, 108, 111, 99, 107]⟩ : ByteArray)), (by first | rfl | (simp; done) | (simp [*]; done)), H', ⟨by have := HJ3.out; first | omega | exact Nat.le_refl _⟩, ⟨by (with_reducible repeat (first | refine blk_drewN ?_ _ | refine blk_drew ?_ | refine blk_alloc ?_ _)); exact BK152.out⟩, ⟨by repeat (first | (with_reducible first | exact HB.out | apply below_alloc | apply pw_below_drewN | apply below_drew1 | refine below_set ?_ GE152.out) | exact HB.out)⟩⟩
                                · rw [if_neg c35] at H
                                  exact absurd H (by simp)
                              · replace c34 := Bool.eq_false_iff.mpr c34
                                subst c34
                                have H1 : (spec_ReqText.j1 kj3 ((((((x3_3 ++ (⟨#[32]⟩ : ByteArray)) ++ (rdOf ByteArray.empty y154 a0_2)) ++ (⟨#[32]⟩ : ByteArray)) ++ (rdOf ByteArray.empty y158 a0_3)) ++ (⟨#[32]⟩ : ByteArray)) ++ t162) a0_0 a0_1 a0_2 a0_3 false l0_5) = some r := by rw [if_neg (show ¬ (false = true) by decide)] at H; exact H
                                clear H
                                have H := H1
                                clear H1
                                have H' := Aside0.mk H
                                clear H
                                go_wp2
                                go_meet
                                case rel => exact ⟨_, ((((((x3_3 ++ (⟨#[32]⟩ : ByteArray)) ++ (rdOf ByteArray.empty y154 a0_2)) ++ (⟨#[32]⟩ : ByteArray)) ++ (rdOf ByteArray.empty y158 a0_3)) ++ (⟨#[32]⟩ : ByteArray)) ++ t162), (by first | rfl | (simp; done) | (simp [*]; done)), H', ⟨by have := HJ3.out; first | omega | exact Nat.le_refl _⟩, ⟨by (with_reducible repeat (first | refine blk_drewN ?_ _ | refine blk_drew ?_ | refine blk_alloc ?_ _)); exact BK152.out⟩, ⟨by repeat (first | (with_reducible first | exact HB.out | apply below_alloc | apply pw_below_drewN | apply below_drew1 | refine below_set ?_ GE152.out) | exact HB.out)⟩⟩
                            case rest =>
                              clear HC21
                              try clear c1
                              try clear qi1
                              try clear c2
                              try clear p2
                              try clear c3
                              try clear c4
                              try clear c5
                              try clear c8
                              try clear c9
                              try clear c10
                              try clear c10b0
                              try clear c10b1
                              try clear c10b2
                              try clear c11
                              try clear c11b0
                              try clear c12
                              try clear c12b0
                              try clear c13
                              try clear c13b0
                              try clear c13b1
                              try clear c13b2
                              try clear c14
                              try clear c14b0
                              try clear c14b1
                              try clear c14b2
                              try clear c15
                              try clear c15b0
                              try clear qi15
                              try clear c16
                              try clear c16b0
                              try clear qi16
                              try clear c17
                              try clear c17b0
                              try clear c17b1
                              try clear c17b2
                              try clear c18
                              try clear c18b0
                              try clear c18b1
                              try clear c18b2
                              try clear c20
                              try clear c20b0
                              try clear c20b1
                              try clear c20b2
                              try clear c34
                              try clear c35
                              try clear c35b0
                              try clear c35b1
                              try clear c35b2
                              try clear hcz33_0
                              try clear hcz33_1
                              try clear hcz33_2
                              try clear hcz33_3
                              try clear hcz33_4
                              try clear hcz33_5
                              try clear hcz6_0
                              try clear hcz6_1
                              try clear hcz6_2
                              try clear hcz6_3
                              try clear hcz6_4
                              try clear hcz6_5
                              try clear hcz8_0
                              try clear hcz8_1
                              try clear hcz8_2
                              try clear hcz8_3
                              try clear hcz8_4
                              try clear hcz8_5
                              try clear hfz33_0
                              try clear hfz33_1
                              try clear hfz33_2
                              try clear hfz33_3
                              try clear hfz33_4
                              try clear hfz33_5
                              try clear hfz6_0
                              try clear hfz6_1
                              try clear hfz6_2
                              try clear hfz6_3
                              try clear hfz6_4
                              try clear hfz6_5
                              try clear hfz8_0
                              try clear hfz8_1
                              try clear hfz8_2
                              try clear hfz8_3
                              try clear hfz8_4
                              try clear hfz8_5
                              try clear p2
                              obtain ⟨kq, x3_20, rfl, HA, HJ20, BK152, HB⟩ := hcut
                              cases kq with
                              | zero => exact absurd HA.out (by simp [spec_ReqText.j1])
                              | succ kj20 =>
                                have H := HA.out
                                clear HA
                                simp only [spec_ReqText.j1] at H
                                have H' := Aside0.mk H
                                clear H
                                go_wp2
                                go_loopg [3, 4] kj20 (fun kq v3 v4 w' => ∃ (x3_3 : ByteArray) (x4_3 : Int), v3 = .string x3_3 ∧ v4 = .int .i64 x4_3 ∧ Aside0 (spec_ReqText.l0 kq x3_3 x4_3 a0_0 a0_1 a0_2 a0_3 a0_4 l0_5 = some r) ∧ Aside0 (kq ≤ kj20) ∧ Aside0 (w'.heap[gb152]? = some (.cells #[.bool a0_0, .int .i64 a0_1, .int .i64 a0_2, .int .i64 a0_3, .bool a0_4, (.slice A0_5 l0_5.length c0_5)] 29 (0, 0))) ∧ Aside0 (Below w.heap.size w w'))
                                case atStart => exact ⟨(x3_20), (0), (by first | rfl | (simp; done) | (simp [*]; done)), (by first | rfl | (simp; done) | (simp [*]; done)), H', ⟨Nat.le_refl _⟩, ⟨by (with_reducible repeat (first | refine blk_drewN ?_ _ | refine blk_drew ?_ | refine blk_alloc ?_ _)); exact BK152.out⟩, ⟨by repeat (first | (with_reducible first | exact HB.out | apply below_alloc | apply pw_below_drewN | apply below_drew1 | refine below_set ?_ GE152.out) | exact HB.out)⟩⟩
                                case round =>
                                  clear H'
                                  try clear c1
                                  try clear qi1
                                  try clear c2
                                  try clear p2
                                  try clear c3
                                  try clear c4
                                  try clear c5
                                  try clear c8
                                  try clear c9
                                  try clear c10
                                  try clear c10b0
                                  try clear c10b1
                                  try clear c10b2
                                  try clear c11
                                  try clear c11b0
                                  try clear c12
                                  try clear c12b0
                                  try clear c13
                                  try clear c13b0
                                  try clear c13b1
                                  try clear c13b2
                                  try clear c14
                                  try clear c14b0
                                  try clear c14b1
                                  try clear c14b2
                                  try clear c15
                                  try clear c15b0
                                  try clear qi15
                                  try clear c16
                                  try clear c16b0
                                  try clear qi16
                                  try clear c17
                                  try clear c17b0
                                  try clear c17b1
                                  try clear c17b2
                                  try clear c18
                                  try clear c18b0
                                  try clear c18b1
                                  try clear c18b2
                                  try clear c20
                                  try clear c20b0
                                  try clear c20b1
                                  try clear c20b2
                                  try clear c34
                                  try clear c35
                                  try clear c35b0
                                  try clear c35b1
                                  try clear c35b2
                                  try clear hcz33_0
                                  try clear hcz33_1
                                  try clear hcz33_2
                                  try clear hcz33_3
                                  try clear hcz33_4
                                  try clear hcz33_5
                                  try clear hcz6_0
                                  try clear hcz6_1
                                  try clear hcz6_2
                                  try clear hcz6_3
                                  try clear hcz6_4
                                  try clear hcz6_5
                                  try clear hcz8_0
                                  try clear hcz8_1
                                  try clear hcz8_2
                                  try clear hcz8_3
                                  try clear hcz8_4
                                  try clear hcz8_5
                                  try clear hfz33_0
                                  try clear hfz33_1
                                  try clear hfz33_2
                                  try clear hfz33_3
                                  try clear hfz33_4
                                  try clear hfz33_5
                                  try clear hfz6_0
                                  try clear hfz6_1
                                  try clear hfz6_2
                                  try clear hfz6_3
                                  try clear hfz6_4
                                  try clear hfz6_5
                                  try clear hfz8_0
                                  try clear hfz8_1
                                  try clear hfz8_2
                                  try clear hfz8_3
                                  try clear hfz8_4
                                  try clear hfz8_5
                                  try clear p2
                                  obtain ⟨x3_3, x4_3, rfl, rfl, HA, HK3, BK152, HB⟩ := hrel
                                  cases gk with
                                  | zero => exact absurd HA.out (by simp [spec_ReqText.l0])
                                  | succ k3 =>
                                    have H := HA.out
                                    clear HA
                                    simp only [spec_ReqText.l0] at H
                                    by_cases c36 : x4_3 < (l0_5.length : Int)
                                    · rw [if_pos c36] at H
                                      have c36b0 : decide (x4_3 < (l0_5.length : Int)) = true := decide_eq_true c36
                                      clear c36
                                      by_cases c37 : x3_3.size + 1 ≤ 9223372036854775807
                                      · rw [if_pos c37] at H
                                        have c37b0 := eq_true c37
                                        have c37b1 : decide (x3_3.size + 1 ≤ 9223372036854775807) = true := decide_eq_true c37
                                        try have c37b2 : (9223372036854775807 < x3_3.size + 1) = False := eq_false (Nat.not_lt.2 c37)
                                        by_cases c38 : 0 ≤ x4_3
                                        · rw [if_pos c38] at H
                                          have c38b0 : decide (0 ≤ x4_3) = true := decide_eq_true c38
                                          clear c38
                                          replace H := Option.bind_eq_some_iff.mp H
                                          obtain ⟨t164, A390, H⟩ := H
                                          replace H : (if (x3_3 ++ (⟨#[32]⟩ : ByteArray)).size + t164.size ≤ 9223372036854775807 then (spec_ReqText.l0 k3 ((x3_3 ++ (⟨#[32]⟩ : ByteArray)) ++ t164) (wrap64 (x4_3 + 1)) a0_0 a0_1 a0_2 a0_3 a0_4 l0_5) else (none)) = some r := H
                                          have A39 := Aside0.mk A390
                                          clear A390
                                          by_cases c40 : (x3_3 ++ (⟨#[32]⟩ : ByteArray)).size + t164.size ≤ 9223372036854775807
                                          · rw [if_pos c40] at H
                                            have c40b0 := eq_true c40
                                            have c40s0 : x3_3.size + 1 + t164.size ≤ 9223372036854775807 := by have h_ := c40; simp only [ByteArray.size_append, show (⟨#[32]⟩ : ByteArray).size = 1 from rfl, show (⟨#[32, 108, 111, 99, 107]⟩ : ByteArray).size = 5 from rfl] at h_; omega
                                            have c40s2 : (9223372036854775807 < x3_3.size + 1 + t164.size) = False := eq_false (Nat.not_lt.2 c40s0)
                                            have c40b1 : decide ((x3_3 ++ (⟨#[32]⟩ : ByteArray)).size + t164.size ≤ 9223372036854775807) = true := decide_eq_true c40
                                            try have c40b2 : (9223372036854775807 < (x3_3 ++ (⟨#[32]⟩ : ByteArray)).size + t164.size) = False := eq_false (Nat.not_lt.2 c40)
                                            have H' := Aside0.mk H
                                            clear H
                                            have hcz41_0 : wr.cell? ⟨gb152, 0, none⟩ = some (.bool a0_0) := (blk_cell BK152.out 0).trans rfl
                                            have hcz41_1 : wr.cell? ⟨gb152, 1, none⟩ = some (.int .i64 a0_1) := (blk_cell BK152.out 1).trans rfl
                                            have hcz41_2 : wr.cell? ⟨gb152, 2, none⟩ = some (.int .i64 a0_2) := (blk_cell BK152.out 2).trans rfl
                                            have hcz41_3 : wr.cell? ⟨gb152, 3, none⟩ = some (.int .i64 a0_3) := (blk_cell BK152.out 3).trans rfl
                                            have hcz41_4 : wr.cell? ⟨gb152, 4, none⟩ = some (.bool a0_4) := (blk_cell BK152.out 4).trans rfl
                                            have hcz41_5 : wr.cell? ⟨gb152, 5, none⟩ = some (.slice A0_5 l0_5.length c0_5) := (blk_cell BK152.out 5).trans rfl
                                            have hfz41_0 := blk_frozen BK152.out 0
                                            have hfz41_1 := blk_frozen BK152.out 1
                                            have hfz41_2 := blk_frozen BK152.out 2
                                            have hfz41_3 := blk_frozen BK152.out 3
                                            have hfz41_4 := blk_frozen BK152.out 4
                                            have hfz41_5 := blk_frozen BK152.out 5
                                            have p163 : 0 ≤ (x4_3 : Int) := of_decide_eq_true (by first | (with_reducible assumption) | assumption)
                                            have q163 : x4_3 < (l0_5.length : Int) := of_decide_eq_true (by first | (with_reducible assumption) | assumption)
                                            obtain ⟨ad163, e163, hx163_0⟩ := Kd.at_int HR0_5.out x4_3 p163 q163
                                            cases e163
                                            replace hx163_0 := (HB.out.cell (World.block_lt_of_cell? w _ hx163_0)).trans hx163_0
                                            replace p163 := eq_true p163
                                            replace q163 := eq_true q163
                                            go_wp2_with (first | ((with_reducible refine gate_callee (f := 5) rfl ?_); refine goesL_ (some 48) rfl rfl Tryd.func5 (by kernel_rfl) rfl #[.int .i64 (rd l0_5 x4_3)] rfl (by (try simp only [List.map_toArray, List.map_cons, List.map_nil]); first | done | rfl | (simp only [List.length_drop, List.length_take]; rfl)) ?_; (with_reducible refine (spec_Dec.calls k3 (rd l0_5 x4_3) t164 _ A39.out).mono ?_); rintro e w42 ⟨rfl, hb⟩; refine ⟨_, rfl, ?_⟩; have n0_ := Aside0.mk (blk_below (g := gb152) (o := .cells #[.bool a0_0, .int .i64 a0_1, .int .i64 a0_2, .int .i64 a0_3, .bool a0_4, .slice (some ad163) l0_5.length c0_5] 29 (0, 0)) (by (with_reducible repeat (first | refine blk_drewN ?_ _ | refine blk_drew ?_ | refine blk_alloc ?_ _)); exact BK152.out) hb); have n1_ := Aside0.mk (below_step (by repeat (first | (with_reducible first | exact HB.out | apply below_alloc | apply pw_below_drewN | apply below_drew1 | refine below_set ?_ GE152.out) | exact HB.out)) hb); clear BK152; clear HB; have BK152 := n0_; have HB := n1_; clear n0_ n1_; (try clear hb); (try clear hb2); (try clear hk); (try clear hi)))
                                            go_roundg k3
                                            case measure => have := HJ3.out; have := HJ20.out; have := HK3.out; omega
                                            case rel => exact ⟨((x3_3 ++ (⟨#[32]⟩ : ByteArray)) ++ t164), (wrap64 (x4_3 + 1)), (by first | rfl | (simp; done) | (simp [*]; done)), (by first | rfl | (simp; done) | (simp [*]; done)), H', ⟨by have := HJ3.out; have := HJ20.out; have := HK3.out; omega⟩, ⟨by (with_reducible repeat (first | refine blk_drewN ?_ _ | refine blk_drew ?_ | refine blk_alloc ?_ _)); exact BK152.out⟩, ⟨by repeat (first | (with_reducible first | exact HB.out | apply below_alloc | apply pw_below_drewN | apply below_drew1 | refine below_set ?_ GE152.out) | exact HB.out)⟩⟩
                                          · rw [if_neg c40] at H
                                            exact absurd H (by simp)
                                        · rw [if_neg c38] at H
                                          exact absurd H (by simp)
                                      · rw [if_neg c37] at H
                                        exact absurd H (by simp)
                                    · rw [if_neg c36] at H
                                      have c36b0 : decide (x4_3 < (l0_5.length : Int)) = false := decide_eq_false c36
                                      clear c36
                                      obtain rfl := Option.some.inj H
                                      have hcz43_0 : wr.cell? ⟨gb152, 0, none⟩ = some (.bool a0_0) := (blk_cell BK152.out 0).trans rfl
                                      have hcz43_1 : wr.cell? ⟨gb152, 1, none⟩ = some (.int .i64 a0_1) := (blk_cell BK152.out 1).trans rfl
                                      have hcz43_2 : wr.cell? ⟨gb152, 2, none⟩ = some (.int .i64 a0_2) := (blk_cell BK152.out 2).trans rfl
                                      have hcz43_3 : wr.cell? ⟨gb152, 3, none⟩ = some (.int .i64 a0_3) := (blk_cell BK152.out 3).trans rfl
                                      have hcz43_4 : wr.cell? ⟨gb152, 4, none⟩ = some (.bool a0_4) := (blk_cell BK152.out 4).trans rfl
                                      have hcz43_5 : wr.cell? ⟨gb152, 5, none⟩ = some (.slice A0_5 l0_5.length c0_5) := (blk_cell BK152.out 5).trans rfl
                                      have hfz43_0 := blk_frozen BK152.out 0
                                      have hfz43_1 := blk_frozen BK152.out 1
                                      have hfz43_2 := blk_frozen BK152.out 2
                                      have hfz43_3 := blk_frozen BK152.out 3
                                      have hfz43_4 := blk_frozen BK152.out 4
                                      have hfz43_5 := blk_frozen BK152.out 5
                                      go_wp2
                                      go_ret
                                      exact ⟨by first | rfl | (simp [errW_none, errW_some] <;> rfl) | (simp [*, errW_none, errW_some] <;> rfl), by repeat (first | (with_reducible first | exact HB.out | apply below_alloc | apply pw_below_drewN | apply below_drew1 | refine below_set ?_ GE152.out) | exact HB.out)⟩
                          · rw [if_neg c20] at H
                            exact absurd H (by simp)
                        · rw [if_neg c18] at H
                          exact absurd H (by simp)
                      · rw [if_neg c17] at H
                        exact absurd H (by simp)
                    · rw [if_neg c16] at H
                      exact absurd H (by simp)
                  · rw [if_neg c15] at H
                    exact absurd H (by simp)
                · rw [if_neg c14] at H
                  exact absurd H (by simp)
              · rw [if_neg c13] at H
                exact absurd H (by simp)
            · rw [if_neg c12] at H
              exact absurd H (by simp)
          · rw [if_neg c11] at H
            exact absurd H (by simp)
        · rw [if_neg c10] at H
          exact absurd H (by simp)
  · replace c3 := Bool.eq_false_iff.mpr c3
    subst c3
    have H1 : (some (⟨#[]⟩ : ByteArray)) = some r := by rw [if_neg (show ¬ (false = true) by decide)] at H; exact H
    clear H
    have H := H1
    clear H1
    obtain rfl := Option.some.inj H
    go_enter Tryd.func8, Tryd.ntmps8
    go_wp2_with (first | ((with_reducible refine gate_dst (N := 1) rfl ?_); refine box_event ?hg (N := 1) ?hd (cs := #[.bool a0_0, .int .i64 a0_1, .int .i64 a0_2, .int .i64 a0_3, .bool a0_4, .slice A0_5 l0_5.length c0_5]) (t := 29) ?hr ?_; (case hd => rfl); (case hg => rfl); (case hr => first | (go_simp; done) | (go_simp; rfl)); intro gb152 hg w44 hbox hb; have n0_ := Aside0.mk (below_step (by repeat (first | (with_reducible first | exact HB.out | apply below_alloc | apply pw_below_drewN | apply below_drew1) | exact HB.out)) hb); have n1_ := Aside0.mk (hbox); have n2_ := Aside0.mk ((by rw [hg]; exact (below_size (by repeat (first | (with_reducible first | exact HB.out | apply below_alloc | apply pw_below_drewN | apply below_drew1) | exact HB.out))) : w.heap.size ≤ gb152)); have n3_ := Aside0.mk ((by rw [hg]; exact (below_size (by repeat (first | (with_reducible first | exact HB.out | apply below_alloc | apply pw_below_drewN | apply below_drew1) | exact HB.out))) : w.heap.size ≤ gb152)); clear HB; have HB := n0_; have BK152 := n1_; have GW152 := n2_; have GE152 := n3_; clear n0_ n1_ n2_ n3_; clear hb hbox hg; have hcz45_0 : w44.cell? ⟨gb152, 0, none⟩ = some (.bool a0_0) := (blk_cell BK152.out 0).trans rfl; have hcz45_1 : w44.cell? ⟨gb152, 1, none⟩ = some (.int .i64 a0_1) := (blk_cell BK152.out 1).trans rfl; have hcz45_2 : w44.cell? ⟨gb152, 2, none⟩ = some (.int .i64 a0_2) := (blk_cell BK152.out 2).trans rfl; have hcz45_3 : w44.cell? ⟨gb152, 3, none⟩ = some (.int .i64 a0_3) := (blk_cell BK152.out 3).trans rfl; have hcz45_4 : w44.cell? ⟨gb152, 4, none⟩ = some (.bool a0_4) := (blk_cell BK152.out 4).trans rfl; have hcz45_5 : w44.cell? ⟨gb152, 5, none⟩ = some (.slice A0_5 l0_5.length c0_5) := (blk_cell BK152.out 5).trans rfl; have hfz45_0 := blk_frozen BK152.out 0; have hfz45_1 := blk_frozen BK152.out 1; have hfz45_2 := blk_frozen BK152.out 2; have hfz45_3 := blk_frozen BK152.out 3; have hfz45_4 := blk_frozen BK152.out 4; have hfz45_5 := blk_frozen BK152.out 5) | ((with_reducible refine gate_callee (f := 14) rfl ?_); refine goesL_ (some 6) rfl rfl Tryd.func14 (by kernel_rfl) rfl #[.agg #[.bool a0_0, .int .i64 a0_1, .int .i64 a0_2, .int .i64 a0_3, .bool a0_4, .slice A0_5 l0_5.length c0_5]] rfl (by (try simp only [List.map_toArray, List.map_cons, List.map_nil]); first | done | rfl | (simp only [List.length_drop, List.length_take]; rfl)) ?_; (with_reducible refine (spec_ReqOk.calls k a0_0 a0_1 a0_2 a0_3 a0_4 _ _ l0_5 false _ ?side1 ?side2 A2.out).mono ?_); (case side1 => repeat (first | exact (Kd.C_below HR0_5.out HB.out) | (with_reducible refine Kd.C_alloc ?_ _) | (with_reducible refine Kd.C_drewN ?_ _) | (with_reducible refine Kd.C_drew ?_))); (case side2 => exact HC0_5.out); rintro e w46 ⟨rfl, hb⟩; refine ⟨_, rfl, ?_⟩; have n0_ := Aside0.mk (blk_below (g := gb152) (o := .cells #[.bool a0_0, .int .i64 a0_1, .int .i64 a0_2, .int .i64 a0_3, .bool a0_4, .slice A0_5 l0_5.length c0_5] 29 (0, 0)) (by (with_reducible repeat (first | refine blk_drewN ?_ _ | refine blk_drew ?_ | refine blk_alloc ?_ _)); exact BK152.out) hb); have n1_ := Aside0.mk (below_step (by repeat (first | (with_reducible first | exact HB.out | apply below_alloc | apply pw_below_drewN | apply below_drew1 | refine below_set ?_ GE152.out) | exact HB.out)) hb); clear BK152; clear HB; have BK152 := n0_; have HB := n1_; clear n0_ n1_; (try clear hb); (try clear hb2); (try clear hk); (try clear hi)))
    go_ret
    exact ⟨by first | rfl | (simp [errW_none, errW_some] <;> rfl) | (simp [*, errW_none, errW_some] <;> rfl), by repeat (first | (with_reducible first | exact HB.out | apply below_alloc | apply pw_below_drewN | apply below_drew1 | refine below_set ?_ GE152.out) | exact HB.out)⟩

end Go.Proofs.YteibpjckmiifpaaDoor.MFnExactReqText
