-- Written for this claim by a program of the session (wip/mk.py) over the kit's print.
import Derived.Test.YthikbgjlcdkoaaaMFnDevicesx0
import Derived.Test.YthikbgjlcdkoaaaMFnDevicesx1
import Derived.Test.YthikbgjlcdkoaaaMFnDevicesx2
import Derived.Test.YthikbgjlcdkoaaaMFnDevicesx6
namespace Go.Proofs.Ythikbgjlcdkoaaa.MFnDevices
open Go.RowKit Go.Proofs.YthikbgjlcdkoaaaW.PrintWords Go.Proofs.YthikbgjlcdkoaaaW.PrintLast Go.Proofs.YthikbgjlcdkoaaaW.PrintMore
attribute [local go_sem] max2_int min2_int max_two min_two max_three min_three max_four min_four   -- for this text's walks alone
set_option linter.unusedVariables false
set_option linter.unusedSimpArgs false

/-! ### impl_DevDo: function 41 -/
mutual
def impl_DevDo.j0 : Nat → Bool → Int → Int → Bool → List Int → Int → List Int → List Int → Int → List Int → Option (List Int × Int × List Int × Int × Bool)
  | 0, _, _, _, _, _, _, _, _, _, _ => none
  | k + 1, x1, x2, x3, x24, x315000, x315001, x315002, x324000, x324001, x324002 => if x24 = true then (some (x324000, x324001, x324002, 0, false)) else (if x2 = 16 then (impl_DevDo.j1 k x1 x2 x3 x1 x315000 x315001 x315002 x324000 x324001 x324002) else (impl_DevDo.j1 k x1 x2 x3 false x315000 x315001 x315002 x324000 x324001 x324002))
def impl_DevDo.j1 : Nat → Bool → Int → Int → Bool → List Int → Int → List Int → List Int → Int → List Int → Option (List Int × Int × List Int × Int × Bool)
  | 0, _, _, _, _, _, _, _, _, _, _ => none
  | k + 1, x1, x2, x3, x32, x315000, x315001, x315002, x324000, x324001, x324002 => if x32 = true then (some (x324000, x3, x324002, x3, true)) else (if x2 = 16 then ((impl_LimitOf.f 2).bind fun t326 => (if t326 = 0 then (none) else (some (x324000, Int.tmod (wrap64 (x315001 + 1)) t326, x324002, x315001, true)))) else (if x2 = 20 then (if x1 = true then (impl_DevDo.j2 k x1 x2 x3 (decide ((x315002.length : Int) < 4)) x315000 x315001 x315002 x324000 x324001 x324002) else (impl_DevDo.j2 k x1 x2 x3 false x315000 x315001 x315002 x324000 x324001 x324002)) else (impl_DevDo.j2 k x1 x2 x3 false x315000 x315001 x315002 x324000 x324001 x324002)))
def impl_DevDo.j2 : Nat → Bool → Int → Int → Bool → List Int → Int → List Int → List Int → Int → List Int → Option (List Int × Int × List Int × Int × Bool)
  | 0, _, _, _, _, _, _, _, _, _, _ => none
  | k + 1, x1, x2, x3, x51, x315000, x315001, x315002, x324000, x324001, x324002 => if x51 = true then (if x324002.length < 17592186044416 then (some (x324000, x324001, (x324002 ++ [x3]), x3, true)) else (none)) else (if x2 = 20 then (if x1 = true then (impl_DevDo.j3 k x1 x2 x3 false x315000 x315001 x315002 x324000 x324001 x324002) else (impl_DevDo.j3 k x1 x2 x3 (decide ((x315002.length : Int) > 0)) x315000 x315001 x315002 x324000 x324001 x324002)) else (impl_DevDo.j3 k x1 x2 x3 false x315000 x315001 x315002 x324000 x324001 x324002))
def impl_DevDo.j3 : Nat → Bool → Int → Int → Bool → List Int → Int → List Int → List Int → Int → List Int → Option (List Int × Int × List Int × Int × Bool)
  | 0, _, _, _, _, _, _, _, _, _, _ => none
  | k + 1, x1, x2, x3, x69, x315000, x315001, x315002, x324000, x324001, x324002 => if x69 = true then (if 0 < (x315002.length : Int) then (if 1 ≤ (x315002.length : Int) then ((slices_Clone_int_int.f (x315002.drop 1)).bind fun t332 => (some (x324000, x324001, t332, rd x315002 0, true))) else (none)) else (none)) else (if x2 ≥ 16 then (impl_DevDo.j4 k x1 x2 x3 true x315000 x315001 x315002 x324000 x324001 x324002) else (if x2 < 0 then (impl_DevDo.j4 k x1 x2 x3 true x315000 x315001 x315002 x324000 x324001 x324002) else (impl_DevDo.j4 k x1 x2 x3 ((Int.tmod x2 4) != 0) x315000 x315001 x315002 x324000 x324001 x324002)))
def impl_DevDo.j4 : Nat → Bool → Int → Int → Bool → List Int → Int → List Int → List Int → Int → List Int → Option (List Int × Int × List Int × Int × Bool)
  | 0, _, _, _, _, _, _, _, _, _, _ => none
  | k + 1, x1, x2, x3, x91, x315000, x315001, x315002, x324000, x324001, x324002 => if x91 = true then (some (x324000, x324001, x324002, 0, false)) else (if x1 = true then (if 0 ≤ (wrap64 (Int.tdiv x2 4)) then (if (wrap64 (Int.tdiv x2 4)) < (x324000.length : Int) then (some ((x324000.set ((wrap64 (Int.tdiv x2 4)) : Int).toNat x3), x324001, x324002, x3, true)) else (none)) else (none)) else (if 0 ≤ (wrap64 (Int.tdiv x2 4)) then (if (wrap64 (Int.tdiv x2 4)) < (x315000.length : Int) then (some (x324000, x324001, x324002, rd x315000 (wrap64 (Int.tdiv x2 4)), true)) else (none)) else (none)))
end
def impl_DevDo.f (k : Nat) (l0_0 : List Int) (a0_1 : Int) (l0_2 : List Int) (a1 : Bool) (a2 : Int) (a3 : Int) : Option (List Int × Int × List Int × Int × Bool) := (impl_ownDev.f l0_0 a0_1 l0_2).bind fun bt316 => ((impl_DevOk.f k l0_0 a0_1 l0_2).bind fun t324 => (if t324 = true then (if a1 = true then ((impl_isNum.f a3 2).bind fun t325 => (impl_DevDo.j0 k a1 a2 a3 (!t325) l0_0 a0_1 l0_2 bt316.1 bt316.2.1 bt316.2.2)) else (impl_DevDo.j0 k a1 a2 a3 false l0_0 a0_1 l0_2 bt316.1 bt316.2.1 bt316.2.2)) else (impl_DevDo.j0 k a1 a2 a3 true l0_0 a0_1 l0_2 bt316.1 bt316.2.1 bt316.2.2)))
theorem impl_DevDo.mono_l : ∀ k, (∀ y0 y1 y2 y3 y4 y5 y6 y7 y8 y9, LeO (impl_DevDo.j0 k y0 y1 y2 y3 y4 y5 y6 y7 y8 y9) (impl_DevDo.j0 (k + 1) y0 y1 y2 y3 y4 y5 y6 y7 y8 y9)) ∧ (∀ y0 y1 y2 y3 y4 y5 y6 y7 y8 y9, LeO (impl_DevDo.j1 k y0 y1 y2 y3 y4 y5 y6 y7 y8 y9) (impl_DevDo.j1 (k + 1) y0 y1 y2 y3 y4 y5 y6 y7 y8 y9)) ∧ (∀ y0 y1 y2 y3 y4 y5 y6 y7 y8 y9, LeO (impl_DevDo.j2 k y0 y1 y2 y3 y4 y5 y6 y7 y8 y9) (impl_DevDo.j2 (k + 1) y0 y1 y2 y3 y4 y5 y6 y7 y8 y9)) ∧ (∀ y0 y1 y2 y3 y4 y5 y6 y7 y8 y9, LeO (impl_DevDo.j3 k y0 y1 y2 y3 y4 y5 y6 y7 y8 y9) (impl_DevDo.j3 (k + 1) y0 y1 y2 y3 y4 y5 y6 y7 y8 y9)) ∧ (∀ y0 y1 y2 y3 y4 y5 y6 y7 y8 y9, LeO (impl_DevDo.j4 k y0 y1 y2 y3 y4 y5 y6 y7 y8 y9) (impl_DevDo.j4 (k + 1) y0 y1 y2 y3 y4 y5 y6 y7 y8 y9))
  | 0 => ⟨fun _ _ _ _ _ _ _ _ _ _ r h => by simp [impl_DevDo.j0] at h, fun _ _ _ _ _ _ _ _ _ _ r h => by simp [impl_DevDo.j1] at h, fun _ _ _ _ _ _ _ _ _ _ r h => by simp [impl_DevDo.j2] at h, fun _ _ _ _ _ _ _ _ _ _ r h => by simp [impl_DevDo.j3] at h, fun _ _ _ _ _ _ _ _ _ _ r h => by simp [impl_DevDo.j4] at h⟩
  | k + 1 => by
    obtain ⟨ih0, ih1, ih2, ih3, ih4⟩ := impl_DevDo.mono_l k
    refine ⟨?_, ?_, ?_, ?_, ?_⟩
    · intro y0 y1 y2 y3 y4 y5 y6 y7 y8 y9
      unfold impl_DevDo.j0
      repeat' first
      | (with_reducible exact ih0 _ _ _ _ _ _ _ _ _ _)
      | (with_reducible exact ih1 _ _ _ _ _ _ _ _ _ _)
      | (with_reducible exact ih2 _ _ _ _ _ _ _ _ _ _)
      | (with_reducible exact ih3 _ _ _ _ _ _ _ _ _ _)
      | (with_reducible exact ih4 _ _ _ _ _ _ _ _ _ _)
      | (with_reducible exact impl_DevOk.mono _ _ _ _)
      | (with_reducible exact LeO.refl _)
      | (with_reducible exact LeO.none _)
      | (with_reducible refine LeO.ite ?_ ?_)
      | (with_reducible refine LeO.bind ?_ (fun _ => ?_))
      | exact ih0 _ _ _ _ _ _ _ _ _ _
      | exact ih1 _ _ _ _ _ _ _ _ _ _
      | exact ih2 _ _ _ _ _ _ _ _ _ _
      | exact ih3 _ _ _ _ _ _ _ _ _ _
      | exact ih4 _ _ _ _ _ _ _ _ _ _
      | exact impl_DevOk.mono _ _ _ _
      | exact LeO.none _
      | refine LeO.ite ?_ ?_
      | refine LeO.bind ?_ (fun _ => ?_)
    · intro y0 y1 y2 y3 y4 y5 y6 y7 y8 y9
      unfold impl_DevDo.j1
      repeat' first
      | (with_reducible exact ih0 _ _ _ _ _ _ _ _ _ _)
      | (with_reducible exact ih1 _ _ _ _ _ _ _ _ _ _)
      | (with_reducible exact ih2 _ _ _ _ _ _ _ _ _ _)
      | (with_reducible exact ih3 _ _ _ _ _ _ _ _ _ _)
      | (with_reducible exact ih4 _ _ _ _ _ _ _ _ _ _)
      | (with_reducible exact impl_DevOk.mono _ _ _ _)
      | (with_reducible exact LeO.refl _)
      | (with_reducible exact LeO.none _)
      | (with_reducible refine LeO.ite ?_ ?_)
      | (with_reducible refine LeO.bind ?_ (fun _ => ?_))
      | exact ih0 _ _ _ _ _ _ _ _ _ _
      | exact ih1 _ _ _ _ _ _ _ _ _ _
      | exact ih2 _ _ _ _ _ _ _ _ _ _
      | exact ih3 _ _ _ _ _ _ _ _ _ _
      | exact ih4 _ _ _ _ _ _ _ _ _ _
      | exact impl_DevOk.mono _ _ _ _
      | exact LeO.none _
      | refine LeO.ite ?_ ?_
      | refine LeO.bind ?_ (fun _ => ?_)
    · intro y0 y1 y2 y3 y4 y5 y6 y7 y8 y9
      unfold impl_DevDo.j2
      repeat' first
      | (with_reducible exact ih0 _ _ _ _ _ _ _ _ _ _)
      | (with_reducible exact ih1 _ _ _ _ _ _ _ _ _ _)
      | (with_reducible exact ih2 _ _ _ _ _ _ _ _ _ _)
      | (with_reducible exact ih3 _ _ _ _ _ _ _ _ _ _)
      | (with_reducible exact ih4 _ _ _ _ _ _ _ _ _ _)
      | (with_reducible exact impl_DevOk.mono _ _ _ _)
      | (with_reducible exact LeO.refl _)
      | (with_reducible exact LeO.none _)
      | (with_reducible refine LeO.ite ?_ ?_)
      | (with_reducible refine LeO.bind ?_ (fun _ => ?_))
      | exact ih0 _ _ _ _ _ _ _ _ _ _
      | exact ih1 _ _ _ _ _ _ _ _ _ _
      | exact ih2 _ _ _ _ _ _ _ _ _ _
      | exact ih3 _ _ _ _ _ _ _ _ _ _
      | exact ih4 _ _ _ _ _ _ _ _ _ _
      | exact impl_DevOk.mono _ _ _ _
      | exact LeO.none _
      | refine LeO.ite ?_ ?_
      | refine LeO.bind ?_ (fun _ => ?_)
    · intro y0 y1 y2 y3 y4 y5 y6 y7 y8 y9
      unfold impl_DevDo.j3
      repeat' first
      | (with_reducible exact ih0 _ _ _ _ _ _ _ _ _ _)
      | (with_reducible exact ih1 _ _ _ _ _ _ _ _ _ _)
      | (with_reducible exact ih2 _ _ _ _ _ _ _ _ _ _)
      | (with_reducible exact ih3 _ _ _ _ _ _ _ _ _ _)
      | (with_reducible exact ih4 _ _ _ _ _ _ _ _ _ _)
      | (with_reducible exact impl_DevOk.mono _ _ _ _)
      | (with_reducible exact LeO.refl _)
      | (with_reducible exact LeO.none _)
      | (with_reducible refine LeO.ite ?_ ?_)
      | (with_reducible refine LeO.bind ?_ (fun _ => ?_))
      | exact ih0 _ _ _ _ _ _ _ _ _ _
      | exact ih1 _ _ _ _ _ _ _ _ _ _
      | exact ih2 _ _ _ _ _ _ _ _ _ _
      | exact ih3 _ _ _ _ _ _ _ _ _ _
      | exact ih4 _ _ _ _ _ _ _ _ _ _
      | exact impl_DevOk.mono _ _ _ _
      | exact LeO.none _
      | refine LeO.ite ?_ ?_
      | refine LeO.bind ?_ (fun _ => ?_)
    · intro y0 y1 y2 y3 y4 y5 y6 y7 y8 y9
      unfold impl_DevDo.j4
      repeat' first
      | (with_reducible exact ih0 _ _ _ _ _ _ _ _ _ _)
      | (with_reducible exact ih1 _ _ _ _ _ _ _ _ _ _)
      | (with_reducible exact ih2 _ _ _ _ _ _ _ _ _ _)
      | (with_reducible exact ih3 _ _ _ _ _ _ _ _ _ _)
      | (with_reducible exact ih4 _ _ _ _ _ _ _ _ _ _)
      | (with_reducible exact impl_DevOk.mono _ _ _ _)
      | (with_reducible exact LeO.refl _)
      | (with_reducible exact LeO.none _)
      | (with_reducible refine LeO.ite ?_ ?_)
      | (with_reducible refine LeO.bind ?_ (fun _ => ?_))
      | exact ih0 _ _ _ _ _ _ _ _ _ _
      | exact ih1 _ _ _ _ _ _ _ _ _ _
      | exact ih2 _ _ _ _ _ _ _ _ _ _
      | exact ih3 _ _ _ _ _ _ _ _ _ _
      | exact ih4 _ _ _ _ _ _ _ _ _ _
      | exact impl_DevOk.mono _ _ _ _
      | exact LeO.none _
      | refine LeO.ite ?_ ?_
      | refine LeO.bind ?_ (fun _ => ?_)
theorem impl_DevDo.mono : ∀ a0 a1 a2 a3 a4 a5 k, LeO (impl_DevDo.f k a0 a1 a2 a3 a4 a5) (impl_DevDo.f (k + 1) a0 a1 a2 a3 a4 a5) := by
  intro a0 a1 a2 a3 a4 a5 k
  obtain ⟨ih0, ih1, ih2, ih3, ih4⟩ := impl_DevDo.mono_l k
  unfold impl_DevDo.f
  repeat' first
      | (with_reducible exact ih0 _ _ _ _ _ _ _ _ _ _)
      | (with_reducible exact ih1 _ _ _ _ _ _ _ _ _ _)
      | (with_reducible exact ih2 _ _ _ _ _ _ _ _ _ _)
      | (with_reducible exact ih3 _ _ _ _ _ _ _ _ _ _)
      | (with_reducible exact ih4 _ _ _ _ _ _ _ _ _ _)
      | (with_reducible exact impl_DevOk.mono _ _ _ _)
      | (with_reducible exact LeO.refl _)
      | (with_reducible exact LeO.none _)
      | (with_reducible refine LeO.ite ?_ ?_)
      | (with_reducible refine LeO.bind ?_ (fun _ => ?_))
      | exact ih0 _ _ _ _ _ _ _ _ _ _
      | exact ih1 _ _ _ _ _ _ _ _ _ _
      | exact ih2 _ _ _ _ _ _ _ _ _ _
      | exact ih3 _ _ _ _ _ _ _ _ _ _
      | exact ih4 _ _ _ _ _ _ _ _ _ _
      | exact impl_DevOk.mono _ _ _ _
      | exact LeO.none _
      | refine LeO.ite ?_ ?_
      | refine LeO.bind ?_ (fun _ => ?_)
set_option maxHeartbeats 8000000 in
set_option maxRecDepth 100000 in
theorem impl_DevDo.calls (k : Nat) (A0_0 : Option Addr) (c0_0 : Nat) (l0_0 : List Int) (a0_1 : Int) (A0_2 : Option Addr) (c0_2 : Nat) (l0_2 : List Int) (a1 : Bool) (a2 : Int) (a3 : Int) (r1 : List Int) (r2 : Int) (r3 : List Int) (r4 : Int) (r5 : Bool) (w : World) (hr0_0 : Kd.C (Kd.int .i64) w A0_0 l0_0.length l0_0) (hc0_0 : l0_0.length ≤ c0_0) (hr0_2 : Kd.C (Kd.int .i64) w A0_2 l0_2.length l0_2) (hc0_2 : l0_2.length ≤ c0_2) (h : impl_DevDo.f k l0_0 a0_1 l0_2 a1 a2 a3 = some (r1, r2, r3, r4, r5)) :
    Calls Try.prog 41 #[.agg #[.slice A0_0 l0_0.length c0_0, .int .i64 a0_1, .slice A0_2 l0_2.length c0_2], .bool a1, .int .i64 a2, .int .i64 a3] w fun e w' => ∃ v0_ v2_ : Value, e = .returned (.tuple #[.agg #[v0_, .int .i64 r2, v2_], .int .i64 r4, .bool r5]) ∧ Kd.R (Kd.int .i64) 3 w' w.heap.size (fun k_ => some k_ ≠ (v2_ : Value).ownBlock) v0_ r1 ∧ Kd.R (Kd.int .i64) 3 w' w.heap.size (fun k_ => some k_ ≠ (v0_ : Value).ownBlock) v2_ r3 ∧ Below w.heap.size w w' := by
  have hu26 := Try.underlying26
  have HR0_0 := Aside0.mk hr0_0
  have HC0_0 := Aside0.mk hc0_0
  clear hr0_0 hc0_0
  have HR0_2 := Aside0.mk hr0_2
  have HC0_2 := Aside0.mk hc0_2
  clear hr0_2 hc0_2
  have HB := Aside0.mk (Below.refl w.heap.size w)
  have H : ((impl_ownDev.f l0_0 a0_1 l0_2).bind fun bt316 => ((impl_DevOk.f k l0_0 a0_1 l0_2).bind fun t324 => (if t324 = true then (if a1 = true then ((impl_isNum.f a3 2).bind fun t325 => (impl_DevDo.j0 k a1 a2 a3 (!t325) l0_0 a0_1 l0_2 bt316.1 bt316.2.1 bt316.2.2)) else (impl_DevDo.j0 k a1 a2 a3 false l0_0 a0_1 l0_2 bt316.1 bt316.2.1 bt316.2.2)) else (impl_DevDo.j0 k a1 a2 a3 true l0_0 a0_1 l0_2 bt316.1 bt316.2.1 bt316.2.2)))) = some (r1, r2, r3, r4, r5) := h
  clear h
  replace H := Option.bind_eq_some_iff.mp H
  obtain ⟨⟨t316, t319, t320⟩, A50, H⟩ := H
  replace H : ((impl_DevOk.f k l0_0 a0_1 l0_2).bind fun t324 => (if t324 = true then (if a1 = true then ((impl_isNum.f a3 2).bind fun t325 => (impl_DevDo.j0 k a1 a2 a3 (!t325) l0_0 a0_1 l0_2 t316 t319 t320)) else (impl_DevDo.j0 k a1 a2 a3 false l0_0 a0_1 l0_2 t316 t319 t320)) else (impl_DevDo.j0 k a1 a2 a3 true l0_0 a0_1 l0_2 t316 t319 t320))) = some (r1, r2, r3, r4, r5) := H
  have A5 := Aside0.mk A50
  clear A50
  have HC6 := Aside0.mk H
  clear H
  go_enter Try.func41, Try.ntmps41
  go_upto_region 2 with (first | ((with_reducible refine gate_dst (N := 4) rfl ?_); (try (refine gate_guard (by rfl) ?_; dsimp only)); refine box_event ?hg (N := 4) ?hd (cs := #[.slice A0_0 l0_0.length c0_0, .int .i64 a0_1, .slice A0_2 l0_2.length c0_2]) (t := 26) ?hr ?_; (case hd => rfl); (case hg => rfl); (case hr => first | (go_simp; done) | (go_simp; rfl)); intro gb314 hg w7 hbox hb; have n0_ := Aside0.mk (below_step (by repeat (first | (with_reducible first | exact HB.out | apply below_alloc | apply pw_below_drewN | apply below_drew1) | exact HB.out)) hb); have n1_ := Aside0.mk (hbox); have n2_ := Aside0.mk ((by rw [hg]; exact (below_size (by repeat (first | (with_reducible first | exact HB.out | apply below_alloc | apply pw_below_drewN | apply below_drew1) | exact HB.out))) : w.heap.size ≤ gb314)); have n3_ := Aside0.mk ((by rw [hg]; exact (below_size (by repeat (first | (with_reducible first | exact HB.out | apply below_alloc | apply pw_below_drewN | apply below_drew1) | exact HB.out))) : w.heap.size ≤ gb314)); clear HB; have HB := n0_; have BK314 := n1_; have GW314 := n2_; have GE314 := n3_; clear n0_ n1_ n2_ n3_; clear hb hbox hg) | ((with_reducible refine gate_dst (N := 8) rfl ?_); (try (refine gate_guard (by rfl) ?_; dsimp only)); refine box_event ?hg (N := 8) ?hd (cs := #[.slice none 0 0, .int .i64 0, .slice none 0 0]) (t := 26) ?hr ?_; (case hd => rfl); (case hg => rfl); (case hr => first | (go_simp; done) | (go_simp; rfl)); intro gb315 hg w8 hbox hb; have n0_ := Aside0.mk (blk_below (g := gb314) (o := .cells #[.slice A0_0 l0_0.length c0_0, .int .i64 a0_1, .slice A0_2 l0_2.length c0_2] 26 (0, 0)) (by (with_reducible repeat (first | refine blk_drewN ?_ _ | refine blk_drew ?_ | refine blk_alloc ?_ _)); exact BK314.out) hb); have n1_ := Aside0.mk (below_step (by repeat (first | (with_reducible first | exact HB.out | apply below_alloc | apply pw_below_drewN | apply below_drew1 | refine below_set ?_ GE314.out) | exact HB.out)) hb); have n2_ := Aside0.mk (hbox); have n3_ := Aside0.mk ((by rw [hg]; exact (below_size (by repeat (first | (with_reducible first | exact HB.out | apply below_alloc | apply pw_below_drewN | apply below_drew1 | refine below_set ?_ GE314.out) | exact HB.out))) : w.heap.size ≤ gb315)); have n4_ := Aside0.mk ((by rw [hg]; exact (below_size (by repeat (first | (with_reducible first | exact HB.out | apply below_alloc | apply pw_below_drewN | apply below_drew1 | refine below_set ?_ GE314.out) | exact HB.out))) : w.heap.size ≤ gb315)); have n5_ := Aside0.mk ((by rw [hg]; exact Nat.ne_of_lt (blk_lt (g := gb314) (o := .cells #[.slice A0_0 l0_0.length c0_0, .int .i64 a0_1, .slice A0_2 l0_2.length c0_2] 26 (0, 0)) (by (with_reducible repeat (first | refine blk_drewN ?_ _ | refine blk_drew ?_ | refine blk_alloc ?_ _)); exact BK314.out)) : gb314 ≠ gb315)); have n6_ := Aside0.mk ((by rw [hg]; exact Nat.ne_of_gt (blk_lt (g := gb314) (o := .cells #[.slice A0_0 l0_0.length c0_0, .int .i64 a0_1, .slice A0_2 l0_2.length c0_2] 26 (0, 0)) (by (with_reducible repeat (first | refine blk_drewN ?_ _ | refine blk_drew ?_ | refine blk_alloc ?_ _)); exact BK314.out)) : gb315 ≠ gb314)); clear BK314; clear HB; have BK314 := n0_; have HB := n1_; have BK315 := n2_; have GW315 := n3_; have GE315 := n4_; have NB314_315 := n5_; have NB315_314 := n6_; clear n0_ n1_ n2_ n3_ n4_ n5_ n6_; clear hb hbox hg; have hnb9 := NB314_315.out; have hnc9 := NB315_314.out; have hcz10_0 : w8.cell? ⟨gb314, 0, none⟩ = some (.slice A0_0 l0_0.length c0_0) := (blk_cell BK314.out 0).trans rfl; have hcz10_1 : w8.cell? ⟨gb314, 1, none⟩ = some (.int .i64 a0_1) := (blk_cell BK314.out 1).trans rfl; have hcz10_2 : w8.cell? ⟨gb314, 2, none⟩ = some (.slice A0_2 l0_2.length c0_2) := (blk_cell BK314.out 2).trans rfl; have hfz10_0 := blk_frozen BK314.out 0; have hfz10_1 := blk_frozen BK314.out 1; have hfz10_2 := blk_frozen BK314.out 2) | ((with_reducible refine gate_callee (f := 75) rfl ?_); refine goesL_ (some 13) rfl rfl Try.func75 (by kernel_rfl) rfl #[.agg #[.slice A0_0 l0_0.length c0_0, .int .i64 a0_1, .slice A0_2 l0_2.length c0_2]] rfl (by (try simp only [List.map_toArray, List.map_cons, List.map_nil]); first | done | rfl | (simp only [List.length_drop, List.length_take]; rfl)) ?_; (with_reducible refine (impl_ownDev.calls _ _ l0_0 a0_1 _ _ l0_2 t316 t319 t320 _ ?side1 ?side2 ?side3 ?side4 A5.out).mono ?_); (case side1 => repeat (first | exact (Kd.C_below HR0_0.out HB.out) | (with_reducible refine Kd.C_alloc ?_ _) | (with_reducible refine Kd.C_drewN ?_ _) | (with_reducible refine Kd.C_drew ?_))); (case side2 => exact HC0_0.out); (case side3 => repeat (first | exact (Kd.C_below HR0_2.out HB.out) | (with_reducible refine Kd.C_alloc ?_ _) | (with_reducible refine Kd.C_drewN ?_ _) | (with_reducible refine Kd.C_drew ?_))); (case side4 => exact HC0_2.out); rintro e w11 ⟨v317, v321, rfl, ho0, ho1, hb⟩; refine ⟨_, rfl, ?_⟩; have n0_ := Aside0.mk (Kd.R_lower ho0 (below_size (by repeat (first | (with_reducible first | exact HB.out | apply below_alloc | apply pw_below_drewN | apply below_drew1 | refine below_set ?_ GE314.out | refine below_set ?_ GE315.out) | exact HB.out)))); have n1_ := Aside0.mk (Kd.R_lower ho1 (below_size (by repeat (first | (with_reducible first | exact HB.out | apply below_alloc | apply pw_below_drewN | apply below_drew1 | refine below_set ?_ GE314.out | refine below_set ?_ GE315.out) | exact HB.out)))); have n2_ := Aside0.mk (blk_below (g := gb314) (o := .cells #[.slice A0_0 l0_0.length c0_0, .int .i64 a0_1, .slice A0_2 l0_2.length c0_2] 26 (0, 0)) (by (with_reducible repeat (first | refine blk_drewN ?_ _ | refine blk_drew ?_ | refine blk_alloc ?_ _)); exact BK314.out) hb); have n3_ := Aside0.mk (blk_below (g := gb315) (o := .cells #[.slice none 0 0, .int .i64 0, .slice none 0 0] 26 (0, 0)) (by (with_reducible repeat (first | refine blk_drewN ?_ _ | refine blk_drew ?_ | refine blk_alloc ?_ _)); exact BK315.out) hb); have n4_ := Aside0.mk (below_step (by repeat (first | (with_reducible first | exact HB.out | apply below_alloc | apply pw_below_drewN | apply below_drew1 | refine below_set ?_ GE314.out | refine below_set ?_ GE315.out) | exact HB.out)) hb); clear BK314; clear BK315; clear HB; have HO318 := n0_; have HO322 := n1_; have BK314 := n2_; have BK315 := n3_; have HB := n4_; clear n0_ n1_ n2_ n3_ n4_; (try clear hb); (try clear hb2); (try clear hk); (try clear hi); (try clear ho0); (try clear ho1)) | ((with_reducible refine gate_dst (N := 11) rfl ?_); (try (refine gate_guard (by rfl) ?_; dsimp only)); refine box_event ?hg (N := 11) ?hd (cs := #[.slice none 0 0, .int .i64 0, .slice none 0 0]) (t := 26) ?hr ?_; (case hd => rfl); (case hg => rfl); (case hr => first | (go_simp; done) | (go_simp; rfl)); intro gb323 hg w12 hbox hb; have n0_ := Aside0.mk (Kd.R_below (by (with_reducible repeat (first | apply Kd.R_alloc | apply Kd.R_drewN | apply Kd.R_drew)); exact HO318.out) hb); have n1_ := Aside0.mk (Kd.R_below (by (with_reducible repeat (first | apply Kd.R_alloc | apply Kd.R_drewN | apply Kd.R_drew)); exact HO322.out) hb); have n2_ := Aside0.mk (blk_below (g := gb314) (o := .cells #[.slice A0_0 l0_0.length c0_0, .int .i64 a0_1, .slice A0_2 l0_2.length c0_2] 26 (0, 0)) (by (with_reducible repeat (first | refine blk_drewN ?_ _ | refine blk_drew ?_ | refine blk_alloc ?_ _)); exact BK314.out) hb); have n3_ := Aside0.mk (blk_below (g := gb315) (o := .cells #[.slice none 0 0, .int .i64 0, .slice none 0 0] 26 (0, 0)) (by (with_reducible repeat (first | refine blk_drewN ?_ _ | refine blk_drew ?_ | refine blk_alloc ?_ _)); exact BK315.out) hb); have n4_ := Aside0.mk (below_step (by repeat (first | (with_reducible first | exact HB.out | apply below_alloc | apply pw_below_drewN | apply below_drew1 | refine below_set ?_ GE314.out | refine below_set ?_ GE315.out) | exact HB.out)) hb); have n5_ := Aside0.mk (hbox); have n6_ := Aside0.mk ((by rw [hg]; exact (below_size (by repeat (first | (with_reducible first | exact HB.out | apply below_alloc | apply pw_below_drewN | apply below_drew1 | refine below_set ?_ GE314.out | refine below_set ?_ GE315.out) | exact HB.out))) : w.heap.size ≤ gb323)); have n7_ := Aside0.mk ((by rw [hg]; exact (below_size (by repeat (first | (with_reducible first | exact HB.out | apply below_alloc | apply pw_below_drewN | apply below_drew1 | refine below_set ?_ GE314.out | refine below_set ?_ GE315.out) | exact HB.out))) : w.heap.size ≤ gb323)); have n8_ := Aside0.mk ((by rw [hg]; exact Nat.ne_of_lt (blk_lt (g := gb314) (o := .cells #[.slice A0_0 l0_0.length c0_0, .int .i64 a0_1, .slice A0_2 l0_2.length c0_2] 26 (0, 0)) (by (with_reducible repeat (first | refine blk_drewN ?_ _ | refine blk_drew ?_ | refine blk_alloc ?_ _)); exact BK314.out)) : gb314 ≠ gb323)); have n9_ := Aside0.mk ((by rw [hg]; exact Nat.ne_of_gt (blk_lt (g := gb314) (o := .cells #[.slice A0_0 l0_0.length c0_0, .int .i64 a0_1, .slice A0_2 l0_2.length c0_2] 26 (0, 0)) (by (with_reducible repeat (first | refine blk_drewN ?_ _ | refine blk_drew ?_ | refine blk_alloc ?_ _)); exact BK314.out)) : gb323 ≠ gb314)); have n10_ := Aside0.mk ((by rw [hg]; exact Nat.ne_of_lt (blk_lt (g := gb315) (o := .cells #[.slice none 0 0, .int .i64 0, .slice none 0 0] 26 (0, 0)) (by (with_reducible repeat (first | refine blk_drewN ?_ _ | refine blk_drew ?_ | refine blk_alloc ?_ _)); exact BK315.out)) : gb315 ≠ gb323)); have n11_ := Aside0.mk ((by rw [hg]; exact Nat.ne_of_gt (blk_lt (g := gb315) (o := .cells #[.slice none 0 0, .int .i64 0, .slice none 0 0] 26 (0, 0)) (by (with_reducible repeat (first | refine blk_drewN ?_ _ | refine blk_drew ?_ | refine blk_alloc ?_ _)); exact BK315.out)) : gb323 ≠ gb315)); clear HO318; clear HO322; clear BK314; clear BK315; clear HB; have HO318 := n0_; have HO322 := n1_; have BK314 := n2_; have BK315 := n3_; have HB := n4_; have BK323 := n5_; have GW323 := n6_; have GE323 := n7_; have NB314_323 := n8_; have NB323_314 := n9_; have NB315_323 := n10_; have NB323_315 := n11_; clear n0_ n1_ n2_ n3_ n4_ n5_ n6_ n7_ n8_ n9_ n10_ n11_; clear hb hbox hg; obtain ⟨Ao13, co13, eo13⟩ := Kd.R_slice HO318.out; subst eo13; have hnb14 := NB323_314.out; have hnc14 := NB314_323.out; have hnb15 := NB323_315.out; have hnc15 := NB315_323.out; have hcz16_0 : w12.cell? ⟨gb323, 0, none⟩ = some (.slice none 0 0) := (blk_cell BK323.out 0).trans rfl; have hcz16_1 : w12.cell? ⟨gb323, 1, none⟩ = some (.int .i64 0) := (blk_cell BK323.out 1).trans rfl; have hcz16_2 : w12.cell? ⟨gb323, 2, none⟩ = some (.slice none 0 0) := (blk_cell BK323.out 2).trans rfl; have hfz16_0 := blk_frozen BK323.out 0; have hfz16_1 := blk_frozen BK323.out 1; have hfz16_2 := blk_frozen BK323.out 2; obtain ⟨Ao17, co17, eo17⟩ := Kd.R_slice HO322.out; subst eo17))
  (try simp only [Act.put, List.setIfInBounds_toArray, List.set_cons_zero, List.set_cons_succ])
  go_cut [24] (fun v24 wc => ∃ (kq : Nat) (x24_5 : Bool), v24 = .bool x24_5 ∧ Aside0 (impl_DevDo.j0 kq a1 a2 a3 x24_5 l0_0 a0_1 l0_2 t316 t319 t320 = some (r1, r2, r3, r4, r5)) ∧ Aside0 (kq ≤ k) ∧ Aside0 (Kd.R (Kd.int .i64) 3 wc w.heap.size (fun k_ => some k_ ≠ ((.slice Ao17 t320.length co17) : Value).ownBlock) (.slice Ao13 t316.length co13) t316) ∧ Aside0 (Kd.R (Kd.int .i64) 3 wc w.heap.size (fun k_ => some k_ ≠ ((.slice Ao13 t316.length co13) : Value).ownBlock) (.slice Ao17 t320.length co17) t320) ∧ Aside0 (wc.heap[gb314]? = some (.cells #[(.slice A0_0 l0_0.length c0_0), .int .i64 a0_1, (.slice A0_2 l0_2.length c0_2)] 26 (0, 0))) ∧ Aside0 (wc.heap[gb315]? = some (.cells #[(.slice none 0 0), .int .i64 0, (.slice none 0 0)] 26 (0, 0))) ∧ Aside0 (wc.heap[gb323]? = some (.cells #[(.slice Ao13 t316.length co13), .int .i64 t319, (.slice Ao17 t320.length co17)] 26 (0, 0))) ∧ Aside0 (Below w.heap.size w wc))
  case first =>
    have H := HC6.out
    clear HC6
    replace H := Option.bind_eq_some_iff.mp H
    obtain ⟨t324, A180, H⟩ := H
    replace H : (if t324 = true then (if a1 = true then ((impl_isNum.f a3 2).bind fun t325 => (impl_DevDo.j0 k a1 a2 a3 (!t325) l0_0 a0_1 l0_2 t316 t319 t320)) else (impl_DevDo.j0 k a1 a2 a3 false l0_0 a0_1 l0_2 t316 t319 t320)) else (impl_DevDo.j0 k a1 a2 a3 true l0_0 a0_1 l0_2 t316 t319 t320)) = some (r1, r2, r3, r4, r5) := H
    have A18 := Aside0.mk A180
    clear A180
    by_cases c19 : t324 = true
    · subst c19
      have H1 : (if a1 = true then ((impl_isNum.f a3 2).bind fun t325 => (impl_DevDo.j0 k a1 a2 a3 (!t325) l0_0 a0_1 l0_2 t316 t319 t320)) else (impl_DevDo.j0 k a1 a2 a3 false l0_0 a0_1 l0_2 t316 t319 t320)) = some (r1, r2, r3, r4, r5) := by rw [if_pos rfl] at H; exact H
      clear H
      have H := H1
      clear H1
      by_cases c20 : a1 = true
      · subst c20
        have H1 : ((impl_isNum.f a3 2).bind fun t325 => (impl_DevDo.j0 k true a2 a3 (!t325) l0_0 a0_1 l0_2 t316 t319 t320)) = some (r1, r2, r3, r4, r5) := by rw [if_pos rfl] at H; exact H
        clear H
        have H := H1
        clear H1
        replace H := Option.bind_eq_some_iff.mp H
        obtain ⟨t325, A210, H⟩ := H
        replace H : (impl_DevDo.j0 k true a2 a3 (!t325) l0_0 a0_1 l0_2 t316 t319 t320) = some (r1, r2, r3, r4, r5) := H
        have A21 := Aside0.mk A210
        clear A210
        have H' := Aside0.mk H
        clear H
        have hnb22 := NB314_315.out
        have hnc22 := NB315_314.out
        have hnb23 := NB314_323.out
        have hnc23 := NB323_314.out
        have hcz24_0 : w12.cell? ⟨gb314, 0, none⟩ = some (.slice A0_0 l0_0.length c0_0) := (blk_cell BK314.out 0).trans rfl
        have hcz24_1 : w12.cell? ⟨gb314, 1, none⟩ = some (.int .i64 a0_1) := (blk_cell BK314.out 1).trans rfl
        have hcz24_2 : w12.cell? ⟨gb314, 2, none⟩ = some (.slice A0_2 l0_2.length c0_2) := (blk_cell BK314.out 2).trans rfl
        have hfz24_0 := blk_frozen BK314.out 0
        have hfz24_1 := blk_frozen BK314.out 1
        have hfz24_2 := blk_frozen BK314.out 2
        go_wp2_with (first | ((with_reducible refine gate_callee (f := 37) rfl ?_); refine goesL_ (some 15) rfl rfl Try.func37 (by kernel_rfl) rfl #[.agg #[.slice A0_0 l0_0.length c0_0, .int .i64 a0_1, .slice A0_2 l0_2.length c0_2]] rfl (by (try simp only [List.map_toArray, List.map_cons, List.map_nil]); first | done | rfl | (simp only [List.length_drop, List.length_take]; rfl)) ?_; (with_reducible refine (impl_DevOk.calls k _ _ l0_0 a0_1 _ _ l0_2 true _ ?side1 ?side2 ?side3 ?side4 A18.out).mono ?_); (case side1 => exact Kd.C_below HR0_0.out (by repeat (first | (with_reducible first | exact HB.out | apply below_alloc | apply pw_below_drewN | apply below_drew1 | refine below_set ?_ GE314.out | refine below_set ?_ GE315.out | refine below_set ?_ GE323.out) | exact HB.out))); (case side2 => exact HC0_0.out); (case side3 => exact Kd.C_below HR0_2.out (by repeat (first | (with_reducible first | exact HB.out | apply below_alloc | apply pw_below_drewN | apply below_drew1 | refine below_set ?_ GE314.out | refine below_set ?_ GE315.out | refine below_set ?_ GE323.out) | exact HB.out))); (case side4 => exact HC0_2.out); rintro e w25 ⟨rfl, hb⟩; refine ⟨_, rfl, ?_⟩; have n0_ := Aside0.mk (Kd.R_below (by (with_reducible repeat (first | apply Kd.R_alloc | apply Kd.R_drewN | apply Kd.R_drew)); exact (Kd.R_mono (Kd.R_far (p := ⟨gb323, 2, none⟩) (Kd.R_far (p := ⟨gb323, 1, none⟩) (Kd.R_far (p := ⟨gb323, 0, none⟩) (Kd.R_types HO318.out BK323.out (by decide)) (fun _ hk => hk.2) (.slice Ao13 t316.length co13)) (fun _ hk => hk.2) (.int .i64 t319)) (fun _ hk => hk.2) (.slice Ao17 t320.length co17)) (fun _ h_ => h_.1))) hb); have n1_ := Aside0.mk (Kd.R_below (by (with_reducible repeat (first | apply Kd.R_alloc | apply Kd.R_drewN | apply Kd.R_drew)); exact (Kd.R_mono (Kd.R_far (p := ⟨gb323, 2, none⟩) (Kd.R_far (p := ⟨gb323, 1, none⟩) (Kd.R_far (p := ⟨gb323, 0, none⟩) (Kd.R_types HO322.out BK323.out (by decide)) (fun _ hk => hk.2) (.slice Ao13 t316.length co13)) (fun _ hk => hk.2) (.int .i64 t319)) (fun _ hk => hk.2) (.slice Ao17 t320.length co17)) (fun _ h_ => h_.1))) hb); have n2_ := Aside0.mk (blk_below (g := gb314) (o := .cells #[.slice A0_0 l0_0.length c0_0, .int .i64 a0_1, .slice A0_2 l0_2.length c0_2] 26 (0, 0)) (by (with_reducible repeat (first | refine blk_drewN ?_ _ | refine blk_drew ?_ | refine blk_alloc ?_ _)); refine blk_far ?_ NB314_323.out _; (with_reducible repeat (first | refine blk_drewN ?_ _ | refine blk_drew ?_ | refine blk_alloc ?_ _)); refine blk_far ?_ NB314_323.out _; (with_reducible repeat (first | refine blk_drewN ?_ _ | refine blk_drew ?_ | refine blk_alloc ?_ _)); refine blk_far ?_ NB314_323.out _; (with_reducible repeat (first | refine blk_drewN ?_ _ | refine blk_drew ?_ | refine blk_alloc ?_ _)); exact BK314.out) hb); have n3_ := Aside0.mk (blk_below (g := gb315) (o := .cells #[.slice none 0 0, .int .i64 0, .slice none 0 0] 26 (0, 0)) (by (with_reducible repeat (first | refine blk_drewN ?_ _ | refine blk_drew ?_ | refine blk_alloc ?_ _)); refine blk_far ?_ NB315_323.out _; (with_reducible repeat (first | refine blk_drewN ?_ _ | refine blk_drew ?_ | refine blk_alloc ?_ _)); refine blk_far ?_ NB315_323.out _; (with_reducible repeat (first | refine blk_drewN ?_ _ | refine blk_drew ?_ | refine blk_alloc ?_ _)); refine blk_far ?_ NB315_323.out _; (with_reducible repeat (first | refine blk_drewN ?_ _ | refine blk_drew ?_ | refine blk_alloc ?_ _)); exact BK315.out) hb); have n4_ := Aside0.mk (blk_below (g := gb323) (o := .cells #[.slice Ao13 t316.length co13, .int .i64 t319, .slice Ao17 t320.length co17] 26 (0, 0)) (by (with_reducible repeat (first | refine blk_drewN ?_ _ | refine blk_drew ?_ | refine blk_alloc ?_ _)); refine blk_put (cs := #[.slice Ao13 t316.length co13, .int .i64 t319, .slice none 0 0]) ?_ 2 _ rfl; (with_reducible repeat (first | refine blk_drewN ?_ _ | refine blk_drew ?_ | refine blk_alloc ?_ _)); refine blk_put (cs := #[.slice Ao13 t316.length co13, .int .i64 0, .slice none 0 0]) ?_ 1 _ rfl; (with_reducible repeat (first | refine blk_drewN ?_ _ | refine blk_drew ?_ | refine blk_alloc ?_ _)); refine blk_put (cs := #[.slice none 0 0, .int .i64 0, .slice none 0 0]) ?_ 0 _ rfl; (with_reducible repeat (first | refine blk_drewN ?_ _ | refine blk_drew ?_ | refine blk_alloc ?_ _)); exact BK323.out) hb); have n5_ := Aside0.mk (below_step (by repeat (first | (with_reducible first | exact HB.out | apply below_alloc | apply pw_below_drewN | apply below_drew1 | refine below_set ?_ GE314.out | refine below_set ?_ GE315.out | refine below_set ?_ GE323.out) | exact HB.out)) hb); clear HO318; clear HO322; clear BK314; clear BK315; clear BK323; clear HB; have HO318 := n0_; have HO322 := n1_; have BK314 := n2_; have BK315 := n3_; have BK323 := n4_; have HB := n5_; clear n0_ n1_ n2_ n3_ n4_ n5_; (try clear hb); (try clear hb2); (try clear hk); (try clear hi)) | (go_at_call 51; (with_reducible refine (impl_isNum.calls a3 2 t325 _ A21.out).mono ?_); rintro e w' ⟨rfl, ⟨nd, rfl⟩⟩))
        go_meet
        case rel => exact ⟨_, (!t325), (by first | rfl | (simp; done) | (simp [*]; done)), H', ⟨by first | omega | exact Nat.le_refl _⟩, ⟨by (with_reducible repeat (first | apply Kd.R_alloc | apply Kd.R_drewN | apply Kd.R_drew)); exact HO318.out⟩, ⟨by (with_reducible repeat (first | apply Kd.R_alloc | apply Kd.R_drewN | apply Kd.R_drew)); exact HO322.out⟩, ⟨by (with_reducible repeat (first | refine blk_drewN ?_ _ | refine blk_drew ?_ | refine blk_alloc ?_ _)); exact BK314.out⟩, ⟨by (with_reducible repeat (first | refine blk_drewN ?_ _ | refine blk_drew ?_ | refine blk_alloc ?_ _)); exact BK315.out⟩, ⟨by (with_reducible repeat (first | refine blk_drewN ?_ _ | refine blk_drew ?_ | refine blk_alloc ?_ _)); exact BK323.out⟩, ⟨by repeat (first | (with_reducible first | exact HB.out | apply below_alloc | apply pw_below_drewN | apply below_drew1 | refine below_set ?_ GE314.out | refine below_set ?_ GE315.out | refine below_set ?_ GE323.out) | exact HB.out)⟩⟩
      · replace c20 := Bool.eq_false_iff.mpr c20
        subst c20
        have H1 : (impl_DevDo.j0 k false a2 a3 false l0_0 a0_1 l0_2 t316 t319 t320) = some (r1, r2, r3, r4, r5) := by rw [if_neg (show ¬ (false = true) by decide)] at H; exact H
        clear H
        have H := H1
        clear H1
        have H' := Aside0.mk H
        clear H
        have hnb26 := NB314_315.out
        have hnc26 := NB315_314.out
        have hnb27 := NB314_323.out
        have hnc27 := NB323_314.out
        have hcz28_0 : w12.cell? ⟨gb314, 0, none⟩ = some (.slice A0_0 l0_0.length c0_0) := (blk_cell BK314.out 0).trans rfl
        have hcz28_1 : w12.cell? ⟨gb314, 1, none⟩ = some (.int .i64 a0_1) := (blk_cell BK314.out 1).trans rfl
        have hcz28_2 : w12.cell? ⟨gb314, 2, none⟩ = some (.slice A0_2 l0_2.length c0_2) := (blk_cell BK314.out 2).trans rfl
        have hfz28_0 := blk_frozen BK314.out 0
        have hfz28_1 := blk_frozen BK314.out 1
        have hfz28_2 := blk_frozen BK314.out 2
        go_wp2_with (first | ((with_reducible refine gate_callee (f := 37) rfl ?_); refine goesL_ (some 15) rfl rfl Try.func37 (by kernel_rfl) rfl #[.agg #[.slice A0_0 l0_0.length c0_0, .int .i64 a0_1, .slice A0_2 l0_2.length c0_2]] rfl (by (try simp only [List.map_toArray, List.map_cons, List.map_nil]); first | done | rfl | (simp only [List.length_drop, List.length_take]; rfl)) ?_; (with_reducible refine (impl_DevOk.calls k _ _ l0_0 a0_1 _ _ l0_2 true _ ?side1 ?side2 ?side3 ?side4 A18.out).mono ?_); (case side1 => exact Kd.C_below HR0_0.out (by repeat (first | (with_reducible first | exact HB.out | apply below_alloc | apply pw_below_drewN | apply below_drew1 | refine below_set ?_ GE314.out | refine below_set ?_ GE315.out | refine below_set ?_ GE323.out) | exact HB.out))); (case side2 => exact HC0_0.out); (case side3 => exact Kd.C_below HR0_2.out (by repeat (first | (with_reducible first | exact HB.out | apply below_alloc | apply pw_below_drewN | apply below_drew1 | refine below_set ?_ GE314.out | refine below_set ?_ GE315.out | refine below_set ?_ GE323.out) | exact HB.out))); (case side4 => exact HC0_2.out); rintro e w29 ⟨rfl, hb⟩; refine ⟨_, rfl, ?_⟩; have n0_ := Aside0.mk (Kd.R_below (by (with_reducible repeat (first | apply Kd.R_alloc | apply Kd.R_drewN | apply Kd.R_drew)); exact (Kd.R_mono (Kd.R_far (p := ⟨gb323, 2, none⟩) (Kd.R_far (p := ⟨gb323, 1, none⟩) (Kd.R_far (p := ⟨gb323, 0, none⟩) (Kd.R_types HO318.out BK323.out (by decide)) (fun _ hk => hk.2) (.slice Ao13 t316.length co13)) (fun _ hk => hk.2) (.int .i64 t319)) (fun _ hk => hk.2) (.slice Ao17 t320.length co17)) (fun _ h_ => h_.1))) hb); have n1_ := Aside0.mk (Kd.R_below (by (with_reducible repeat (first | apply Kd.R_alloc | apply Kd.R_drewN | apply Kd.R_drew)); exact (Kd.R_mono (Kd.R_far (p := ⟨gb323, 2, none⟩) (Kd.R_far (p := ⟨gb323, 1, none⟩) (Kd.R_far (p := ⟨gb323, 0, none⟩) (Kd.R_types HO322.out BK323.out (by decide)) (fun _ hk => hk.2) (.slice Ao13 t316.length co13)) (fun _ hk => hk.2) (.int .i64 t319)) (fun _ hk => hk.2) (.slice Ao17 t320.length co17)) (fun _ h_ => h_.1))) hb); have n2_ := Aside0.mk (blk_below (g := gb314) (o := .cells #[.slice A0_0 l0_0.length c0_0, .int .i64 a0_1, .slice A0_2 l0_2.length c0_2] 26 (0, 0)) (by (with_reducible repeat (first | refine blk_drewN ?_ _ | refine blk_drew ?_ | refine blk_alloc ?_ _)); refine blk_far ?_ NB314_323.out _; (with_reducible repeat (first | refine blk_drewN ?_ _ | refine blk_drew ?_ | refine blk_alloc ?_ _)); refine blk_far ?_ NB314_323.out _; (with_reducible repeat (first | refine blk_drewN ?_ _ | refine blk_drew ?_ | refine blk_alloc ?_ _)); refine blk_far ?_ NB314_323.out _; (with_reducible repeat (first | refine blk_drewN ?_ _ | refine blk_drew ?_ | refine blk_alloc ?_ _)); exact BK314.out) hb); have n3_ := Aside0.mk (blk_below (g := gb315) (o := .cells #[.slice none 0 0, .int .i64 0, .slice none 0 0] 26 (0, 0)) (by (with_reducible repeat (first | refine blk_drewN ?_ _ | refine blk_drew ?_ | refine blk_alloc ?_ _)); refine blk_far ?_ NB315_323.out _; (with_reducible repeat (first | refine blk_drewN ?_ _ | refine blk_drew ?_ | refine blk_alloc ?_ _)); refine blk_far ?_ NB315_323.out _; (with_reducible repeat (first | refine blk_drewN ?_ _ | refine blk_drew ?_ | refine blk_alloc ?_ _)); refine blk_far ?_ NB315_323.out _; (with_reducible repeat (first | refine blk_drewN ?_ _ | refine blk_drew ?_ | refine blk_alloc ?_ _)); exact BK315.out) hb); have n4_ := Aside0.mk (blk_below (g := gb323) (o := .cells #[.slice Ao13 t316.length co13, .int .i64 t319, .slice Ao17 t320.length co17] 26 (0, 0)) (by (with_reducible repeat (first | refine blk_drewN ?_ _ | refine blk_drew ?_ | refine blk_alloc ?_ _)); refine blk_put (cs := #[.slice Ao13 t316.length co13, .int .i64 t319, .slice none 0 0]) ?_ 2 _ rfl; (with_reducible repeat (first | refine blk_drewN ?_ _ | refine blk_drew ?_ | refine blk_alloc ?_ _)); refine blk_put (cs := #[.slice Ao13 t316.length co13, .int .i64 0, .slice none 0 0]) ?_ 1 _ rfl; (with_reducible repeat (first | refine blk_drewN ?_ _ | refine blk_drew ?_ | refine blk_alloc ?_ _)); refine blk_put (cs := #[.slice none 0 0, .int .i64 0, .slice none 0 0]) ?_ 0 _ rfl; (with_reducible repeat (first | refine blk_drewN ?_ _ | refine blk_drew ?_ | refine blk_alloc ?_ _)); exact BK323.out) hb); have n5_ := Aside0.mk (below_step (by repeat (first | (with_reducible first | exact HB.out | apply below_alloc | apply pw_below_drewN | apply below_drew1 | refine below_set ?_ GE314.out | refine below_set ?_ GE315.out | refine below_set ?_ GE323.out) | exact HB.out)) hb); clear HO318; clear HO322; clear BK314; clear BK315; clear BK323; clear HB; have HO318 := n0_; have HO322 := n1_; have BK314 := n2_; have BK315 := n3_; have BK323 := n4_; have HB := n5_; clear n0_ n1_ n2_ n3_ n4_ n5_; (try clear hb); (try clear hb2); (try clear hk); (try clear hi)))
        go_meet
        case rel => exact ⟨_, (false), (by first | rfl | (simp; done) | (simp [*]; done)), H', ⟨by first | omega | exact Nat.le_refl _⟩, ⟨by (with_reducible repeat (first | apply Kd.R_alloc | apply Kd.R_drewN | apply Kd.R_drew)); exact HO318.out⟩, ⟨by (with_reducible repeat (first | apply Kd.R_alloc | apply Kd.R_drewN | apply Kd.R_drew)); exact HO322.out⟩, ⟨by (with_reducible repeat (first | refine blk_drewN ?_ _ | refine blk_drew ?_ | refine blk_alloc ?_ _)); exact BK314.out⟩, ⟨by (with_reducible repeat (first | refine blk_drewN ?_ _ | refine blk_drew ?_ | refine blk_alloc ?_ _)); exact BK315.out⟩, ⟨by (with_reducible repeat (first | refine blk_drewN ?_ _ | refine blk_drew ?_ | refine blk_alloc ?_ _)); exact BK323.out⟩, ⟨by repeat (first | (with_reducible first | exact HB.out | apply below_alloc | apply pw_below_drewN | apply below_drew1 | refine below_set ?_ GE314.out | refine below_set ?_ GE315.out | refine below_set ?_ GE323.out) | exact HB.out)⟩⟩
    · replace c19 := Bool.eq_false_iff.mpr c19
      subst c19
      have H1 : (impl_DevDo.j0 k a1 a2 a3 true l0_0 a0_1 l0_2 t316 t319 t320) = some (r1, r2, r3, r4, r5) := by rw [if_neg (show ¬ (false = true) by decide)] at H; exact H
      clear H
      have H := H1
      clear H1
      have H' := Aside0.mk H
      clear H
      have hnb30 := NB314_315.out
      have hnc30 := NB315_314.out
      have hnb31 := NB314_323.out
      have hnc31 := NB323_314.out
      have hcz32_0 : w12.cell? ⟨gb314, 0, none⟩ = some (.slice A0_0 l0_0.length c0_0) := (blk_cell BK314.out 0).trans rfl
      have hcz32_1 : w12.cell? ⟨gb314, 1, none⟩ = some (.int .i64 a0_1) := (blk_cell BK314.out 1).trans rfl
      have hcz32_2 : w12.cell? ⟨gb314, 2, none⟩ = some (.slice A0_2 l0_2.length c0_2) := (blk_cell BK314.out 2).trans rfl
      have hfz32_0 := blk_frozen BK314.out 0
      have hfz32_1 := blk_frozen BK314.out 1
      have hfz32_2 := blk_frozen BK314.out 2
      go_wp2_with (first | ((with_reducible refine gate_callee (f := 37) rfl ?_); refine goesL_ (some 15) rfl rfl Try.func37 (by kernel_rfl) rfl #[.agg #[.slice A0_0 l0_0.length c0_0, .int .i64 a0_1, .slice A0_2 l0_2.length c0_2]] rfl (by (try simp only [List.map_toArray, List.map_cons, List.map_nil]); first | done | rfl | (simp only [List.length_drop, List.length_take]; rfl)) ?_; (with_reducible refine (impl_DevOk.calls k _ _ l0_0 a0_1 _ _ l0_2 false _ ?side1 ?side2 ?side3 ?side4 A18.out).mono ?_); (case side1 => exact Kd.C_below HR0_0.out (by repeat (first | (with_reducible first | exact HB.out | apply below_alloc | apply pw_below_drewN | apply below_drew1 | refine below_set ?_ GE314.out | refine below_set ?_ GE315.out | refine below_set ?_ GE323.out) | exact HB.out))); (case side2 => exact HC0_0.out); (case side3 => exact Kd.C_below HR0_2.out (by repeat (first | (with_reducible first | exact HB.out | apply below_alloc | apply pw_below_drewN | apply below_drew1 | refine below_set ?_ GE314.out | refine below_set ?_ GE315.out | refine below_set ?_ GE323.out) | exact HB.out))); (case side4 => exact HC0_2.out); rintro e w33 ⟨rfl, hb⟩; refine ⟨_, rfl, ?_⟩; have n0_ := Aside0.mk (Kd.R_below (by (with_reducible repeat (first | apply Kd.R_alloc | apply Kd.R_drewN | apply Kd.R_drew)); exact (Kd.R_mono (Kd.R_far (p := ⟨gb323, 2, none⟩) (Kd.R_far (p := ⟨gb323, 1, none⟩) (Kd.R_far (p := ⟨gb323, 0, none⟩) (Kd.R_types HO318.out BK323.out (by decide)) (fun _ hk => hk.2) (.slice Ao13 t316.length co13)) (fun _ hk => hk.2) (.int .i64 t319)) (fun _ hk => hk.2) (.slice Ao17 t320.length co17)) (fun _ h_ => h_.1))) hb); have n1_ := Aside0.mk (Kd.R_below (by (with_reducible repeat (first | apply Kd.R_alloc | apply Kd.R_drewN | apply Kd.R_drew)); exact (Kd.R_mono (Kd.R_far (p := ⟨gb323, 2, none⟩) (Kd.R_far (p := ⟨gb323, 1, none⟩) (Kd.R_far (p := ⟨gb323, 0, none⟩) (Kd.R_types HO322.out BK323.out (by decide)) (fun _ hk => hk.2) (.slice Ao13 t316.length co13)) (fun _ hk => hk.2) (.int .i64 t319)) (fun _ hk => hk.2) (.slice Ao17 t320.length co17)) (fun _ h_ => h_.1))) hb); have n2_ := Aside0.mk (blk_below (g := gb314) (o := .cells #[.slice A0_0 l0_0.length c0_0, .int .i64 a0_1, .slice A0_2 l0_2.length c0_2] 26 (0, 0)) (by (with_reducible repeat (first | refine blk_drewN ?_ _ | refine blk_drew ?_ | refine blk_alloc ?_ _)); refine blk_far ?_ NB314_323.out _; (with_reducible repeat (first | refine blk_drewN ?_ _ | refine blk_drew ?_ | refine blk_alloc ?_ _)); refine blk_far ?_ NB314_323.out _; (with_reducible repeat (first | refine blk_drewN ?_ _ | refine blk_drew ?_ | refine blk_alloc ?_ _)); refine blk_far ?_ NB314_323.out _; (with_reducible repeat (first | refine blk_drewN ?_ _ | refine blk_drew ?_ | refine blk_alloc ?_ _)); exact BK314.out) hb); have n3_ := Aside0.mk (blk_below (g := gb315) (o := .cells #[.slice none 0 0, .int .i64 0, .slice none 0 0] 26 (0, 0)) (by (with_reducible repeat (first | refine blk_drewN ?_ _ | refine blk_drew ?_ | refine blk_alloc ?_ _)); refine blk_far ?_ NB315_323.out _; (with_reducible repeat (first | refine blk_drewN ?_ _ | refine blk_drew ?_ | refine blk_alloc ?_ _)); refine blk_far ?_ NB315_323.out _; (with_reducible repeat (first | refine blk_drewN ?_ _ | refine blk_drew ?_ | refine blk_alloc ?_ _)); refine blk_far ?_ NB315_323.out _; (with_reducible repeat (first | refine blk_drewN ?_ _ | refine blk_drew ?_ | refine blk_alloc ?_ _)); exact BK315.out) hb); have n4_ := Aside0.mk (blk_below (g := gb323) (o := .cells #[.slice Ao13 t316.length co13, .int .i64 t319, .slice Ao17 t320.length co17] 26 (0, 0)) (by (with_reducible repeat (first | refine blk_drewN ?_ _ | refine blk_drew ?_ | refine blk_alloc ?_ _)); refine blk_put (cs := #[.slice Ao13 t316.length co13, .int .i64 t319, .slice none 0 0]) ?_ 2 _ rfl; (with_reducible repeat (first | refine blk_drewN ?_ _ | refine blk_drew ?_ | refine blk_alloc ?_ _)); refine blk_put (cs := #[.slice Ao13 t316.length co13, .int .i64 0, .slice none 0 0]) ?_ 1 _ rfl; (with_reducible repeat (first | refine blk_drewN ?_ _ | refine blk_drew ?_ | refine blk_alloc ?_ _)); refine blk_put (cs := #[.slice none 0 0, .int .i64 0, .slice none 0 0]) ?_ 0 _ rfl; (with_reducible repeat (first | refine blk_drewN ?_ _ | refine blk_drew ?_ | refine blk_alloc ?_ _)); exact BK323.out) hb); have n5_ := Aside0.mk (below_step (by repeat (first | (with_reducible first | exact HB.out | apply below_alloc | apply pw_below_drewN | apply below_drew1 | refine below_set ?_ GE314.out | refine below_set ?_ GE315.out | refine below_set ?_ GE323.out) | exact HB.out)) hb); clear HO318; clear HO322; clear BK314; clear BK315; clear BK323; clear HB; have HO318 := n0_; have HO322 := n1_; have BK314 := n2_; have BK315 := n3_; have BK323 := n4_; have HB := n5_; clear n0_ n1_ n2_ n3_ n4_ n5_; (try clear hb); (try clear hb2); (try clear hk); (try clear hi)))
      go_meet
      case rel => exact ⟨_, (true), (by first | rfl | (simp; done) | (simp [*]; done)), H', ⟨by first | omega | exact Nat.le_refl _⟩, ⟨by (with_reducible repeat (first | apply Kd.R_alloc | apply Kd.R_drewN | apply Kd.R_drew)); exact HO318.out⟩, ⟨by (with_reducible repeat (first | apply Kd.R_alloc | apply Kd.R_drewN | apply Kd.R_drew)); exact HO322.out⟩, ⟨by (with_reducible repeat (first | refine blk_drewN ?_ _ | refine blk_drew ?_ | refine blk_alloc ?_ _)); exact BK314.out⟩, ⟨by (with_reducible repeat (first | refine blk_drewN ?_ _ | refine blk_drew ?_ | refine blk_alloc ?_ _)); exact BK315.out⟩, ⟨by (with_reducible repeat (first | refine blk_drewN ?_ _ | refine blk_drew ?_ | refine blk_alloc ?_ _)); exact BK323.out⟩, ⟨by repeat (first | (with_reducible first | exact HB.out | apply below_alloc | apply pw_below_drewN | apply below_drew1 | refine below_set ?_ GE314.out | refine below_set ?_ GE315.out | refine below_set ?_ GE323.out) | exact HB.out)⟩⟩
  case rest =>
    clear HC6
    try clear c1
    try clear c2
    try clear p2
    try clear c3
    try clear c4
    try clear c7
    try clear c9
    try clear c14
    try clear c15
    try clear c19
    try clear c20
    try clear c22
    try clear c23
    try clear c26
    try clear c27
    try clear c30
    try clear c31
    try clear hcz10_0
    try clear hcz10_1
    try clear hcz10_2
    try clear hcz16_0
    try clear hcz16_1
    try clear hcz16_2
    try clear hcz24_0
    try clear hcz24_1
    try clear hcz24_2
    try clear hcz28_0
    try clear hcz28_1
    try clear hcz28_2
    try clear hcz32_0
    try clear hcz32_1
    try clear hcz32_2
    try clear hfz10_0
    try clear hfz10_1
    try clear hfz10_2
    try clear hfz16_0
    try clear hfz16_1
    try clear hfz16_2
    try clear hfz24_0
    try clear hfz24_1
    try clear hfz24_2
    try clear hfz28_0
    try clear hfz28_1
    try clear hfz28_2
    try clear hfz32_0
    try clear hfz32_1
    try clear hfz32_2
    obtain ⟨kq, x24_5, rfl, HA, HJ5, HO_324000, HO_324002, BK314, BK315, BK323, HB⟩ := hcut
    cases kq with
    | zero => exact absurd HA.out (by simp [impl_DevDo.j0])
    | succ kj5 =>
      have H := HA.out
      clear HA
      simp only [impl_DevDo.j0] at H
      by_cases c34 : x24_5 = true
      · subst c34
        have H1 : (some (t316, t319, t320, 0, false)) = some (r1, r2, r3, r4, r5) := by rw [if_pos rfl] at H; exact H
        clear H
        have H := H1
        clear H1
        simp only [Option.some.injEq, Prod.mk.injEq] at H
        obtain ⟨rfl, rfl, rfl, rfl, rfl⟩ := H
        have hnb35 := NB323_314.out
        have hnc35 := NB314_323.out
        have hnb36 := NB323_315.out
        have hnc36 := NB315_323.out
        have hcz37_0 : wc.cell? ⟨gb323, 0, none⟩ = some (.slice Ao13 t316.length co13) := (blk_cell BK323.out 0).trans rfl
        have hcz37_1 : wc.cell? ⟨gb323, 1, none⟩ = some (.int .i64 t319) := (blk_cell BK323.out 1).trans rfl
        have hcz37_2 : wc.cell? ⟨gb323, 2, none⟩ = some (.slice Ao17 t320.length co17) := (blk_cell BK323.out 2).trans rfl
        have hfz37_0 := blk_frozen BK323.out 0
        have hfz37_1 := blk_frozen BK323.out 1
        have hfz37_2 := blk_frozen BK323.out 2
        have hnb38 := NB315_314.out
        have hnc38 := NB314_315.out
        have hcz39_0 : wc.cell? ⟨gb315, 0, none⟩ = some (.slice none 0 0) := (blk_cell BK315.out 0).trans rfl
        have hcz39_1 : wc.cell? ⟨gb315, 1, none⟩ = some (.int .i64 0) := (blk_cell BK315.out 1).trans rfl
        have hcz39_2 : wc.cell? ⟨gb315, 2, none⟩ = some (.slice none 0 0) := (blk_cell BK315.out 2).trans rfl
        have hfz39_0 := blk_frozen BK315.out 0
        have hfz39_1 := blk_frozen BK315.out 1
        have hfz39_2 := blk_frozen BK315.out 2
        go_wp2
        refine bodyPost_ret (results_ctt rfl _ _ gb315 26 #[.slice Ao13 t316.length co13, .int .i64 t319, .slice Ao17 t320.length co17] (0, 0) _ rfl (by (with_reducible repeat (first | refine blk_drewN ?_ _ | refine blk_drew ?_ | refine blk_alloc ?_ _)); refine blk_put (cs := #[.slice Ao13 t316.length co13, .int .i64 t319, .slice none 0 0]) ?_ 2 _ rfl; (with_reducible repeat (first | refine blk_drewN ?_ _ | refine blk_drew ?_ | refine blk_alloc ?_ _)); refine blk_put (cs := #[.slice Ao13 t316.length co13, .int .i64 0, .slice none 0 0]) ?_ 1 _ rfl; (with_reducible repeat (first | refine blk_drewN ?_ _ | refine blk_drew ?_ | refine blk_alloc ?_ _)); refine blk_put (cs := #[.slice none 0 0, .int .i64 0, .slice none 0 0]) ?_ 0 _ rfl; (with_reducible repeat (first | refine blk_drewN ?_ _ | refine blk_drew ?_ | refine blk_alloc ?_ _)); exact BK315.out) Try.underlying26 rfl (by kernel_rfl)) rfl ?_
        exact ⟨_, _, by first | rfl | (simp [errW_none, errW_some] <;> rfl) | (simp [*, errW_none, errW_some] <;> rfl), by (with_reducible repeat (first | apply Kd.R_alloc | apply Kd.R_drewN | apply Kd.R_drew)); exact Kd.R_mono (Kd.R_far (p := ⟨gb315, 2, none⟩) (Kd.R_far (p := ⟨gb315, 1, none⟩) (Kd.R_far (p := ⟨gb315, 0, none⟩) (Kd.R_types HO_324000.out BK315.out (by decide)) (fun _ hk => hk.2) (.slice Ao13 t316.length co13)) (fun _ hk => hk.2) (.int .i64 t319)) (fun _ hk => hk.2) (.slice Ao17 t320.length co17)) (fun _ hk => hk.1), by (with_reducible repeat (first | apply Kd.R_alloc | apply Kd.R_drewN | apply Kd.R_drew)); exact Kd.R_mono (Kd.R_far (p := ⟨gb315, 2, none⟩) (Kd.R_far (p := ⟨gb315, 1, none⟩) (Kd.R_far (p := ⟨gb315, 0, none⟩) (Kd.R_types HO_324002.out BK315.out (by decide)) (fun _ hk => hk.2) (.slice Ao13 t316.length co13)) (fun _ hk => hk.2) (.int .i64 t319)) (fun _ hk => hk.2) (.slice Ao17 t320.length co17)) (fun _ hk => hk.1), by repeat (first | (with_reducible first | exact HB.out | apply below_alloc | apply pw_below_drewN | apply below_drew1 | refine below_set ?_ GE314.out | refine below_set ?_ GE315.out | refine below_set ?_ GE323.out) | exact HB.out)⟩
      · replace c34 := Bool.eq_false_iff.mpr c34
        subst c34
        have H1 : (if a2 = 16 then (impl_DevDo.j1 kj5 a1 a2 a3 a1 l0_0 a0_1 l0_2 t316 t319 t320) else (impl_DevDo.j1 kj5 a1 a2 a3 false l0_0 a0_1 l0_2 t316 t319 t320)) = some (r1, r2, r3, r4, r5) := by rw [if_neg (show ¬ (false = true) by decide)] at H; exact H
        clear H
        have H := H1
        clear H1
        have HC40 := Aside0.mk H
        clear H
        go_upto_region 5 with (fail)
        go_cut [32] (fun v32 wc => ∃ (kq : Nat) (x32_39 : Bool), v32 = .bool x32_39 ∧ Aside0 (impl_DevDo.j1 kq a1 a2 a3 x32_39 l0_0 a0_1 l0_2 t316 t319 t320 = some (r1, r2, r3, r4, r5)) ∧ Aside0 (kq ≤ kj5) ∧ Aside0 (Kd.R (Kd.int .i64) 3 wc w.heap.size (fun k_ => some k_ ≠ ((.slice Ao17 t320.length co17) : Value).ownBlock) (.slice Ao13 t316.length co13) t316) ∧ Aside0 (Kd.R (Kd.int .i64) 3 wc w.heap.size (fun k_ => some k_ ≠ ((.slice Ao13 t316.length co13) : Value).ownBlock) (.slice Ao17 t320.length co17) t320) ∧ Aside0 (wc.heap[gb314]? = some (.cells #[(.slice A0_0 l0_0.length c0_0), .int .i64 a0_1, (.slice A0_2 l0_2.length c0_2)] 26 (0, 0))) ∧ Aside0 (wc.heap[gb315]? = some (.cells #[(.slice none 0 0), .int .i64 0, (.slice none 0 0)] 26 (0, 0))) ∧ Aside0 (wc.heap[gb323]? = some (.cells #[(.slice Ao13 t316.length co13), .int .i64 t319, (.slice Ao17 t320.length co17)] 26 (0, 0))) ∧ Aside0 (Below w.heap.size w wc))
        case first =>
          have H := HC40.out
          clear HC40
          by_cases c41 : a2 = 16
          · rw [if_pos c41] at H
            have c41b0 : (a2 == 16) = true := beq_iff_eq.mpr c41
            have c41b1 : (a2 != 16) = false := bne_eq_false_iff_eq.mpr c41
            clear c41
            (first | rw [c41b0] | (simp only [i64_w, i32_w]; rw [c41b0]) | skip)
            have H' := Aside0.mk H
            clear H
            go_wp2
            go_meet
            case rel => exact ⟨_, (a1), (by first | rfl | (simp; done) | (simp [*]; done)), H', ⟨by have := HJ5.out; first | omega | exact Nat.le_refl _⟩, ⟨by (with_reducible repeat (first | apply Kd.R_alloc | apply Kd.R_drewN | apply Kd.R_drew)); exact HO_324000.out⟩, ⟨by (with_reducible repeat (first | apply Kd.R_alloc | apply Kd.R_drewN | apply Kd.R_drew)); exact HO_324002.out⟩, ⟨by (with_reducible repeat (first | refine blk_drewN ?_ _ | refine blk_drew ?_ | refine blk_alloc ?_ _)); exact BK314.out⟩, ⟨by (with_reducible repeat (first | refine blk_drewN ?_ _ | refine blk_drew ?_ | refine blk_alloc ?_ _)); exact BK315.out⟩, ⟨by (with_reducible repeat (first | refine blk_drewN ?_ _ | refine blk_drew ?_ | refine blk_alloc ?_ _)); exact BK323.out⟩, ⟨by repeat (first | (with_reducible first | exact HB.out | apply below_alloc | apply pw_below_drewN | apply below_drew1 | refine below_set ?_ GE314.out | refine below_set ?_ GE315.out | refine below_set ?_ GE323.out) | exact HB.out)⟩⟩
          · rw [if_neg c41] at H
            have c41b0 : (a2 == 16) = false := beq_eq_false_iff_ne.mpr c41
            have c41b1 : (a2 != 16) = true := bne_iff_ne.mpr c41
            (first | rw [c41b0] | (simp only [i64_w, i32_w]; rw [c41b0]) | skip)
            have H' := Aside0.mk H
            clear H
            go_wp2
            go_meet
            case rel => exact ⟨_, (false), (by first | rfl | (simp; done) | (simp [*]; done)), H', ⟨by have := HJ5.out; first | omega | exact Nat.le_refl _⟩, ⟨by (with_reducible repeat (first | apply Kd.R_alloc | apply Kd.R_drewN | apply Kd.R_drew)); exact HO_324000.out⟩, ⟨by (with_reducible repeat (first | apply Kd.R_alloc | apply Kd.R_drewN | apply Kd.R_drew)); exact HO_324002.out⟩, ⟨by (with_reducible repeat (first | refine blk_drewN ?_ _ | refine blk_drew ?_ | refine blk_alloc ?_ _)); exact BK314.out⟩, ⟨by (with_reducible repeat (first | refine blk_drewN ?_ _ | refine blk_drew ?_ | refine blk_alloc ?_ _)); exact BK315.out⟩, ⟨by (with_reducible repeat (first | refine blk_drewN ?_ _ | refine blk_drew ?_ | refine blk_alloc ?_ _)); exact BK323.out⟩, ⟨by repeat (first | (with_reducible first | exact HB.out | apply below_alloc | apply pw_below_drewN | apply below_drew1 | refine below_set ?_ GE314.out | refine below_set ?_ GE315.out | refine below_set ?_ GE323.out) | exact HB.out)⟩⟩
        case rest =>
          clear HC40
          try clear c1
          try clear c2
          try clear p2
          try clear c3
          try clear c4
          try clear c7
          try clear c9
          try clear c14
          try clear c15
          try clear c19
          try clear c20
          try clear c22
          try clear c23
          try clear c26
          try clear c27
          try clear c30
          try clear c31
          try clear c34
          try clear c35
          try clear c36
          try clear c37
          try clear c38
          try clear c41
          try clear c41b0
          try clear c41b1
          try clear hcz10_0
          try clear hcz10_1
          try clear hcz10_2
          try clear hcz16_0
          try clear hcz16_1
          try clear hcz16_2
          try clear hcz24_0
          try clear hcz24_1
          try clear hcz24_2
          try clear hcz28_0
          try clear hcz28_1
          try clear hcz28_2
          try clear hcz32_0
          try clear hcz32_1
          try clear hcz32_2
          try clear hcz37_0
          try clear hcz37_1
          try clear hcz37_2
          try clear hcz39_0
          try clear hcz39_1
          try clear hcz39_2
          try clear hfz10_0
          try clear hfz10_1
          try clear hfz10_2
          try clear hfz16_0
          try clear hfz16_1
          try clear hfz16_2
          try clear hfz24_0
          try clear hfz24_1
          try clear hfz24_2
          try clear hfz28_0
          try clear hfz28_1
          try clear hfz28_2
          try clear hfz32_0
          try clear hfz32_1
          try clear hfz32_2
          try clear hfz37_0
          try clear hfz37_1
          try clear hfz37_2
          try clear hfz39_0
          try clear hfz39_1
          try clear hfz39_2
          try clear p2
          obtain ⟨kq, x32_39, rfl, HA, HJ39, HO_324000, HO_324002, BK314, BK315, BK323, HB⟩ := hcut
          cases kq with
          | zero => exact absurd HA.out (by simp [impl_DevDo.j1])
          | succ kj39 =>
            have H := HA.out
            clear HA
            simp only [impl_DevDo.j1] at H
            by_cases c42 : x32_39 = true
            · subst c42
              have H1 : (some (t316, a3, t320, a3, true)) = some (r1, r2, r3, r4, r5) := by rw [if_pos rfl] at H; exact H
              clear H
              have H := H1
              clear H1
              simp only [Option.some.injEq, Prod.mk.injEq] at H
              obtain ⟨rfl, rfl, rfl, rfl, rfl⟩ := H
              have hnb43 := NB323_314.out
              have hnc43 := NB314_323.out
              have hnb44 := NB323_315.out
              have hnc44 := NB315_323.out
              have hcz45_0 : wc.cell? ⟨gb323, 0, none⟩ = some (.slice Ao13 t316.length co13) := (blk_cell BK323.out 0).trans rfl
              have hcz45_1 : wc.cell? ⟨gb323, 1, none⟩ = some (.int .i64 t319) := (blk_cell BK323.out 1).trans rfl
              have hcz45_2 : wc.cell? ⟨gb323, 2, none⟩ = some (.slice Ao17 t320.length co17) := (blk_cell BK323.out 2).trans rfl
              have hfz45_0 := blk_frozen BK323.out 0
              have hfz45_1 := blk_frozen BK323.out 1
              have hfz45_2 := blk_frozen BK323.out 2
              have hnb46 := NB315_314.out
              have hnc46 := NB314_315.out
              have hcz47_0 : wc.cell? ⟨gb315, 0, none⟩ = some (.slice none 0 0) := (blk_cell BK315.out 0).trans rfl
              have hcz47_1 : wc.cell? ⟨gb315, 1, none⟩ = some (.int .i64 0) := (blk_cell BK315.out 1).trans rfl
              have hcz47_2 : wc.cell? ⟨gb315, 2, none⟩ = some (.slice none 0 0) := (blk_cell BK315.out 2).trans rfl
              have hfz47_0 := blk_frozen BK315.out 0
              have hfz47_1 := blk_frozen BK315.out 1
              have hfz47_2 := blk_frozen BK315.out 2
              go_wp2
              refine bodyPost_ret (results_ctt rfl _ _ gb315 26 #[.slice Ao13 t316.length co13, .int .i64 a3, .slice Ao17 t320.length co17] (0, 0) _ rfl (by (with_reducible repeat (first | refine blk_drewN ?_ _ | refine blk_drew ?_ | refine blk_alloc ?_ _)); refine blk_put (cs := #[.slice Ao13 t316.length co13, .int .i64 a3, .slice none 0 0]) ?_ 2 _ rfl; (with_reducible repeat (first | refine blk_drewN ?_ _ | refine blk_drew ?_ | refine blk_alloc ?_ _)); refine blk_put (cs := #[.slice Ao13 t316.length co13, .int .i64 0, .slice none 0 0]) ?_ 1 _ rfl; (with_reducible repeat (first | refine blk_drewN ?_ _ | refine blk_drew ?_ | refine blk_alloc ?_ _)); refine blk_put (cs := #[.slice none 0 0, .int .i64 0, .slice none 0 0]) ?_ 0 _ rfl; (with_reducible repeat (first | refine blk_drewN ?_ _ | refine blk_drew ?_ | refine blk_alloc ?_ _)); refine blk_far ?_ NB315_323.out _; (with_reducible repeat (first | refine blk_drewN ?_ _ | refine blk_drew ?_ | refine blk_alloc ?_ _)); exact BK315.out) Try.underlying26 rfl (by kernel_rfl)) rfl ?_
              exact ⟨_, _, by first | rfl | (simp [errW_none, errW_some] <;> rfl) | (simp [*, errW_none, errW_some] <;> rfl), by (with_reducible repeat (first | apply Kd.R_alloc | apply Kd.R_drewN | apply Kd.R_drew)); exact Kd.R_mono (Kd.R_far (p := ⟨gb315, 2, none⟩) (Kd.R_far (p := ⟨gb315, 1, none⟩) (Kd.R_far (p := ⟨gb315, 0, none⟩) (Kd.R_far (p := ⟨gb323, 1, none⟩) (Kd.R_types (Kd.R_types HO_324000.out BK323.out (by decide)) BK315.out (by decide)) (fun _ hk => hk.1.2) (.int .i64 a3)) (fun _ hk => hk.2) (.slice Ao13 t316.length co13)) (fun _ hk => hk.2) (.int .i64 a3)) (fun _ hk => hk.2) (.slice Ao17 t320.length co17)) (fun _ hk => hk.1.1), by (with_reducible repeat (first | apply Kd.R_alloc | apply Kd.R_drewN | apply Kd.R_drew)); exact Kd.R_mono (Kd.R_far (p := ⟨gb315, 2, none⟩) (Kd.R_far (p := ⟨gb315, 1, none⟩) (Kd.R_far (p := ⟨gb315, 0, none⟩) (Kd.R_far (p := ⟨gb323, 1, none⟩) (Kd.R_types (Kd.R_types HO_324002.out BK323.out (by decide)) BK315.out (by decide)) (fun _ hk => hk.1.2) (.int .i64 a3)) (fun _ hk => hk.2) (.slice Ao13 t316.length co13)) (fun _ hk => hk.2) (.int .i64 a3)) (fun _ hk => hk.2) (.slice Ao17 t320.length co17)) (fun _ hk => hk.1.1), by repeat (first | (with_reducible first | exact HB.out | apply below_alloc | apply pw_below_drewN | apply below_drew1 | refine below_set ?_ GE314.out | refine below_set ?_ GE315.out | refine below_set ?_ GE323.out) | exact HB.out)⟩
            · replace c42 := Bool.eq_false_iff.mpr c42
              subst c42
              have H1 : (if a2 = 16 then ((impl_LimitOf.f 2).bind fun t326 => (if t326 = 0 then (none) else (some (t316, Int.tmod (wrap64 (a0_1 + 1)) t326, t320, a0_1, true)))) else (if a2 = 20 then (if a1 = true then (impl_DevDo.j2 kj39 a1 a2 a3 (decide ((l0_2.length : Int) < 4)) l0_0 a0_1 l0_2 t316 t319 t320) else (impl_DevDo.j2 kj39 a1 a2 a3 false l0_0 a0_1 l0_2 t316 t319 t320)) else (impl_DevDo.j2 kj39 a1 a2 a3 false l0_0 a0_1 l0_2 t316 t319 t320))) = some (r1, r2, r3, r4, r5) := by rw [if_neg (show ¬ (false = true) by decide)] at H; exact H
              clear H
              have H := H1
              clear H1
              by_cases c48 : a2 = 16
              · rw [if_pos c48] at H
                have c48b0 : (a2 == 16) = true := beq_iff_eq.mpr c48
                have c48b1 : (a2 != 16) = false := bne_eq_false_iff_eq.mpr c48
                clear c48
                replace H := Option.bind_eq_some_iff.mp H
                obtain ⟨t326, A490, H⟩ := H
                replace H : (if t326 = 0 then (none) else (some (t316, Int.tmod (wrap64 (a0_1 + 1)) t326, t320, a0_1, true))) = some (r1, r2, r3, r4, r5) := H
                have A49 := Aside0.mk A490
                clear A490
                by_cases c50 : t326 = 0
                · rw [if_pos c50] at H
                  exact absurd H (by simp)
                · rw [if_neg c50] at H
                  have c50b0 : (t326 == 0) = false := beq_eq_false_iff_ne.mpr c50
                  have c50b1 : (t326 != 0) = true := bne_iff_ne.mpr c50
                  simp only [Option.some.injEq, Prod.mk.injEq] at H
                  obtain ⟨rfl, rfl, rfl, rfl, rfl⟩ := H
                  have hnb51 := NB314_315.out
                  have hnc51 := NB315_314.out
                  have hnb52 := NB314_323.out
                  have hnc52 := NB323_314.out
                  have hcz53_0 : wc.cell? ⟨gb314, 0, none⟩ = some (.slice A0_0 l0_0.length c0_0) := (blk_cell BK314.out 0).trans rfl
                  have hcz53_1 : wc.cell? ⟨gb314, 1, none⟩ = some (.int .i64 a0_1) := (blk_cell BK314.out 1).trans rfl
                  have hcz53_2 : wc.cell? ⟨gb314, 2, none⟩ = some (.slice A0_2 l0_2.length c0_2) := (blk_cell BK314.out 2).trans rfl
                  have hfz53_0 := blk_frozen BK314.out 0
                  have hfz53_1 := blk_frozen BK314.out 1
                  have hfz53_2 := blk_frozen BK314.out 2
                  try go_wp2
                  have n0_ := Aside0.mk (Kd.R_drew HO_324000.out)
                  have n1_ := Aside0.mk (Kd.R_drew HO_324002.out)
                  have n2_ := Aside0.mk (blk_drew BK314.out)
                  have n3_ := Aside0.mk (blk_drew BK315.out)
                  have n4_ := Aside0.mk (blk_drew BK323.out)
                  have n5_ := Aside0.mk (below_drew1 HB.out)
                  clear HO_324000
                  clear HO_324002
                  clear BK314
                  clear BK315
                  clear BK323
                  clear HB
                  have HO_324000 := n0_
                  have HO_324002 := n1_
                  have BK314 := n2_
                  have BK315 := n3_
                  have BK323 := n4_
                  have HB := n5_
                  clear n0_ n1_ n2_ n3_ n4_ n5_
                  refine start_ (n := 7) (S := fun w' => w'.cell? ⟨gb314, 0, none⟩ = some (.slice A0_0 l0_0.length c0_0) ∧ w'.cell? ⟨gb314, 1, none⟩ = some (.int .i64 a0_1) ∧ w'.cell? ⟨gb314, 2, none⟩ = some (.slice A0_2 l0_2.length c0_2)) (ds := []) #[false, false, false, false, false, false, false] (by kernel_rfl) rfl rfl ⟨(blk_cell BK314.out 0).trans rfl, (blk_cell BK314.out 1).trans rfl, (blk_cell BK314.out 2).trans rfl⟩ (fun hHeld => ?_)
                  generalize wc.drew = w54 at HO_324000 HO_324002 BK314 BK315 BK323 HB hHeld ⊢
                  refine pure_ (i := 0) (N := some 45) (v := ?_) (a' := ?_) #[true, false, false, false, false, false, false] rfl rfl (by kernel_rfl) (fun _ _ _ h => h) (Or.inl ⟨by rfl, ?_⟩) ?_ ?_
                  rotate_left
                  · intro w'
                    go_simp
                    with_reducible rfl
                  rotate_left
                  · simp only [Act.put, List.setIfInBounds_toArray, List.set_cons_zero, List.set_cons_succ, i64_w, i32_w]
                    rfl
                  refine take_ (i := 1) (N := some 46) (v := ?_) (a' := ?_) #[true, true, false, false, false, false, false] rfl rfl (by kernel_rfl) (fun _ _ _ h => h) (Or.inl ⟨by rfl, ?_⟩) hHeld ?_ ?_
                  rotate_left
                  · rintro w' ⟨s0, s1, s2⟩
                    go_simp
                    with_reducible rfl
                  rotate_left
                  · simp only [Act.put, List.setIfInBounds_toArray, List.set_cons_zero, List.set_cons_succ, i64_w, i32_w]
                    rfl
                  refine pure_ (i := 2) (N := some 47) (v := ?_) (a' := ?_) #[true, true, true, false, false, false, false] rfl rfl (by kernel_rfl) (fun _ _ _ h => h) (Or.inl ⟨by rfl, ?_⟩) ?_ ?_
                  rotate_left
                  · intro w'
                    go_simp
                    with_reducible rfl
                  rotate_left
                  · simp only [Act.put, List.setIfInBounds_toArray, List.set_cons_zero, List.set_cons_succ, i64_w, i32_w]
                    rfl
                  refine one_ (i := 3) (N := some 48) #[true, true, true, true, false, false, false] rfl rfl (by kernel_rfl) (by decide) (fun K hK => ?_)
                  refine goes_ Try.func76 (by kernel_rfl) rfl #[.int .i64 2] (by rfl) rfl rfl (by (try simp only [List.map_toArray, List.map_cons, List.map_nil]); first | done | rfl | (simp only [List.length_drop, List.length_take]; rfl)) ?_
                  with_reducible refine (impl_LimitOf.calls 2 t326 _ A49.out).mono ?_
                  rintro e w' ⟨rfl, ⟨nd, rfl⟩⟩
                  refine ⟨_, rfl, ?_⟩
                  refine hK.out _ _ ⟨(blk_cell BK314.out 0).trans rfl, (blk_cell BK314.out 1).trans rfl, (blk_cell BK314.out 2).trans rfl⟩ (fun hHeld => ?_)
                  clear hK K
                  refine norm_ (a' := ?_) ?_ ?_
                  rotate_left
                  · show Act.put _ (some 48) _ = _
                    simp only [Act.put, List.setIfInBounds_toArray, List.set_cons_zero, List.set_cons_succ, i64_w, i32_w]
                    rfl
                  refine pure_ (i := 4) (N := some 49) (v := ?_) (a' := ?_) #[true, true, true, true, true, false, false] rfl rfl (by kernel_rfl) (fun _ _ _ h => h) (Or.inl ⟨by rfl, ?_⟩) ?_ ?_
                  rotate_left
                  · intro w'
                    go_simp
                    with_reducible rfl
                  rotate_left
                  · simp only [Act.put, List.setIfInBounds_toArray, List.set_cons_zero, List.set_cons_succ, i64_w, i32_w]
                    rfl
                  refine pure_ (i := 5) (N := some 50) (v := ?_) (a' := ?_) #[true, true, true, true, true, true, false] rfl rfl (by kernel_rfl) (fun _ _ _ h => h) (Or.inl ⟨by rfl, ?_⟩) ?_ ?_
                  rotate_left
                  · intro w'
                    go_simp
                    with_reducible rfl
                  rotate_left
                  · simp only [Act.put, List.setIfInBounds_toArray, List.set_cons_zero, List.set_cons_succ, i64_w, i32_w]
                    rfl
                  refine one_ (i := 6) (N := none) #[true, true, true, true, true, true, true] rfl rfl (by kernel_rfl) (by decide) (fun K hK => ?_)
                  have hs55 : w54.cell? ⟨gb323, 1, none⟩ = some (.int .i64 t319) := (blk_cell BK323.out 1).trans rfl
                  have hfs55 := blk_frozen BK323.out 1
                  have hns55_0 := NB314_323.out
                  have hns55_1 := NB315_323.out
                  have hms55_0 := NB323_314.out
                  have hms55_1 := NB323_315.out
                  refine skip_ (w1 := ?_) (by rfl) rfl ?_ ?_
                  rotate_left
                  · go_simp
                    rfl
                  refine hK.out _ _ ⟨((cell_far (p := ⟨gb323, _, none⟩) NB314_323.out _).trans (hHeld.1)), ((cell_far (p := ⟨gb323, _, none⟩) NB314_323.out _).trans (hHeld.2.1)), ((cell_far (p := ⟨gb323, _, none⟩) NB314_323.out _).trans (hHeld.2.2))⟩ (fun hHeld => ?_)
                  clear hK K
                  refine done_ (by kernel_rfl) ?_
                  have hnb56 := NB323_315.out
                  have hnc56 := NB315_323.out
                  have hcz57_0 : w54.cell? ⟨gb323, 0, none⟩ = some (.slice Ao13 t316.length co13) := (blk_cell BK323.out 0).trans rfl
                  have hcz57_1 : w54.cell? ⟨gb323, 1, none⟩ = some (.int .i64 t319) := (blk_cell BK323.out 1).trans rfl
                  have hcz57_2 : w54.cell? ⟨gb323, 2, none⟩ = some (.slice Ao17 t320.length co17) := (blk_cell BK323.out 2).trans rfl
                  have hfz57_0 := blk_frozen BK323.out 0
                  have hfz57_1 := blk_frozen BK323.out 1
                  have hfz57_2 := blk_frozen BK323.out 2
                  have hcz58_0 : w54.cell? ⟨gb315, 0, none⟩ = some (.slice none 0 0) := (blk_cell BK315.out 0).trans rfl
                  have hcz58_1 : w54.cell? ⟨gb315, 1, none⟩ = some (.int .i64 0) := (blk_cell BK315.out 1).trans rfl
                  have hcz58_2 : w54.cell? ⟨gb315, 2, none⟩ = some (.slice none 0 0) := (blk_cell BK315.out 2).trans rfl
                  have hfz58_0 := blk_frozen BK315.out 0
                  have hfz58_1 := blk_frozen BK315.out 1
                  have hfz58_2 := blk_frozen BK315.out 2
                  try go_wp2
                  refine bodyPost_ret (results_ctt rfl _ _ gb315 26 #[.slice Ao13 t316.length co13, .int .i64 (Int.tmod (wrap64 (a0_1 + 1)) t326), .slice Ao17 t320.length co17] (0, 0) _ rfl (by (with_reducible repeat (first | refine blk_drewN ?_ _ | refine blk_drew ?_ | refine blk_alloc ?_ _)); refine blk_put (cs := #[.slice Ao13 t316.length co13, .int .i64 (Int.tmod (wrap64 (a0_1 + 1)) t326), .slice none 0 0]) ?_ 2 _ rfl; (with_reducible repeat (first | refine blk_drewN ?_ _ | refine blk_drew ?_ | refine blk_alloc ?_ _)); refine blk_put (cs := #[.slice Ao13 t316.length co13, .int .i64 0, .slice none 0 0]) ?_ 1 _ rfl; (with_reducible repeat (first | refine blk_drewN ?_ _ | refine blk_drew ?_ | refine blk_alloc ?_ _)); refine blk_put (cs := #[.slice none 0 0, .int .i64 0, .slice none 0 0]) ?_ 0 _ rfl; (with_reducible repeat (first | refine blk_drewN ?_ _ | refine blk_drew ?_ | refine blk_alloc ?_ _)); refine blk_far ?_ NB315_323.out _; (with_reducible repeat (first | refine blk_drewN ?_ _ | refine blk_drew ?_ | refine blk_alloc ?_ _)); exact BK315.out) Try.underlying26 rfl (by kernel_rfl)) rfl ?_
                  exact ⟨_, _, by first | rfl | (simp [errW_none, errW_some] <;> rfl) | (simp [*, errW_none, errW_some] <;> rfl), by (with_reducible repeat (first | apply Kd.R_alloc | apply Kd.R_drewN | apply Kd.R_drew)); exact Kd.R_mono (Kd.R_far (p := ⟨gb315, 2, none⟩) (Kd.R_far (p := ⟨gb315, 1, none⟩) (Kd.R_far (p := ⟨gb315, 0, none⟩) (Kd.R_far (p := ⟨gb323, 1, none⟩) (Kd.R_types (Kd.R_types HO_324000.out BK323.out (by decide)) BK315.out (by decide)) (fun _ hk => hk.1.2) (.int .i64 (Int.tmod (wrap64 (a0_1 + 1)) t326))) (fun _ hk => hk.2) (.slice Ao13 t316.length co13)) (fun _ hk => hk.2) (.int .i64 (Int.tmod (wrap64 (a0_1 + 1)) t326))) (fun _ hk => hk.2) (.slice Ao17 t320.length co17)) (fun _ hk => hk.1.1), by (with_reducible repeat (first | apply Kd.R_alloc | apply Kd.R_drewN | apply Kd.R_drew)); exact Kd.R_mono (Kd.R_far (p := ⟨gb315, 2, none⟩) (Kd.R_far (p := ⟨gb315, 1, none⟩) (Kd.R_far (p := ⟨gb315, 0, none⟩) (Kd.R_far (p := ⟨gb323, 1, none⟩) (Kd.R_types (Kd.R_types HO_324002.out BK323.out (by decide)) BK315.out (by decide)) (fun _ hk => hk.1.2) (.int .i64 (Int.tmod (wrap64 (a0_1 + 1)) t326))) (fun _ hk => hk.2) (.slice Ao13 t316.length co13)) (fun _ hk => hk.2) (.int .i64 (Int.tmod (wrap64 (a0_1 + 1)) t326))) (fun _ hk => hk.2) (.slice Ao17 t320.length co17)) (fun _ hk => hk.1.1), by repeat (first | (with_reducible first | exact HB.out | apply below_alloc | apply pw_below_drewN | apply below_drew1 | refine below_set ?_ GE314.out | refine below_set ?_ GE315.out | refine below_set ?_ GE323.out) | exact HB.out)⟩
              · rw [if_neg c48] at H
                have c48b0 : (a2 == 16) = false := beq_eq_false_iff_ne.mpr c48
                have c48b1 : (a2 != 16) = true := bne_iff_ne.mpr c48
                have HC59 := Aside0.mk H
                clear H
                go_upto_region 10 with (fail)
                go_cut [51] (fun v51 wc => ∃ (kq : Nat) (x51_58 : Bool), v51 = .bool x51_58 ∧ Aside0 (impl_DevDo.j2 kq a1 a2 a3 x51_58 l0_0 a0_1 l0_2 t316 t319 t320 = some (r1, r2, r3, r4, r5)) ∧ Aside0 (kq ≤ kj39) ∧ Aside0 (Kd.R (Kd.int .i64) 3 wc w.heap.size (fun k_ => some k_ ≠ ((.slice Ao17 t320.length co17) : Value).ownBlock) (.slice Ao13 t316.length co13) t316) ∧ Aside0 (Kd.R (Kd.int .i64) 3 wc w.heap.size (fun k_ => some k_ ≠ ((.slice Ao13 t316.length co13) : Value).ownBlock) (.slice Ao17 t320.length co17) t320) ∧ Aside0 (wc.heap[gb314]? = some (.cells #[(.slice A0_0 l0_0.length c0_0), .int .i64 a0_1, (.slice A0_2 l0_2.length c0_2)] 26 (0, 0))) ∧ Aside0 (wc.heap[gb315]? = some (.cells #[(.slice none 0 0), .int .i64 0, (.slice none 0 0)] 26 (0, 0))) ∧ Aside0 (wc.heap[gb323]? = some (.cells #[(.slice Ao13 t316.length co13), .int .i64 t319, (.slice Ao17 t320.length co17)] 26 (0, 0))) ∧ Aside0 (Below w.heap.size w wc))
                case first =>
                  have H := HC59.out
                  clear HC59
                  by_cases c60 : a2 = 20
                  · rw [if_pos c60] at H
                    have c60b0 : (a2 == 20) = true := beq_iff_eq.mpr c60
                    have c60b1 : (a2 != 20) = false := bne_eq_false_iff_eq.mpr c60
                    clear c60
                    (first | rw [c60b0] | (simp only [i64_w, i32_w]; rw [c60b0]) | skip)
                    by_cases c61 : a1 = true
                    · subst c61
                      have H1 : (impl_DevDo.j2 kj39 true a2 a3 (decide ((l0_2.length : Int) < 4)) l0_0 a0_1 l0_2 t316 t319 t320) = some (r1, r2, r3, r4, r5) := by rw [if_pos rfl] at H; exact H
                      clear H
                      have H := H1
                      clear H1
                      have H' := Aside0.mk H
                      clear H
                      have hnb62 := NB314_315.out
                      have hnc62 := NB315_314.out
                      have hnb63 := NB314_323.out
                      have hnc63 := NB323_314.out
                      have hcz64_0 : wc.cell? ⟨gb314, 0, none⟩ = some (.slice A0_0 l0_0.length c0_0) := (blk_cell BK314.out 0).trans rfl
                      have hcz64_1 : wc.cell? ⟨gb314, 1, none⟩ = some (.int .i64 a0_1) := (blk_cell BK314.out 1).trans rfl
                      have hcz64_2 : wc.cell? ⟨gb314, 2, none⟩ = some (.slice A0_2 l0_2.length c0_2) := (blk_cell BK314.out 2).trans rfl
                      have hfz64_0 := blk_frozen BK314.out 0
                      have hfz64_1 := blk_frozen BK314.out 1
                      have hfz64_2 := blk_frozen BK314.out 2
                      go_wp2
                      go_meet
                      case rel => exact ⟨_, (decide ((l0_2.length : Int) < 4)), (by first | rfl | (simp; done) | (simp [*]; done)), H', ⟨by have := HJ5.out; have := HJ39.out; first | omega | exact Nat.le_refl _⟩, ⟨by (with_reducible repeat (first | apply Kd.R_alloc | apply Kd.R_drewN | apply Kd.R_drew)); exact HO_324000.out⟩, ⟨by (with_reducible repeat (first | apply Kd.R_alloc | apply Kd.R_drewN | apply Kd.R_drew)); exact HO_324002.out⟩, ⟨by (with_reducible repeat (first | refine blk_drewN ?_ _ | refine blk_drew ?_ | refine blk_alloc ?_ _)); exact BK314.out⟩, ⟨by (with_reducible repeat (first | refine blk_drewN ?_ _ | refine blk_drew ?_ | refine blk_alloc ?_ _)); exact BK315.out⟩, ⟨by (with_reducible repeat (first | refine blk_drewN ?_ _ | refine blk_drew ?_ | refine blk_alloc ?_ _)); exact BK323.out⟩, ⟨by repeat (first | (with_reducible first | exact HB.out | apply below_alloc | apply pw_below_drewN | apply below_drew1 | refine below_set ?_ GE314.out | refine below_set ?_ GE315.out | refine below_set ?_ GE323.out) | exact HB.out)⟩⟩
                    · replace c61 := Bool.eq_false_iff.mpr c61
                      subst c61
                      have H1 : (impl_DevDo.j2 kj39 false a2 a3 false l0_0 a0_1 l0_2 t316 t319 t320) = some (r1, r2, r3, r4, r5) := by rw [if_neg (show ¬ (false = true) by decide)] at H; exact H
                      clear H
                      have H := H1
                      clear H1
                      have H' := Aside0.mk H
                      clear H
                      go_wp2
                      go_meet
                      case rel => exact ⟨_, (false), (by first | rfl | (simp; done) | (simp [*]; done)), H', ⟨by have := HJ5.out; have := HJ39.out; first | omega | exact Nat.le_refl _⟩, ⟨by (with_reducible repeat (first | apply Kd.R_alloc | apply Kd.R_drewN | apply Kd.R_drew)); exact HO_324000.out⟩, ⟨by (with_reducible repeat (first | apply Kd.R_alloc | apply Kd.R_drewN | apply Kd.R_drew)); exact HO_324002.out⟩, ⟨by (with_reducible repeat (first | refine blk_drewN ?_ _ | refine blk_drew ?_ | refine blk_alloc ?_ _)); exact BK314.out⟩, ⟨by (with_reducible repeat (first | refine blk_drewN ?_ _ | refine blk_drew ?_ | refine blk_alloc ?_ _)); exact BK315.out⟩, ⟨by (with_reducible repeat (first | refine blk_drewN ?_ _ | refine blk_drew ?_ | refine blk_alloc ?_ _)); exact BK323.out⟩, ⟨by repeat (first | (with_reducible first | exact HB.out | apply below_alloc | apply pw_below_drewN | apply below_drew1 | refine below_set ?_ GE314.out | refine below_set ?_ GE315.out | refine below_set ?_ GE323.out) | exact HB.out)⟩⟩
                  · rw [if_neg c60] at H
                    have c60b0 : (a2 == 20) = false := beq_eq_false_iff_ne.mpr c60
                    have c60b1 : (a2 != 20) = true := bne_iff_ne.mpr c60
                    (first | rw [c60b0] | (simp only [i64_w, i32_w]; rw [c60b0]) | skip)
                    have H' := Aside0.mk H
                    clear H
                    go_wp2
                    go_meet
                    case rel => exact ⟨_, (false), (by first | rfl | (simp; done) | (simp [*]; done)), H', ⟨by have := HJ5.out; have := HJ39.out; first | omega | exact Nat.le_refl _⟩, ⟨by (with_reducible repeat (first | apply Kd.R_alloc | apply Kd.R_drewN | apply Kd.R_drew)); exact HO_324000.out⟩, ⟨by (with_reducible repeat (first | apply Kd.R_alloc | apply Kd.R_drewN | apply Kd.R_drew)); exact HO_324002.out⟩, ⟨by (with_reducible repeat (first | refine blk_drewN ?_ _ | refine blk_drew ?_ | refine blk_alloc ?_ _)); exact BK314.out⟩, ⟨by (with_reducible repeat (first | refine blk_drewN ?_ _ | refine blk_drew ?_ | refine blk_alloc ?_ _)); exact BK315.out⟩, ⟨by (with_reducible repeat (first | refine blk_drewN ?_ _ | refine blk_drew ?_ | refine blk_alloc ?_ _)); exact BK323.out⟩, ⟨by repeat (first | (with_reducible first | exact HB.out | apply below_alloc | apply pw_below_drewN | apply below_drew1 | refine below_set ?_ GE314.out | refine below_set ?_ GE315.out | refine below_set ?_ GE323.out) | exact HB.out)⟩⟩
                case rest =>
                  clear HC59
                  try clear c1
                  try clear c2
                  try clear p2
                  try clear c3
                  try clear c4
                  try clear c5
                  try clear c6
                  try clear p6
                  try clear c7
                  try clear c9
                  try clear c14
                  try clear c15
                  try clear c19
                  try clear c20
                  try clear c22
                  try clear c23
                  try clear c26
                  try clear c27
                  try clear c30
                  try clear c31
                  try clear c34
                  try clear c35
                  try clear c36
                  try clear c37
                  try clear c38
                  try clear c41
                  try clear c41b0
                  try clear c41b1
                  try clear c42
                  try clear c43
                  try clear c44
                  try clear c46
                  try clear c48
                  try clear c48b0
                  try clear c48b1
                  try clear c50
                  try clear c50b0
                  try clear c50b1
                  try clear c51
                  try clear c52
                  try clear c56
                  try clear c60
                  try clear c60b0
                  try clear c60b1
                  try clear c61
                  try clear c62
                  try clear c63
                  try clear p64
                  try clear hcz10_0
                  try clear hcz10_1
                  try clear hcz10_2
                  try clear hcz16_0
                  try clear hcz16_1
                  try clear hcz16_2
                  try clear hcz24_0
                  try clear hcz24_1
                  try clear hcz24_2
                  try clear hcz28_0
                  try clear hcz28_1
                  try clear hcz28_2
                  try clear hcz32_0
                  try clear hcz32_1
                  try clear hcz32_2
                  try clear hcz37_0
                  try clear hcz37_1
                  try clear hcz37_2
                  try clear hcz39_0
                  try clear hcz39_1
                  try clear hcz39_2
                  try clear hcz45_0
                  try clear hcz45_1
                  try clear hcz45_2
                  try clear hcz47_0
                  try clear hcz47_1
                  try clear hcz47_2
                  try clear hcz53_0
                  try clear hcz53_1
                  try clear hcz53_2
                  try clear hcz57_0
                  try clear hcz57_1
                  try clear hcz57_2
                  try clear hcz58_0
                  try clear hcz58_1
                  try clear hcz58_2
                  try clear hcz64_0
                  try clear hcz64_1
                  try clear hcz64_2
                  try clear hfz10_0
                  try clear hfz10_1
                  try clear hfz10_2
                  try clear hfz16_0
                  try clear hfz16_1
                  try clear hfz16_2
                  try clear hfz24_0
                  try clear hfz24_1
                  try clear hfz24_2
                  try clear hfz28_0
                  try clear hfz28_1
                  try clear hfz28_2
                  try clear hfz32_0
                  try clear hfz32_1
                  try clear hfz32_2
                  try clear hfz37_0
                  try clear hfz37_1
                  try clear hfz37_2
                  try clear hfz39_0
                  try clear hfz39_1
                  try clear hfz39_2
                  try clear hfz45_0
                  try clear hfz45_1
                  try clear hfz45_2
                  try clear hfz47_0
                  try clear hfz47_1
                  try clear hfz47_2
                  try clear hfz53_0
                  try clear hfz53_1
                  try clear hfz53_2
                  try clear hfz57_0
                  try clear hfz57_1
                  try clear hfz57_2
                  try clear hfz58_0
                  try clear hfz58_1
                  try clear hfz58_2
                  try clear hfz64_0
                  try clear hfz64_1
                  try clear hfz64_2
                  try clear p2
                  obtain ⟨kq, x51_58, rfl, HA, HJ58, HO_324000, HO_324002, BK314, BK315, BK323, HB⟩ := hcut
                  cases kq with
                  | zero => exact absurd HA.out (by simp [impl_DevDo.j2])
                  | succ kj58 =>
                    have H := HA.out
                    clear HA
                    simp only [impl_DevDo.j2] at H
                    by_cases c65 : x51_58 = true
                    · subst c65
                      have H1 : (if t320.length < 17592186044416 then (some (t316, t319, (t320 ++ [a3]), a3, true)) else (none)) = some (r1, r2, r3, r4, r5) := by rw [if_pos rfl] at H; exact H
                      clear H
                      have H := H1
                      clear H1
                      by_cases c66 : t320.length < 17592186044416
                      · rw [if_pos c66] at H
                        have LMc66 := Aside0.mk c66
                        clear c66
                        obtain ⟨y327, hy327⟩ : ∃ y_ : List Int, y_ = (t320 ++ [a3]) := ⟨_, rfl⟩
                        replace H : (some (t316, t319, y327, a3, true)) = some (r1, r2, r3, r4, r5) := by first | (rw [hy327]; with_reducible exact H) | (have H2_ := (Option.bind_some _ _).symm.trans H; rw [hy327]; with_reducible exact H2_) | (have H2_ := (Option.bind_some _ _).symm.trans H; with_reducible exact H2_) | with_reducible exact H | (rw [hy327]; exact H) | exact H
                        have Ny327 := Aside0.mk hy327
                        clear hy327
                        simp only [Option.some.injEq, Prod.mk.injEq] at H
                        obtain ⟨rfl, rfl, rfl, rfl, rfl⟩ := H
                        have hnb67 := NB323_314.out
                        have hnc67 := NB314_323.out
                        have hnb68 := NB323_315.out
                        have hnc68 := NB315_323.out
                        have hcz69_0 : wc.cell? ⟨gb323, 0, none⟩ = some (.slice Ao13 t316.length co13) := (blk_cell BK323.out 0).trans rfl
                        have hcz69_1 : wc.cell? ⟨gb323, 1, none⟩ = some (.int .i64 t319) := (blk_cell BK323.out 1).trans rfl
                        have hcz69_2 : wc.cell? ⟨gb323, 2, none⟩ = some (.slice Ao17 t320.length co17) := (blk_cell BK323.out 2).trans rfl
                        have hfz69_0 := blk_frozen BK323.out 0
                        have hfz69_1 := blk_frozen BK323.out 1
                        have hfz69_2 := blk_frozen BK323.out 2
                        go_wp2_with (first | ((with_reducible refine gate_builtin (b := .append) (xs := #[.tmp 64, .tmp 66]) rfl ?_); (try (refine gate_guard (by rfl) ?_; dsimp only)); at_builtin; refine Kd.R_append (Kd.int .i64) (w0 := w) w.heap.size rfl (.tmp 64) (.tmp 66) 24 3 (.int .i64 0) 8 rfl Try.underlying24 info3 rfl (by decide) (by omega) (.slice Ao17 t320.length co17) t320 a3 [.int .i64 a3] (fun k_ => some k_ ≠ (.slice Ao13 t316.length co13 : Value).ownBlock) (fun _ => False) rfl rfl ?aP (fun _ hk => hk.elim) ?aF ?aO ?aB ?aS ?aL ?_; (case aP => exact rfl); (case aB => exact (by repeat (first | (with_reducible first | exact HB.out | apply below_alloc | apply pw_below_drewN | apply below_drew1 | refine below_set ?_ GE314.out | refine below_set ?_ GE315.out | refine below_set ?_ GE323.out) | exact HB.out))); (case aF => exact (fun k_ hk => Kd.fresh' (Kd.R_lt (by (with_reducible repeat (first | apply Kd.R_alloc | apply Kd.R_drewN | apply Kd.R_drew)); exact HO_324000.out)) k_ hk)); (case aO => exact (by (with_reducible repeat (first | apply Kd.R_alloc | apply Kd.R_drewN | apply Kd.R_drew)); exact HO_324002.out)); (case aS => exact (below_size (by repeat (first | (with_reducible first | exact HB.out | apply below_alloc | apply pw_below_drewN | apply below_drew1 | refine below_set ?_ GE314.out | refine below_set ?_ GE315.out | refine below_set ?_ GE323.out) | exact HB.out)))); (case aL => have := LMc66.out; omega); intro v328 w70 ho hb hg hat; rw [← Ny327.out] at ho; have n0_ := Aside0.mk (Kd.R_after (ok := (fun _ => True)) (by (with_reducible repeat (first | apply Kd.R_alloc | apply Kd.R_drewN | apply Kd.R_drew)); exact Kd.R_mono HO_324000.out (fun _ hk => ⟨trivial, hk⟩)) hg hat); have n1_ := Aside0.mk (blk_grown (g := gb314) (o := .cells #[.slice A0_0 l0_0.length c0_0, .int .i64 a0_1, .slice A0_2 l0_2.length c0_2] 26 (0, 0)) (by (with_reducible repeat (first | refine blk_drewN ?_ _ | refine blk_drew ?_ | refine blk_alloc ?_ _)); exact BK314.out) hg (Kd.R_ne HO_324002.out BK314.out (by decide))); have n2_ := Aside0.mk (blk_grown (g := gb315) (o := .cells #[.slice none 0 0, .int .i64 0, .slice none 0 0] 26 (0, 0)) (by (with_reducible repeat (first | refine blk_drewN ?_ _ | refine blk_drew ?_ | refine blk_alloc ?_ _)); exact BK315.out) hg (Kd.R_ne HO_324002.out BK315.out (by decide))); have n3_ := Aside0.mk (blk_grown (g := gb323) (o := .cells #[.slice Ao13 t316.length co13, .int .i64 t319, .slice Ao17 t320.length co17] 26 (0, 0)) (by (with_reducible repeat (first | refine blk_drewN ?_ _ | refine blk_drew ?_ | refine blk_alloc ?_ _)); exact BK323.out) hg (Kd.R_ne HO_324002.out BK323.out (by decide))); have n4_ := Aside0.mk (hb); have n5_ := Aside0.mk (ho); clear HO_324000; clear BK314; clear BK315; clear BK323; clear HB; clear HO_324002; have HO_324000 := n0_; have BK314 := n1_; have BK315 := n2_; have BK323 := n3_; have HB := n4_; have HO329 := n5_; clear n0_ n1_ n2_ n3_ n4_ n5_; clear ho hb hg hat; obtain ⟨Ao71, co71, eo71⟩ := Kd.R_slice HO329.out; subst eo71; have hcz72_0 : w70.cell? ⟨gb323, 0, none⟩ = some (.slice Ao13 t316.length co13) := (blk_cell BK323.out 0).trans rfl; have hcz72_1 : w70.cell? ⟨gb323, 1, none⟩ = some (.int .i64 t319) := (blk_cell BK323.out 1).trans rfl; have hcz72_2 : w70.cell? ⟨gb323, 2, none⟩ = some (.slice Ao17 t320.length co17) := (blk_cell BK323.out 2).trans rfl; have hfz72_0 := blk_frozen BK323.out 0; have hfz72_1 := blk_frozen BK323.out 1; have hfz72_2 := blk_frozen BK323.out 2; have hnb73 := NB315_314.out; have hnc73 := NB314_315.out; have hcz74_0 : w70.cell? ⟨gb315, 0, none⟩ = some (.slice none 0 0) := (blk_cell BK315.out 0).trans rfl; have hcz74_1 : w70.cell? ⟨gb315, 1, none⟩ = some (.int .i64 0) := (blk_cell BK315.out 1).trans rfl; have hcz74_2 : w70.cell? ⟨gb315, 2, none⟩ = some (.slice none 0 0) := (blk_cell BK315.out 2).trans rfl; have hfz74_0 := blk_frozen BK315.out 0; have hfz74_1 := blk_frozen BK315.out 1; have hfz74_2 := blk_frozen BK315.out 2))
                        refine bodyPost_ret (results_ctt rfl _ _ gb315 26 #[.slice Ao13 t316.length co13, .int .i64 t319, .slice Ao71 y327.length co71] (0, 0) _ rfl (by (with_reducible repeat (first | refine blk_drewN ?_ _ | refine blk_drew ?_ | refine blk_alloc ?_ _)); refine blk_put (cs := #[.slice Ao13 t316.length co13, .int .i64 t319, .slice none 0 0]) ?_ 2 _ rfl; (with_reducible repeat (first | refine blk_drewN ?_ _ | refine blk_drew ?_ | refine blk_alloc ?_ _)); refine blk_put (cs := #[.slice Ao13 t316.length co13, .int .i64 0, .slice none 0 0]) ?_ 1 _ rfl; (with_reducible repeat (first | refine blk_drewN ?_ _ | refine blk_drew ?_ | refine blk_alloc ?_ _)); refine blk_put (cs := #[.slice none 0 0, .int .i64 0, .slice none 0 0]) ?_ 0 _ rfl; (with_reducible repeat (first | refine blk_drewN ?_ _ | refine blk_drew ?_ | refine blk_alloc ?_ _)); refine blk_far ?_ NB315_323.out _; (with_reducible repeat (first | refine blk_drewN ?_ _ | refine blk_drew ?_ | refine blk_alloc ?_ _)); exact BK315.out) Try.underlying26 rfl (by kernel_rfl)) rfl ?_
                        exact ⟨_, _, by first | rfl | (simp [errW_none, errW_some] <;> rfl) | (simp [*, errW_none, errW_some] <;> rfl), by (with_reducible repeat (first | apply Kd.R_alloc | apply Kd.R_drewN | apply Kd.R_drew)); exact Kd.R_mono (Kd.R_far (p := ⟨gb315, 2, none⟩) (Kd.R_far (p := ⟨gb315, 1, none⟩) (Kd.R_far (p := ⟨gb315, 0, none⟩) (Kd.R_far (p := ⟨gb323, 2, none⟩) (Kd.R_types (Kd.R_types HO_324000.out BK323.out (by decide)) BK315.out (by decide)) (fun _ hk => hk.1.2) (.slice Ao71 y327.length co71)) (fun _ hk => hk.2) (.slice Ao13 t316.length co13)) (fun _ hk => hk.2) (.int .i64 t319)) (fun _ hk => hk.2) (.slice Ao71 y327.length co71)) (fun _ hk => hk.1.1.2), by (with_reducible repeat (first | apply Kd.R_alloc | apply Kd.R_drewN | apply Kd.R_drew)); exact Kd.R_mono (Kd.R_far (p := ⟨gb315, 2, none⟩) (Kd.R_far (p := ⟨gb315, 1, none⟩) (Kd.R_far (p := ⟨gb315, 0, none⟩) (Kd.R_far (p := ⟨gb323, 2, none⟩) (Kd.R_types (Kd.R_types HO329.out BK323.out (by decide)) BK315.out (by decide)) (fun _ hk => hk.1.2) (.slice Ao71 y327.length co71)) (fun _ hk => hk.2) (.slice Ao13 t316.length co13)) (fun _ hk => hk.2) (.int .i64 t319)) (fun _ hk => hk.2) (.slice Ao71 y327.length co71)) (fun _ hk => hk.1.1), by repeat (first | (with_reducible first | exact HB.out | apply below_alloc | apply pw_below_drewN | apply below_drew1 | refine below_set ?_ GE314.out | refine below_set ?_ GE315.out | refine below_set ?_ GE323.out) | exact HB.out)⟩
                      · rw [if_neg c66] at H
                        exact absurd H (by simp)
                    · replace c65 := Bool.eq_false_iff.mpr c65
                      subst c65
                      have H1 : (if a2 = 20 then (if a1 = true then (impl_DevDo.j3 kj58 a1 a2 a3 false l0_0 a0_1 l0_2 t316 t319 t320) else (impl_DevDo.j3 kj58 a1 a2 a3 (decide ((l0_2.length : Int) > 0)) l0_0 a0_1 l0_2 t316 t319 t320)) else (impl_DevDo.j3 kj58 a1 a2 a3 false l0_0 a0_1 l0_2 t316 t319 t320)) = some (r1, r2, r3, r4, r5) := by rw [if_neg (show ¬ (false = true) by decide)] at H; exact H
                      clear H
                      have H := H1
                      clear H1
                      have HC75 := Aside0.mk H
                      clear H
                      go_upto_region 12 with (fail)
                      go_cut [69] (fun v69 wc => ∃ (kq : Nat) (x69_74 : Bool), v69 = .bool x69_74 ∧ Aside0 (impl_DevDo.j3 kq a1 a2 a3 x69_74 l0_0 a0_1 l0_2 t316 t319 t320 = some (r1, r2, r3, r4, r5)) ∧ Aside0 (kq ≤ kj58) ∧ Aside0 (Kd.R (Kd.int .i64) 3 wc w.heap.size (fun k_ => some k_ ≠ ((.slice Ao17 t320.length co17) : Value).ownBlock) (.slice Ao13 t316.length co13) t316) ∧ Aside0 (Kd.R (Kd.int .i64) 3 wc w.heap.size (fun k_ => some k_ ≠ ((.slice Ao13 t316.length co13) : Value).ownBlock) (.slice Ao17 t320.length co17) t320) ∧ Aside0 (wc.heap[gb314]? = some (.cells #[(.slice A0_0 l0_0.length c0_0), .int .i64 a0_1, (.slice A0_2 l0_2.length c0_2)] 26 (0, 0))) ∧ Aside0 (wc.heap[gb315]? = some (.cells #[(.slice none 0 0), .int .i64 0, (.slice none 0 0)] 26 (0, 0))) ∧ Aside0 (wc.heap[gb323]? = some (.cells #[(.slice Ao13 t316.length co13), .int .i64 t319, (.slice Ao17 t320.length co17)] 26 (0, 0))) ∧ Aside0 (Below w.heap.size w wc))
                      case first =>
                        have H := HC75.out
                        clear HC75
                        by_cases c76 : a2 = 20
                        · rw [if_pos c76] at H
                          have c76b0 : (a2 == 20) = true := beq_iff_eq.mpr c76
                          have c76b1 : (a2 != 20) = false := bne_eq_false_iff_eq.mpr c76
                          clear c76
                          (first | rw [c76b0] | (simp only [i64_w, i32_w]; rw [c76b0]) | skip)
                          by_cases c77 : a1 = true
                          · subst c77
                            have H1 : (impl_DevDo.j3 kj58 true a2 a3 false l0_0 a0_1 l0_2 t316 t319 t320) = some (r1, r2, r3, r4, r5) := by rw [if_pos rfl] at H; exact H
                            clear H
                            have H := H1
                            clear H1
                            have H' := Aside0.mk H
                            clear H
                            go_wp2
                            go_meet
                            case rel => exact ⟨_, (false), (by first | rfl | (simp; done) | (simp [*]; done)), H', ⟨by have := HJ5.out; have := HJ39.out; have := HJ58.out; first | omega | exact Nat.le_refl _⟩, ⟨by (with_reducible repeat (first | apply Kd.R_alloc | apply Kd.R_drewN | apply Kd.R_drew)); exact HO_324000.out⟩, ⟨by (with_reducible repeat (first | apply Kd.R_alloc | apply Kd.R_drewN | apply Kd.R_drew)); exact HO_324002.out⟩, ⟨by (with_reducible repeat (first | refine blk_drewN ?_ _ | refine blk_drew ?_ | refine blk_alloc ?_ _)); exact BK314.out⟩, ⟨by (with_reducible repeat (first | refine blk_drewN ?_ _ | refine blk_drew ?_ | refine blk_alloc ?_ _)); exact BK315.out⟩, ⟨by (with_reducible repeat (first | refine blk_drewN ?_ _ | refine blk_drew ?_ | refine blk_alloc ?_ _)); exact BK323.out⟩, ⟨by repeat (first | (with_reducible first | exact HB.out | apply below_alloc | apply pw_below_drewN | apply below_drew1 | refine below_set ?_ GE314.out | refine below_set ?_ GE315.out | refine below_set ?_ GE323.out) | exact HB.out)⟩⟩
                          · replace c77 := Bool.eq_false_iff.mpr c77
                            subst c77
                            have H1 : (impl_DevDo.j3 kj58 false a2 a3 (decide ((l0_2.length : Int) > 0)) l0_0 a0_1 l0_2 t316 t319 t320) = some (r1, r2, r3, r4, r5) := by rw [if_neg (show ¬ (false = true) by decide)] at H; exact H
                            clear H
                            have H := H1
                            clear H1
                            have H' := Aside0.mk H
                            clear H
                            have hnb78 := NB314_315.out
                            have hnc78 := NB315_314.out
                            have hnb79 := NB314_323.out
                            have hnc79 := NB323_314.out
                            have hcz80_0 : wc.cell? ⟨gb314, 0, none⟩ = some (.slice A0_0 l0_0.length c0_0) := (blk_cell BK314.out 0).trans rfl
                            have hcz80_1 : wc.cell? ⟨gb314, 1, none⟩ = some (.int .i64 a0_1) := (blk_cell BK314.out 1).trans rfl
                            have hcz80_2 : wc.cell? ⟨gb314, 2, none⟩ = some (.slice A0_2 l0_2.length c0_2) := (blk_cell BK314.out 2).trans rfl
                            have hfz80_0 := blk_frozen BK314.out 0
                            have hfz80_1 := blk_frozen BK314.out 1
                            have hfz80_2 := blk_frozen BK314.out 2
                            go_wp2
                            go_meet
                            case rel => exact ⟨_, (decide ((l0_2.length : Int) > 0)), (by first | rfl | (simp; done) | (simp [*]; done)), H', ⟨by have := HJ5.out; have := HJ39.out; have := HJ58.out; first | omega | exact Nat.le_refl _⟩, ⟨by (with_reducible repeat (first | apply Kd.R_alloc | apply Kd.R_drewN | apply Kd.R_drew)); exact HO_324000.out⟩, ⟨by (with_reducible repeat (first | apply Kd.R_alloc | apply Kd.R_drewN | apply Kd.R_drew)); exact HO_324002.out⟩, ⟨by (with_reducible repeat (first | refine blk_drewN ?_ _ | refine blk_drew ?_ | refine blk_alloc ?_ _)); exact BK314.out⟩, ⟨by (with_reducible repeat (first | refine blk_drewN ?_ _ | refine blk_drew ?_ | refine blk_alloc ?_ _)); exact BK315.out⟩, ⟨by (with_reducible repeat (first | refine blk_drewN ?_ _ | refine blk_drew ?_ | refine blk_alloc ?_ _)); exact BK323.out⟩, ⟨by repeat (first | (with_reducible first | exact HB.out | apply below_alloc | apply pw_below_drewN | apply below_drew1 | refine below_set ?_ GE314.out | refine below_set ?_ GE315.out | refine below_set ?_ GE323.out) | exact HB.out)⟩⟩
                        · rw [if_neg c76] at H
                          have c76b0 : (a2 == 20) = false := beq_eq_false_iff_ne.mpr c76
                          have c76b1 : (a2 != 20) = true := bne_iff_ne.mpr c76
                          (first | rw [c76b0] | (simp only [i64_w, i32_w]; rw [c76b0]) | skip)
                          have H' := Aside0.mk H
                          clear H
                          go_wp2
                          go_meet
                          case rel => exact ⟨_, (false), (by first | rfl | (simp; done) | (simp [*]; done)), H', ⟨by have := HJ5.out; have := HJ39.out; have := HJ58.out; first | omega | exact Nat.le_refl _⟩, ⟨by (with_reducible repeat (first | apply Kd.R_alloc | apply Kd.R_drewN | apply Kd.R_drew)); exact HO_324000.out⟩, ⟨by (with_reducible repeat (first | apply Kd.R_alloc | apply Kd.R_drewN | apply Kd.R_drew)); exact HO_324002.out⟩, ⟨by (with_reducible repeat (first | refine blk_drewN ?_ _ | refine blk_drew ?_ | refine blk_alloc ?_ _)); exact BK314.out⟩, ⟨by (with_reducible repeat (first | refine blk_drewN ?_ _ | refine blk_drew ?_ | refine blk_alloc ?_ _)); exact BK315.out⟩, ⟨by (with_reducible repeat (first | refine blk_drewN ?_ _ | refine blk_drew ?_ | refine blk_alloc ?_ _)); exact BK323.out⟩, ⟨by repeat (first | (with_reducible first | exact HB.out | apply below_alloc | apply pw_below_drewN | apply below_drew1 | refine below_set ?_ GE314.out | refine below_set ?_ GE315.out | refine below_set ?_ GE323.out) | exact HB.out)⟩⟩
                      case rest =>
                        clear HC75
                        try clear c1
                        try clear c2
                        try clear p2
                        try clear c3
                        try clear c4
                        try clear c5
                        try clear c6
                        try clear p6
                        try clear c7
                        try clear c9
                        try clear c14
                        try clear c15
                        try clear c19
                        try clear c20
                        try clear c22
                        try clear c23
                        try clear c26
                        try clear c27
                        try clear c30
                        try clear c31
                        try clear c34
                        try clear c35
                        try clear c36
                        try clear c37
                        try clear c38
                        try clear c41
                        try clear c41b0
                        try clear c41b1
                        try clear c42
                        try clear c43
                        try clear c44
                        try clear c46
                        try clear c48
                        try clear c48b0
                        try clear c48b1
                        try clear c50
                        try clear c50b0
                        try clear c50b1
                        try clear c51
                        try clear c52
                        try clear c56
                        try clear c60
                        try clear c60b0
                        try clear c60b1
                        try clear c61
                        try clear c62
                        try clear c63
                        try clear p64
                        try clear c65
                        try clear c66
                        try clear c67
                        try clear c68
                        try clear c73
                        try clear c76
                        try clear c76b0
                        try clear c76b1
                        try clear c77
                        try clear c78
                        try clear c79
                        try clear hcz10_0
                        try clear hcz10_1
                        try clear hcz10_2
                        try clear hcz16_0
                        try clear hcz16_1
                        try clear hcz16_2
                        try clear hcz24_0
                        try clear hcz24_1
                        try clear hcz24_2
                        try clear hcz28_0
                        try clear hcz28_1
                        try clear hcz28_2
                        try clear hcz32_0
                        try clear hcz32_1
                        try clear hcz32_2
                        try clear hcz37_0
                        try clear hcz37_1
                        try clear hcz37_2
                        try clear hcz39_0
                        try clear hcz39_1
                        try clear hcz39_2
                        try clear hcz45_0
                        try clear hcz45_1
                        try clear hcz45_2
                        try clear hcz47_0
                        try clear hcz47_1
                        try clear hcz47_2
                        try clear hcz53_0
                        try clear hcz53_1
                        try clear hcz53_2
                        try clear hcz57_0
                        try clear hcz57_1
                        try clear hcz57_2
                        try clear hcz58_0
                        try clear hcz58_1
                        try clear hcz58_2
                        try clear hcz64_0
                        try clear hcz64_1
                        try clear hcz64_2
                        try clear hcz69_0
                        try clear hcz69_1
                        try clear hcz69_2
                        try clear hcz72_0
                        try clear hcz72_1
                        try clear hcz72_2
                        try clear hcz74_0
                        try clear hcz74_1
                        try clear hcz74_2
                        try clear hcz80_0
                        try clear hcz80_1
                        try clear hcz80_2
                        try clear hfz10_0
                        try clear hfz10_1
                        try clear hfz10_2
                        try clear hfz16_0
                        try clear hfz16_1
                        try clear hfz16_2
                        try clear hfz24_0
                        try clear hfz24_1
                        try clear hfz24_2
                        try clear hfz28_0
                        try clear hfz28_1
                        try clear hfz28_2
                        try clear hfz32_0
                        try clear hfz32_1
                        try clear hfz32_2
                        try clear hfz37_0
                        try clear hfz37_1
                        try clear hfz37_2
                        try clear hfz39_0
                        try clear hfz39_1
                        try clear hfz39_2
                        try clear hfz45_0
                        try clear hfz45_1
                        try clear hfz45_2
                        try clear hfz47_0
                        try clear hfz47_1
                        try clear hfz47_2
                        try clear hfz53_0
                        try clear hfz53_1
                        try clear hfz53_2
                        try clear hfz57_0
                        try clear hfz57_1
                        try clear hfz57_2
                        try clear hfz58_0
                        try clear hfz58_1
                        try clear hfz58_2
                        try clear hfz64_0
                        try clear hfz64_1
                        try clear hfz64_2
                        try clear hfz69_0
                        try clear hfz69_1
                        try clear hfz69_2
                        try clear hfz72_0
                        try clear hfz72_1
                        try clear hfz72_2
                        try clear hfz74_0
                        try clear hfz74_1
                        try clear hfz74_2
                        try clear hfz80_0
                        try clear hfz80_1
                        try clear hfz80_2
                        try clear p2
                        try clear p6
                        try clear p64
                        obtain ⟨kq, x69_74, rfl, HA, HJ74, HO_324000, HO_324002, BK314, BK315, BK323, HB⟩ := hcut
                        cases kq with
                        | zero => exact absurd HA.out (by simp [impl_DevDo.j3])
                        | succ kj74 =>
                          have H := HA.out
                          clear HA
                          simp only [impl_DevDo.j3] at H
                          by_cases c81 : x69_74 = true
                          · subst c81
                            have H1 : (if 0 < (l0_2.length : Int) then (if 1 ≤ (l0_2.length : Int) then ((slices_Clone_int_int.f (l0_2.drop 1)).bind fun t332 => (some (t316, t319, t332, rd l0_2 0, true))) else (none)) else (none)) = some (r1, r2, r3, r4, r5) := by rw [if_pos rfl] at H; exact H
                            clear H
                            have H := H1
                            clear H1
                            by_cases c82 : 0 < (l0_2.length : Int)
                            · rw [if_pos c82] at H
                              have c82b0 : decide (0 < (l0_2.length : Int)) = true := decide_eq_true c82
                              have c82b1 : decide (0 < l0_2.length) = true := decide_eq_true (by omega)
                              clear c82
                              by_cases c83 : 1 ≤ (l0_2.length : Int)
                              · rw [if_pos c83] at H
                                have c83b0 := eq_true c83
                                have c83b1 : decide (1 ≤ (l0_2.length : Int)) = true := decide_eq_true c83
                                clear c83
                                replace H := Option.bind_eq_some_iff.mp H
                                obtain ⟨t332, A840, H⟩ := H
                                replace H : (some (t316, t319, t332, rd l0_2 0, true)) = some (r1, r2, r3, r4, r5) := H
                                have A84 := Aside0.mk A840
                                clear A840
                                simp only [Option.some.injEq, Prod.mk.injEq] at H
                                obtain ⟨rfl, rfl, rfl, rfl, rfl⟩ := H
                                have hnb85 := NB314_315.out
                                have hnc85 := NB315_314.out
                                have hnb86 := NB314_323.out
                                have hnc86 := NB323_314.out
                                have hcz87_0 : wc.cell? ⟨gb314, 0, none⟩ = some (.slice A0_0 l0_0.length c0_0) := (blk_cell BK314.out 0).trans rfl
                                have hcz87_1 : wc.cell? ⟨gb314, 1, none⟩ = some (.int .i64 a0_1) := (blk_cell BK314.out 1).trans rfl
                                have hcz87_2 : wc.cell? ⟨gb314, 2, none⟩ = some (.slice A0_2 l0_2.length c0_2) := (blk_cell BK314.out 2).trans rfl
                                have hfz87_0 := blk_frozen BK314.out 0
                                have hfz87_1 := blk_frozen BK314.out 1
                                have hfz87_2 := blk_frozen BK314.out 2
                                have p330 : 0 ≤ (0 : Int) := (by omega)
                                have q330 : 0 < (l0_2.length : Int) := of_decide_eq_true (by first | (with_reducible assumption) | assumption)
                                obtain ⟨ad330, e330, hx330_0⟩ := Kd.at_int HR0_2.out 0 p330 q330
                                cases e330
                                have qi330 : (0 < l0_2.length) = True := eq_true (by omega)
                                (try rw [show ((0 : Int)).toNat = 0 from rfl] at hx330_0)
                                (try rw [Addr.add_zero'] at hx330_0)
                                replace hx330_0 := (HB.out.cell (World.block_lt_of_cell? w _ hx330_0)).trans hx330_0
                                replace p330 := eq_true p330
                                replace q330 := eq_true q330
                                obtain ⟨i088, hi088, _, hsz88, _⟩ := info_parts info3
                                obtain ⟨A88, hcut88, hA88, hC88⟩ := print_drop_of (P := Try.prog) (Value.int .i64) 0 24 3 .i64 Try.underlying24 hi088 hsz88 (some ad330) c0_2 l0_2 1 (by omega) (of_decide_eq_true (by first | (with_reducible assumption) | assumption)) HC0_2.out
                                have HR331 := Aside0.mk (Kd.C_of_reads (h1 := fun _ => rfl) (hA88 _ (Kd.reads_of_C HR0_2.out)))
                                have HC331 := Aside0.mk hC88
                                clear hA88 hC88 hi088 hsz88
                                go_wp2_with (first | ((with_reducible refine gate_callee (f := 77) rfl ?_); refine goesL_ (some 89) rfl rfl Try.func77 (by kernel_rfl) rfl #[.slice A88 (l0_2.drop 1).length (c0_2 - 1)] rfl (by (try simp only [List.map_toArray, List.map_cons, List.map_nil]); first | done | (rw [show (l0_2.drop 1).length = (l0_2.length - 1) from List.length_drop] <;> rfl) | rfl | (simp only [List.length_drop, List.length_take]; rfl)) ?_; (with_reducible refine (slices_Clone_int_int.calls _ _ (l0_2.drop 1) t332 _ ?side1 ?side2 A84.out).mono ?_); (case side1 => repeat (first | exact (Kd.C_below HR331.out HB.out) | (with_reducible refine Kd.C_alloc ?_ _) | (with_reducible refine Kd.C_drewN ?_ _) | (with_reducible refine Kd.C_drew ?_))); (case side2 => exact HC331.out); rintro e w89 ⟨v333, rfl, ho0, hb⟩; refine ⟨_, rfl, ?_⟩; have n0_ := Aside0.mk (Kd.R_elder' (by (with_reducible repeat (first | apply Kd.R_alloc | apply Kd.R_drewN | apply Kd.R_drew)); exact HO_324000.out) (Kd.R_base ho0) hb); have n1_ := Aside0.mk (Kd.R_elder' (by (with_reducible repeat (first | apply Kd.R_alloc | apply Kd.R_drewN | apply Kd.R_drew)); exact HO_324002.out) (Kd.R_base ho0) hb); have n2_ := Aside0.mk (Kd.R_lower (Kd.R_new' (Kd.R_new' ho0 (Kd.R_lt (by (with_reducible repeat (first | apply Kd.R_alloc | apply Kd.R_drewN | apply Kd.R_drew)); exact HO_324000.out))) (Kd.R_lt (by (with_reducible repeat (first | apply Kd.R_alloc | apply Kd.R_drewN | apply Kd.R_drew)); exact HO_324002.out))) (below_size (by repeat (first | (with_reducible first | exact HB.out | apply below_alloc | apply pw_below_drewN | apply below_drew1 | refine below_set ?_ GE314.out | refine below_set ?_ GE315.out | refine below_set ?_ GE323.out) | exact HB.out)))); have n3_ := Aside0.mk (blk_below (g := gb314) (o := .cells #[.slice A0_0 l0_0.length c0_0, .int .i64 a0_1, .slice (some ad330) l0_2.length c0_2] 26 (0, 0)) (by (with_reducible repeat (first | refine blk_drewN ?_ _ | refine blk_drew ?_ | refine blk_alloc ?_ _)); exact BK314.out) hb); have n4_ := Aside0.mk (blk_below (g := gb315) (o := .cells #[.slice none 0 0, .int .i64 0, .slice none 0 0] 26 (0, 0)) (by (with_reducible repeat (first | refine blk_drewN ?_ _ | refine blk_drew ?_ | refine blk_alloc ?_ _)); exact BK315.out) hb); have n5_ := Aside0.mk (blk_below (g := gb323) (o := .cells #[.slice Ao13 t316.length co13, .int .i64 t319, .slice Ao17 t320.length co17] 26 (0, 0)) (by (with_reducible repeat (first | refine blk_drewN ?_ _ | refine blk_drew ?_ | refine blk_alloc ?_ _)); exact BK323.out) hb); have n6_ := Aside0.mk (below_step (by repeat (first | (with_reducible first | exact HB.out | apply below_alloc | apply pw_below_drewN | apply below_drew1 | refine below_set ?_ GE314.out | refine below_set ?_ GE315.out | refine below_set ?_ GE323.out) | exact HB.out)) hb); clear HO_324000; clear HO_324002; clear BK314; clear BK315; clear BK323; clear HB; have HO_324000 := n0_; have HO_324002 := n1_; have HO334 := n2_; have BK314 := n3_; have BK315 := n4_; have BK323 := n5_; have HB := n6_; clear n0_ n1_ n2_ n3_ n4_ n5_ n6_; (try clear hb); (try clear hb2); (try clear hk); (try clear hi); (try clear ho0); obtain ⟨Ao90, co90, eo90⟩ := Kd.R_slice HO334.out; subst eo90; have hnb91 := NB323_315.out; have hnc91 := NB315_323.out; have hcz92_0 : w89.cell? ⟨gb323, 0, none⟩ = some (.slice Ao13 t316.length co13) := (blk_cell BK323.out 0).trans rfl; have hcz92_1 : w89.cell? ⟨gb323, 1, none⟩ = some (.int .i64 t319) := (blk_cell BK323.out 1).trans rfl; have hcz92_2 : w89.cell? ⟨gb323, 2, none⟩ = some (.slice Ao17 t320.length co17) := (blk_cell BK323.out 2).trans rfl; have hfz92_0 := blk_frozen BK323.out 0; have hfz92_1 := blk_frozen BK323.out 1; have hfz92_2 := blk_frozen BK323.out 2; have hcz93_0 : w89.cell? ⟨gb315, 0, none⟩ = some (.slice none 0 0) := (blk_cell BK315.out 0).trans rfl; have hcz93_1 : w89.cell? ⟨gb315, 1, none⟩ = some (.int .i64 0) := (blk_cell BK315.out 1).trans rfl; have hcz93_2 : w89.cell? ⟨gb315, 2, none⟩ = some (.slice none 0 0) := (blk_cell BK315.out 2).trans rfl; have hfz93_0 := blk_frozen BK315.out 0; have hfz93_1 := blk_frozen BK315.out 1; have hfz93_2 := blk_frozen BK315.out 2))
                                refine bodyPost_ret (results_ctt rfl _ _ gb315 26 #[.slice Ao13 t316.length co13, .int .i64 t319, .slice Ao90 t332.length co90] (0, 0) _ rfl (by (with_reducible repeat (first | refine blk_drewN ?_ _ | refine blk_drew ?_ | refine blk_alloc ?_ _)); refine blk_put (cs := #[.slice Ao13 t316.length co13, .int .i64 t319, .slice none 0 0]) ?_ 2 _ rfl; (with_reducible repeat (first | refine blk_drewN ?_ _ | refine blk_drew ?_ | refine blk_alloc ?_ _)); refine blk_put (cs := #[.slice Ao13 t316.length co13, .int .i64 0, .slice none 0 0]) ?_ 1 _ rfl; (with_reducible repeat (first | refine blk_drewN ?_ _ | refine blk_drew ?_ | refine blk_alloc ?_ _)); refine blk_put (cs := #[.slice none 0 0, .int .i64 0, .slice none 0 0]) ?_ 0 _ rfl; (with_reducible repeat (first | refine blk_drewN ?_ _ | refine blk_drew ?_ | refine blk_alloc ?_ _)); refine blk_far ?_ NB315_323.out _; (with_reducible repeat (first | refine blk_drewN ?_ _ | refine blk_drew ?_ | refine blk_alloc ?_ _)); exact BK315.out) Try.underlying26 rfl (by kernel_rfl)) rfl ?_
                                exact ⟨_, _, by first | rfl | (simp [errW_none, errW_some] <;> rfl) | (simp [*, errW_none, errW_some] <;> rfl), by (with_reducible repeat (first | apply Kd.R_alloc | apply Kd.R_drewN | apply Kd.R_drew)); exact Kd.R_mono (Kd.R_far (p := ⟨gb315, 2, none⟩) (Kd.R_far (p := ⟨gb315, 1, none⟩) (Kd.R_far (p := ⟨gb315, 0, none⟩) (Kd.R_far (p := ⟨gb323, 2, none⟩) (Kd.R_types (Kd.R_types HO_324000.out BK323.out (by decide)) BK315.out (by decide)) (fun _ hk => hk.1.2) (.slice Ao90 t332.length co90)) (fun _ hk => hk.2) (.slice Ao13 t316.length co13)) (fun _ hk => hk.2) (.int .i64 t319)) (fun _ hk => hk.2) (.slice Ao90 t332.length co90)) (fun _ hk => hk.1.1.2), by (with_reducible repeat (first | apply Kd.R_alloc | apply Kd.R_drewN | apply Kd.R_drew)); exact Kd.R_mono (Kd.R_far (p := ⟨gb315, 2, none⟩) (Kd.R_far (p := ⟨gb315, 1, none⟩) (Kd.R_far (p := ⟨gb315, 0, none⟩) (Kd.R_far (p := ⟨gb323, 2, none⟩) (Kd.R_types (Kd.R_types HO334.out BK323.out (by decide)) BK315.out (by decide)) (fun _ hk => hk.1.2) (.slice Ao90 t332.length co90)) (fun _ hk => hk.2) (.slice Ao13 t316.length co13)) (fun _ hk => hk.2) (.int .i64 t319)) (fun _ hk => hk.2) (.slice Ao90 t332.length co90)) (fun _ hk => hk.1.1.1.2), by repeat (first | (with_reducible first | exact HB.out | apply below_alloc | apply pw_below_drewN | apply below_drew1 | refine below_set ?_ GE314.out | refine below_set ?_ GE315.out | refine below_set ?_ GE323.out) | exact HB.out)⟩
                              · rw [if_neg c83] at H
                                exact absurd H (by simp)
                            · rw [if_neg c82] at H
                              exact absurd H (by simp)
                          · replace c81 := Bool.eq_false_iff.mpr c81
                            subst c81
                            have H1 : (if a2 ≥ 16 then (impl_DevDo.j4 kj74 a1 a2 a3 true l0_0 a0_1 l0_2 t316 t319 t320) else (if a2 < 0 then (impl_DevDo.j4 kj74 a1 a2 a3 true l0_0 a0_1 l0_2 t316 t319 t320) else (impl_DevDo.j4 kj74 a1 a2 a3 ((Int.tmod a2 4) != 0) l0_0 a0_1 l0_2 t316 t319 t320))) = some (r1, r2, r3, r4, r5) := by rw [if_neg (show ¬ (false = true) by decide)] at H; exact H
                            clear H
                            have H := H1
                            clear H1
                            have HC94 := Aside0.mk H
                            clear H
                            go_upto_region 15 with (fail)
                            go_cut [91] (fun v91 wc => ∃ (kq : Nat) (x91_93 : Bool), v91 = .bool x91_93 ∧ Aside0 (impl_DevDo.j4 kq a1 a2 a3 x91_93 l0_0 a0_1 l0_2 t316 t319 t320 = some (r1, r2, r3, r4, r5)) ∧ Aside0 (kq ≤ kj74) ∧ Aside0 (Kd.R (Kd.int .i64) 3 wc w.heap.size (fun k_ => some k_ ≠ ((.slice Ao17 t320.length co17) : Value).ownBlock) (.slice Ao13 t316.length co13) t316) ∧ Aside0 (Kd.R (Kd.int .i64) 3 wc w.heap.size (fun k_ => some k_ ≠ ((.slice Ao13 t316.length co13) : Value).ownBlock) (.slice Ao17 t320.length co17) t320) ∧ Aside0 (wc.heap[gb314]? = some (.cells #[(.slice A0_0 l0_0.length c0_0), .int .i64 a0_1, (.slice A0_2 l0_2.length c0_2)] 26 (0, 0))) ∧ Aside0 (wc.heap[gb315]? = some (.cells #[(.slice none 0 0), .int .i64 0, (.slice none 0 0)] 26 (0, 0))) ∧ Aside0 (wc.heap[gb323]? = some (.cells #[(.slice Ao13 t316.length co13), .int .i64 t319, (.slice Ao17 t320.length co17)] 26 (0, 0))) ∧ Aside0 (Below w.heap.size w wc))
                            case first =>
                              have H := HC94.out
                              clear HC94
                              by_cases c95 : a2 ≥ 16
                              · rw [if_pos c95] at H
                                have c95b0 : decide (16 ≤ a2) = true := decide_eq_true c95
                                clear c95
                                (first | rw [c95b0] | (simp only [i64_w, i32_w]; rw [c95b0]) | skip)
                                have H' := Aside0.mk H
                                clear H
                                go_wp2
                                go_meet
                                case rel => exact ⟨_, (true), (by first | rfl | (simp; done) | (simp [*]; done)), H', ⟨by have := HJ5.out; have := HJ39.out; have := HJ58.out; have := HJ74.out; first | omega | exact Nat.le_refl _⟩, ⟨by (with_reducible repeat (first | apply Kd.R_alloc | apply Kd.R_drewN | apply Kd.R_drew)); exact HO_324000.out⟩, ⟨by (with_reducible repeat (first | apply Kd.R_alloc | apply Kd.R_drewN | apply Kd.R_drew)); exact HO_324002.out⟩, ⟨by (with_reducible repeat (first | refine blk_drewN ?_ _ | refine blk_drew ?_ | refine blk_alloc ?_ _)); exact BK314.out⟩, ⟨by (with_reducible repeat (first | refine blk_drewN ?_ _ | refine blk_drew ?_ | refine blk_alloc ?_ _)); exact BK315.out⟩, ⟨by (with_reducible repeat (first | refine blk_drewN ?_ _ | refine blk_drew ?_ | refine blk_alloc ?_ _)); exact BK323.out⟩, ⟨by repeat (first | (with_reducible first | exact HB.out | apply below_alloc | apply pw_below_drewN | apply below_drew1 | refine below_set ?_ GE314.out | refine below_set ?_ GE315.out | refine below_set ?_ GE323.out) | exact HB.out)⟩⟩
                              · rw [if_neg c95] at H
                                have c95b0 : decide (16 ≤ a2) = false := decide_eq_false c95
                                clear c95
                                (first | rw [c95b0] | (simp only [i64_w, i32_w]; rw [c95b0]) | skip)
                                by_cases c96 : a2 < 0
                                · rw [if_pos c96] at H
                                  have c96b0 : decide (a2 < 0) = true := decide_eq_true c96
                                  clear c96
                                  have H' := Aside0.mk H
                                  clear H
                                  go_wp2
                                  go_meet
                                  case rel => exact ⟨_, (true), (by first | rfl | (simp; done) | (simp [*]; done)), H', ⟨by have := HJ5.out; have := HJ39.out; have := HJ58.out; have := HJ74.out; first | omega | exact Nat.le_refl _⟩, ⟨by (with_reducible repeat (first | apply Kd.R_alloc | apply Kd.R_drewN | apply Kd.R_drew)); exact HO_324000.out⟩, ⟨by (with_reducible repeat (first | apply Kd.R_alloc | apply Kd.R_drewN | apply Kd.R_drew)); exact HO_324002.out⟩, ⟨by (with_reducible repeat (first | refine blk_drewN ?_ _ | refine blk_drew ?_ | refine blk_alloc ?_ _)); exact BK314.out⟩, ⟨by (with_reducible repeat (first | refine blk_drewN ?_ _ | refine blk_drew ?_ | refine blk_alloc ?_ _)); exact BK315.out⟩, ⟨by (with_reducible repeat (first | refine blk_drewN ?_ _ | refine blk_drew ?_ | refine blk_alloc ?_ _)); exact BK323.out⟩, ⟨by repeat (first | (with_reducible first | exact HB.out | apply below_alloc | apply pw_below_drewN | apply below_drew1 | refine below_set ?_ GE314.out | refine below_set ?_ GE315.out | refine below_set ?_ GE323.out) | exact HB.out)⟩⟩
                                · rw [if_neg c96] at H
                                  have c96b0 : decide (a2 < 0) = false := decide_eq_false c96
                                  clear c96
                                  have H' := Aside0.mk H
                                  clear H
                                  go_wp2
                                  go_meet
                                  case rel => exact ⟨_, (((Int.tmod a2 4) != 0)), (by first | rfl | (simp; done) | (simp [*]; done)), H', ⟨by have := HJ5.out; have := HJ39.out; have := HJ58.out; have := HJ74.out; first | omega | exact Nat.le_refl _⟩, ⟨by (with_reducible repeat (first | apply Kd.R_alloc | apply Kd.R_drewN | apply Kd.R_drew)); exact HO_324000.out⟩, ⟨by (with_reducible repeat (first | apply Kd.R_alloc | apply Kd.R_drewN | apply Kd.R_drew)); exact HO_324002.out⟩, ⟨by (with_reducible repeat (first | refine blk_drewN ?_ _ | refine blk_drew ?_ | refine blk_alloc ?_ _)); exact BK314.out⟩, ⟨by (with_reducible repeat (first | refine blk_drewN ?_ _ | refine blk_drew ?_ | refine blk_alloc ?_ _)); exact BK315.out⟩, ⟨by (with_reducible repeat (first | refine blk_drewN ?_ _ | refine blk_drew ?_ | refine blk_alloc ?_ _)); exact BK323.out⟩, ⟨by repeat (first | (with_reducible first | exact HB.out | apply below_alloc | apply pw_below_drewN | apply below_drew1 | refine below_set ?_ GE314.out | refine below_set ?_ GE315.out | refine below_set ?_ GE323.out) | exact HB.out)⟩⟩
                            case rest =>
                              clear HC94
                              try clear c1
                              try clear c2
                              try clear p2
                              try clear c3
                              try clear p3
                              try clear q3
                              try clear hx3
                              try clear qi3
                              try clear c4
                              try clear c5
                              try clear c6
                              try clear p6
                              try clear c7
                              try clear c8
                              try clear c9
                              try clear c14
                              try clear c15
                              try clear c19
                              try clear c20
                              try clear c22
                              try clear c23
                              try clear c26
                              try clear c27
                              try clear c30
                              try clear c31
                              try clear p33
                              try clear q33
                              try clear hx33
                              try clear qi33
                              try clear c34
                              try clear c35
                              try clear c36
                              try clear c37
                              try clear c38
                              try clear c41
                              try clear c41b0
                              try clear c41b1
                              try clear c42
                              try clear c43
                              try clear c44
                              try clear c46
                              try clear c48
                              try clear c48b0
                              try clear c48b1
                              try clear c50
                              try clear c50b0
                              try clear c50b1
                              try clear c51
                              try clear c52
                              try clear c56
                              try clear c60
                              try clear c60b0
                              try clear c60b1
                              try clear c61
                              try clear c62
                              try clear c63
                              try clear p64
                              try clear c65
                              try clear c66
                              try clear c67
                              try clear c68
                              try clear c73
                              try clear c76
                              try clear c76b0
                              try clear c76b1
                              try clear c77
                              try clear c78
                              try clear c79
                              try clear c81
                              try clear c82
                              try clear c82b0
                              try clear c82b1
                              try clear c83
                              try clear c83b0
                              try clear c83b1
                              try clear c85
                              try clear c86
                              try clear c91
                              try clear c95
                              try clear c95b0
                              try clear c96
                              try clear c96b0
                              try clear hcz10_0
                              try clear hcz10_1
                              try clear hcz10_2
                              try clear hcz16_0
                              try clear hcz16_1
                              try clear hcz16_2
                              try clear hcz24_0
                              try clear hcz24_1
                              try clear hcz24_2
                              try clear hcz28_0
                              try clear hcz28_1
                              try clear hcz28_2
                              try clear hcz32_0
                              try clear hcz32_1
                              try clear hcz32_2
                              try clear hcz37_0
                              try clear hcz37_1
                              try clear hcz37_2
                              try clear hcz39_0
                              try clear hcz39_1
                              try clear hcz39_2
                              try clear hcz45_0
                              try clear hcz45_1
                              try clear hcz45_2
                              try clear hcz47_0
                              try clear hcz47_1
                              try clear hcz47_2
                              try clear hcz53_0
                              try clear hcz53_1
                              try clear hcz53_2
                              try clear hcz57_0
                              try clear hcz57_1
                              try clear hcz57_2
                              try clear hcz58_0
                              try clear hcz58_1
                              try clear hcz58_2
                              try clear hcz64_0
                              try clear hcz64_1
                              try clear hcz64_2
                              try clear hcz69_0
                              try clear hcz69_1
                              try clear hcz69_2
                              try clear hcz72_0
                              try clear hcz72_1
                              try clear hcz72_2
                              try clear hcz74_0
                              try clear hcz74_1
                              try clear hcz74_2
                              try clear hcz80_0
                              try clear hcz80_1
                              try clear hcz80_2
                              try clear hcz87_0
                              try clear hcz87_1
                              try clear hcz87_2
                              try clear hcz92_0
                              try clear hcz92_1
                              try clear hcz92_2
                              try clear hcz93_0
                              try clear hcz93_1
                              try clear hcz93_2
                              try clear hfz10_0
                              try clear hfz10_1
                              try clear hfz10_2
                              try clear hfz16_0
                              try clear hfz16_1
                              try clear hfz16_2
                              try clear hfz24_0
                              try clear hfz24_1
                              try clear hfz24_2
                              try clear hfz28_0
                              try clear hfz28_1
                              try clear hfz28_2
                              try clear hfz32_0
                              try clear hfz32_1
                              try clear hfz32_2
                              try clear hfz37_0
                              try clear hfz37_1
                              try clear hfz37_2
                              try clear hfz39_0
                              try clear hfz39_1
                              try clear hfz39_2
                              try clear hfz45_0
                              try clear hfz45_1
                              try clear hfz45_2
                              try clear hfz47_0
                              try clear hfz47_1
                              try clear hfz47_2
                              try clear hfz53_0
                              try clear hfz53_1
                              try clear hfz53_2
                              try clear hfz57_0
                              try clear hfz57_1
                              try clear hfz57_2
                              try clear hfz58_0
                              try clear hfz58_1
                              try clear hfz58_2
                              try clear hfz64_0
                              try clear hfz64_1
                              try clear hfz64_2
                              try clear hfz69_0
                              try clear hfz69_1
                              try clear hfz69_2
                              try clear hfz72_0
                              try clear hfz72_1
                              try clear hfz72_2
                              try clear hfz74_0
                              try clear hfz74_1
                              try clear hfz74_2
                              try clear hfz80_0
                              try clear hfz80_1
                              try clear hfz80_2
                              try clear hfz87_0
                              try clear hfz87_1
                              try clear hfz87_2
                              try clear hfz92_0
                              try clear hfz92_1
                              try clear hfz92_2
                              try clear hfz93_0
                              try clear hfz93_1
                              try clear hfz93_2
                              try clear hx330_0
                              try clear p2
                              try clear p330
                              try clear p6
                              try clear p64
                              try clear q330
                              obtain ⟨kq, x91_93, rfl, HA, HJ93, HO_324000, HO_324002, BK314, BK315, BK323, HB⟩ := hcut
                              cases kq with
                              | zero => exact absurd HA.out (by simp [impl_DevDo.j4])
                              | succ kj93 =>
                                have H := HA.out
                                clear HA
                                simp only [impl_DevDo.j4] at H
                                by_cases c97 : x91_93 = true
                                · subst c97
                                  have H1 : (some (t316, t319, t320, 0, false)) = some (r1, r2, r3, r4, r5) := by rw [if_pos rfl] at H; exact H
                                  clear H
                                  have H := H1
                                  clear H1
                                  simp only [Option.some.injEq, Prod.mk.injEq] at H
                                  obtain ⟨rfl, rfl, rfl, rfl, rfl⟩ := H
                                  have hnb98 := NB323_314.out
                                  have hnc98 := NB314_323.out
                                  have hnb99 := NB323_315.out
                                  have hnc99 := NB315_323.out
                                  have hcz100_0 : wc.cell? ⟨gb323, 0, none⟩ = some (.slice Ao13 t316.length co13) := (blk_cell BK323.out 0).trans rfl
                                  have hcz100_1 : wc.cell? ⟨gb323, 1, none⟩ = some (.int .i64 t319) := (blk_cell BK323.out 1).trans rfl
                                  have hcz100_2 : wc.cell? ⟨gb323, 2, none⟩ = some (.slice Ao17 t320.length co17) := (blk_cell BK323.out 2).trans rfl
                                  have hfz100_0 := blk_frozen BK323.out 0
                                  have hfz100_1 := blk_frozen BK323.out 1
                                  have hfz100_2 := blk_frozen BK323.out 2
                                  have hnb101 := NB315_314.out
                                  have hnc101 := NB314_315.out
                                  have hcz102_0 : wc.cell? ⟨gb315, 0, none⟩ = some (.slice none 0 0) := (blk_cell BK315.out 0).trans rfl
                                  have hcz102_1 : wc.cell? ⟨gb315, 1, none⟩ = some (.int .i64 0) := (blk_cell BK315.out 1).trans rfl
                                  have hcz102_2 : wc.cell? ⟨gb315, 2, none⟩ = some (.slice none 0 0) := (blk_cell BK315.out 2).trans rfl
                                  have hfz102_0 := blk_frozen BK315.out 0
                                  have hfz102_1 := blk_frozen BK315.out 1
                                  have hfz102_2 := blk_frozen BK315.out 2
                                  go_wp2
                                  refine bodyPost_ret (results_ctt rfl _ _ gb315 26 #[.slice Ao13 t316.length co13, .int .i64 t319, .slice Ao17 t320.length co17] (0, 0) _ rfl (by (with_reducible repeat (first | refine blk_drewN ?_ _ | refine blk_drew ?_ | refine blk_alloc ?_ _)); refine blk_put (cs := #[.slice Ao13 t316.length co13, .int .i64 t319, .slice none 0 0]) ?_ 2 _ rfl; (with_reducible repeat (first | refine blk_drewN ?_ _ | refine blk_drew ?_ | refine blk_alloc ?_ _)); refine blk_put (cs := #[.slice Ao13 t316.length co13, .int .i64 0, .slice none 0 0]) ?_ 1 _ rfl; (with_reducible repeat (first | refine blk_drewN ?_ _ | refine blk_drew ?_ | refine blk_alloc ?_ _)); refine blk_put (cs := #[.slice none 0 0, .int .i64 0, .slice none 0 0]) ?_ 0 _ rfl; (with_reducible repeat (first | refine blk_drewN ?_ _ | refine blk_drew ?_ | refine blk_alloc ?_ _)); exact BK315.out) Try.underlying26 rfl (by kernel_rfl)) rfl ?_
                                  exact ⟨_, _, by first | rfl | (simp [errW_none, errW_some] <;> rfl) | (simp [*, errW_none, errW_some] <;> rfl), by (with_reducible repeat (first | apply Kd.R_alloc | apply Kd.R_drewN | apply Kd.R_drew)); exact Kd.R_mono (Kd.R_far (p := ⟨gb315, 2, none⟩) (Kd.R_far (p := ⟨gb315, 1, none⟩) (Kd.R_far (p := ⟨gb315, 0, none⟩) (Kd.R_types HO_324000.out BK315.out (by decide)) (fun _ hk => hk.2) (.slice Ao13 t316.length co13)) (fun _ hk => hk.2) (.int .i64 t319)) (fun _ hk => hk.2) (.slice Ao17 t320.length co17)) (fun _ hk => hk.1), by (with_reducible repeat (first | apply Kd.R_alloc | apply Kd.R_drewN | apply Kd.R_drew)); exact Kd.R_mono (Kd.R_far (p := ⟨gb315, 2, none⟩) (Kd.R_far (p := ⟨gb315, 1, none⟩) (Kd.R_far (p := ⟨gb315, 0, none⟩) (Kd.R_types HO_324002.out BK315.out (by decide)) (fun _ hk => hk.2) (.slice Ao13 t316.length co13)) (fun _ hk => hk.2) (.int .i64 t319)) (fun _ hk => hk.2) (.slice Ao17 t320.length co17)) (fun _ hk => hk.1), by repeat (first | (with_reducible first | exact HB.out | apply below_alloc | apply pw_below_drewN | apply below_drew1 | refine below_set ?_ GE314.out | refine below_set ?_ GE315.out | refine below_set ?_ GE323.out) | exact HB.out)⟩
                                · replace c97 := Bool.eq_false_iff.mpr c97
                                  subst c97
                                  have H1 : (if a1 = true then (if 0 ≤ (wrap64 (Int.tdiv a2 4)) then (if (wrap64 (Int.tdiv a2 4)) < (t316.length : Int) then (some ((t316.set ((wrap64 (Int.tdiv a2 4)) : Int).toNat a3), t319, t320, a3, true)) else (none)) else (none)) else (if 0 ≤ (wrap64 (Int.tdiv a2 4)) then (if (wrap64 (Int.tdiv a2 4)) < (l0_0.length : Int) then (some (t316, t319, t320, rd l0_0 (wrap64 (Int.tdiv a2 4)), true)) else (none)) else (none))) = some (r1, r2, r3, r4, r5) := by rw [if_neg (show ¬ (false = true) by decide)] at H; exact H
                                  clear H
                                  have H := H1
                                  clear H1
                                  by_cases c103 : a1 = true
                                  · subst c103
                                    have H1 : (if 0 ≤ (wrap64 (Int.tdiv a2 4)) then (if (wrap64 (Int.tdiv a2 4)) < (t316.length : Int) then (some ((t316.set ((wrap64 (Int.tdiv a2 4)) : Int).toNat a3), t319, t320, a3, true)) else (none)) else (none)) = some (r1, r2, r3, r4, r5) := by rw [if_pos rfl] at H; exact H
                                    clear H
                                    have H := H1
                                    clear H1
                                    obtain ⟨ji104, hji104⟩ : ∃ j_ : Int, (wrap64 (Int.tdiv a2 4)) = j_ := ⟨_, rfl⟩
                                    replace H : (if 0 ≤ (ji104) then (if (ji104) < (t316.length : Int) then (some ((t316.set ((ji104) : Int).toNat a3), t319, t320, a3, true)) else (none)) else (none)) = some (r1, r2, r3, r4, r5) := by first | (rw [hji104] at H; exact H) | (simp only [hji104] at H ⊢; exact H)
                                    have hji104w : (IntKind.i64.wrap (Int.tdiv a2 4)) = ji104 := (i64_w _).trans hji104
                                    by_cases c105 : 0 ≤ (ji104)
                                    · rw [if_pos c105] at H
                                      have c105b0 : decide (0 ≤ (ji104)) = true := decide_eq_true c105
                                      clear c105
                                      by_cases c106 : (ji104) < (t316.length : Int)
                                      · rw [if_pos c106] at H
                                        have c106b0 : decide ((ji104) < (t316.length : Int)) = true := decide_eq_true c106
                                        clear c106
                                        obtain ⟨y335, hy335⟩ : ∃ y_ : List Int, y_ = (t316.set ((ji104) : Int).toNat a3) := ⟨_, rfl⟩
                                        replace H : (some (y335, t319, t320, a3, true)) = some (r1, r2, r3, r4, r5) := by first | (rw [hy335]; with_reducible exact H) | (have H2_ := (Option.bind_some _ _).symm.trans H; rw [hy335]; with_reducible exact H2_) | (have H2_ := (Option.bind_some _ _).symm.trans H; with_reducible exact H2_) | with_reducible exact H | (rw [hy335]; exact H) | exact H
                                        have Ny335 := Aside0.mk hy335
                                        clear hy335
                                        simp only [Option.some.injEq, Prod.mk.injEq] at H
                                        obtain ⟨rfl, rfl, rfl, rfl, rfl⟩ := H
                                        have hnb108 := NB323_314.out
                                        have hnc108 := NB314_323.out
                                        have hnb109 := NB323_315.out
                                        have hnc109 := NB315_323.out
                                        have hcz110_0 : wc.cell? ⟨gb323, 0, none⟩ = some (.slice Ao13 t316.length co13) := (blk_cell BK323.out 0).trans rfl
                                        have hcz110_1 : wc.cell? ⟨gb323, 1, none⟩ = some (.int .i64 t319) := (blk_cell BK323.out 1).trans rfl
                                        have hcz110_2 : wc.cell? ⟨gb323, 2, none⟩ = some (.slice Ao17 t320.length co17) := (blk_cell BK323.out 2).trans rfl
                                        have hfz110_0 := blk_frozen BK323.out 0
                                        have hfz110_1 := blk_frozen BK323.out 1
                                        have hfz110_2 := blk_frozen BK323.out 2
                                        have p107 : 0 ≤ ((ji104) : Int) := of_decide_eq_true (by first | (with_reducible assumption) | assumption)
                                        have q107 : ((ji104) : Int) < ((t316.length : Int) : Int) := of_decide_eq_true (by first | (with_reducible assumption) | assumption)
                                        obtain ⟨go107, co107, eo107, gb107, gl107, cl107, HG107⟩ := Kd.R_form HO_324000.out (by omega)
                                        (first | cases eo107 | (injection eo107 with ea_ en_ ec_; (first | subst ea_ | (injection ea_ with ea_; subst ea_)); subst ec_; clear en_))
                                        have GB107 := Aside0.mk gb107
                                        have GG107 := Aside0.mk HG107
                                        clear gb107 gl107 HG107
                                        obtain ⟨hx107_0, hf107_0⟩ := Kd.R_celln 0 HO_324000.out ((ji104) : Int) p107 q107
                                        replace p107 := eq_true p107
                                        replace q107 := eq_true q107
                                        have HP111 := Kd.R_putg HO_324000.out ((ji104) : Int) a3
                                        go_wp2_with (first | ((with_reducible refine gate_store (t := 3) (p := 111) rfl ?_); refine store_event (t := 3) (p := 111) (v := ?vo_w112) (w1 := (wc.setCell ⟨go107, ((ji104) : Int).toNat, none⟩ (.int .i64 a3))) ?hg ?ho ?hn ?hr ?_; (case ho => rfl); (case hg => rfl); (case hn => rfl); (case hr => first | (go_simp; done) | (go_simp; rfl)); intro w112 hw; have hg : wc.grownBy w112 (some go107) := (by rw [hw]; exact HP111.2); have hp_ : Kd.R (Kd.int .i64) 3 w112 w.heap.size (fun k_ => some k_ ≠ (.slice Ao17 t320.length co17 : Value).ownBlock) (.slice (some ⟨go107, 0, none⟩) t316.length co13) y335 := (by rw [hw, Ny335.out]; exact HP111.1); clear HP111; have n0_ := Aside0.mk (hp_); have n1_ := Aside0.mk (Kd.R_after (v := (.slice (some ⟨go107, 0, none⟩) t316.length co13)) (v1 := (.slice (some ⟨go107, 0, none⟩) t316.length co13)) (ok := (fun _ => True)) (by (with_reducible repeat (first | apply Kd.R_alloc | apply Kd.R_drewN | apply Kd.R_drew)); exact Kd.R_mono HO_324002.out (fun _ hk => ⟨trivial, hk⟩)) hg (.inl rfl)); have n2_ := Aside0.mk (blk_grown (g := gb314) (o := .cells #[.slice A0_0 l0_0.length c0_0, .int .i64 a0_1, .slice A0_2 l0_2.length c0_2] 26 (0, 0)) (by (with_reducible repeat (first | refine blk_drewN ?_ _ | refine blk_drew ?_ | refine blk_alloc ?_ _)); exact BK314.out) hg (Kd.R_ne HO_324000.out BK314.out (by decide))); have n3_ := Aside0.mk (blk_grown (g := gb315) (o := .cells #[.slice none 0 0, .int .i64 0, .slice none 0 0] 26 (0, 0)) (by (with_reducible repeat (first | refine blk_drewN ?_ _ | refine blk_drew ?_ | refine blk_alloc ?_ _)); exact BK315.out) hg (Kd.R_ne HO_324000.out BK315.out (by decide))); have n4_ := Aside0.mk (blk_grown (g := gb323) (o := .cells #[.slice (some ⟨go107, 0, none⟩) t316.length co13, .int .i64 t319, .slice Ao17 t320.length co17] 26 (0, 0)) (by (with_reducible repeat (first | refine blk_drewN ?_ _ | refine blk_drew ?_ | refine blk_alloc ?_ _)); exact BK323.out) hg (Kd.R_ne HO_324000.out BK323.out (by decide))); have n5_ := Aside0.mk ((by rw [hw]; exact below_set (HB.out) GB107.out : Below w.heap.size w w112)); clear HO_324000; clear HO_324002; clear BK314; clear BK315; clear BK323; clear HB; have HO_324000 := n0_; have HO_324002 := n1_; have BK314 := n2_; have BK315 := n3_; have BK323 := n4_; have HB := n5_; clear n0_ n1_ n2_ n3_ n4_ n5_; clear hg hw hp_; have hcz113_0 : w112.cell? ⟨gb323, 0, none⟩ = some (.slice (some ⟨go107, 0, none⟩) t316.length co13) := (blk_cell BK323.out 0).trans rfl; have hcz113_1 : w112.cell? ⟨gb323, 1, none⟩ = some (.int .i64 t319) := (blk_cell BK323.out 1).trans rfl; have hcz113_2 : w112.cell? ⟨gb323, 2, none⟩ = some (.slice Ao17 t320.length co17) := (blk_cell BK323.out 2).trans rfl; have hfz113_0 := blk_frozen BK323.out 0; have hfz113_1 := blk_frozen BK323.out 1; have hfz113_2 := blk_frozen BK323.out 2; have hnb114 := NB315_314.out; have hnc114 := NB314_315.out; have hcz115_0 : w112.cell? ⟨gb315, 0, none⟩ = some (.slice none 0 0) := (blk_cell BK315.out 0).trans rfl; have hcz115_1 : w112.cell? ⟨gb315, 1, none⟩ = some (.int .i64 0) := (blk_cell BK315.out 1).trans rfl; have hcz115_2 : w112.cell? ⟨gb315, 2, none⟩ = some (.slice none 0 0) := (blk_cell BK315.out 2).trans rfl; have hfz115_0 := blk_frozen BK315.out 0; have hfz115_1 := blk_frozen BK315.out 1; have hfz115_2 := blk_frozen BK315.out 2))
                                        refine bodyPost_ret (results_ctt rfl _ _ gb315 26 #[.slice (some ⟨go107, 0, none⟩) t316.length co13, .int .i64 t319, .slice Ao17 t320.length co17] (0, 0) _ rfl (by (with_reducible repeat (first | refine blk_drewN ?_ _ | refine blk_drew ?_ | refine blk_alloc ?_ _)); refine blk_put (cs := #[.slice (some ⟨go107, 0, none⟩) t316.length co13, .int .i64 t319, .slice none 0 0]) ?_ 2 _ rfl; (with_reducible repeat (first | refine blk_drewN ?_ _ | refine blk_drew ?_ | refine blk_alloc ?_ _)); refine blk_put (cs := #[.slice (some ⟨go107, 0, none⟩) t316.length co13, .int .i64 0, .slice none 0 0]) ?_ 1 _ rfl; (with_reducible repeat (first | refine blk_drewN ?_ _ | refine blk_drew ?_ | refine blk_alloc ?_ _)); refine blk_put (cs := #[.slice none 0 0, .int .i64 0, .slice none 0 0]) ?_ 0 _ rfl; (with_reducible repeat (first | refine blk_drewN ?_ _ | refine blk_drew ?_ | refine blk_alloc ?_ _)); exact BK315.out) Try.underlying26 rfl (by kernel_rfl)) rfl ?_
                                        exact ⟨_, _, by first | rfl | (simp [errW_none, errW_some] <;> rfl) | (simp only [← hji104]; first | rfl | (simp [errW_none, errW_some] <;> rfl)) | (simp [*, errW_none, errW_some] <;> rfl), by (with_reducible repeat (first | apply Kd.R_alloc | apply Kd.R_drewN | apply Kd.R_drew)); exact Kd.R_mono (Kd.R_far (p := ⟨gb315, 2, none⟩) (Kd.R_far (p := ⟨gb315, 1, none⟩) (Kd.R_far (p := ⟨gb315, 0, none⟩) (Kd.R_types HO_324000.out BK315.out (by decide)) (fun _ hk => hk.2) (.slice (some ⟨go107, 0, none⟩) t316.length co13)) (fun _ hk => hk.2) (.int .i64 t319)) (fun _ hk => hk.2) (.slice Ao17 t320.length co17)) (fun _ hk => hk.1), by (with_reducible repeat (first | apply Kd.R_alloc | apply Kd.R_drewN | apply Kd.R_drew)); exact Kd.R_mono (Kd.R_far (p := ⟨gb315, 2, none⟩) (Kd.R_far (p := ⟨gb315, 1, none⟩) (Kd.R_far (p := ⟨gb315, 0, none⟩) (Kd.R_types HO_324002.out BK315.out (by decide)) (fun _ hk => hk.2) (.slice (some ⟨go107, 0, none⟩) t316.length co13)) (fun _ hk => hk.2) (.int .i64 t319)) (fun _ hk => hk.2) (.slice Ao17 t320.length co17)) (fun _ hk => hk.1.2), by repeat (first | (with_reducible first | exact HB.out | apply below_alloc | apply pw_below_drewN | apply below_drew1 | refine below_set ?_ GE314.out | refine below_set ?_ GE315.out | refine below_set ?_ GE323.out) | exact HB.out)⟩
                                      · rw [if_neg c106] at H
                                        exact absurd H (by simp)
                                    · rw [if_neg c105] at H
                                      exact absurd H (by simp)
                                  · replace c103 := Bool.eq_false_iff.mpr c103
                                    subst c103
                                    have H1 : (if 0 ≤ (wrap64 (Int.tdiv a2 4)) then (if (wrap64 (Int.tdiv a2 4)) < (l0_0.length : Int) then (some (t316, t319, t320, rd l0_0 (wrap64 (Int.tdiv a2 4)), true)) else (none)) else (none)) = some (r1, r2, r3, r4, r5) := by rw [if_neg (show ¬ (false = true) by decide)] at H; exact H
                                    clear H
                                    have H := H1
                                    clear H1
                                    obtain ⟨ji116, hji116⟩ : ∃ j_ : Int, (wrap64 (Int.tdiv a2 4)) = j_ := ⟨_, rfl⟩
                                    replace H : (if 0 ≤ (ji116) then (if (ji116) < (l0_0.length : Int) then (some (t316, t319, t320, rd l0_0 (ji116), true)) else (none)) else (none)) = some (r1, r2, r3, r4, r5) := by first | (rw [hji116] at H; exact H) | (simp only [hji116] at H ⊢; exact H)
                                    have hji116w : (IntKind.i64.wrap (Int.tdiv a2 4)) = ji116 := (i64_w _).trans hji116
                                    by_cases c117 : 0 ≤ (ji116)
                                    · rw [if_pos c117] at H
                                      have c117b0 : decide (0 ≤ (ji116)) = true := decide_eq_true c117
                                      clear c117
                                      by_cases c118 : (ji116) < (l0_0.length : Int)
                                      · rw [if_pos c118] at H
                                        have c118b0 : decide ((ji116) < (l0_0.length : Int)) = true := decide_eq_true c118
                                        clear c118
                                        simp only [Option.some.injEq, Prod.mk.injEq] at H
                                        obtain ⟨rfl, rfl, rfl, rfl, rfl⟩ := H
                                        have hnb119 := NB314_315.out
                                        have hnc119 := NB315_314.out
                                        have hnb120 := NB314_323.out
                                        have hnc120 := NB323_314.out
                                        have hcz121_0 : wc.cell? ⟨gb314, 0, none⟩ = some (.slice A0_0 l0_0.length c0_0) := (blk_cell BK314.out 0).trans rfl
                                        have hcz121_1 : wc.cell? ⟨gb314, 1, none⟩ = some (.int .i64 a0_1) := (blk_cell BK314.out 1).trans rfl
                                        have hcz121_2 : wc.cell? ⟨gb314, 2, none⟩ = some (.slice A0_2 l0_2.length c0_2) := (blk_cell BK314.out 2).trans rfl
                                        have hfz121_0 := blk_frozen BK314.out 0
                                        have hfz121_1 := blk_frozen BK314.out 1
                                        have hfz121_2 := blk_frozen BK314.out 2
                                        have p336 : 0 ≤ ((ji116) : Int) := of_decide_eq_true (by first | (with_reducible assumption) | assumption)
                                        have q336 : (ji116) < (l0_0.length : Int) := of_decide_eq_true (by first | (with_reducible assumption) | assumption)
                                        obtain ⟨ad336, e336, hx336_0⟩ := Kd.at_int HR0_0.out (ji116) p336 q336
                                        cases e336
                                        replace hx336_0 := (HB.out.cell (World.block_lt_of_cell? w _ hx336_0)).trans hx336_0
                                        replace p336 := eq_true p336
                                        replace q336 := eq_true q336
                                        have hnb122 := NB323_315.out
                                        have hnc122 := NB315_323.out
                                        have hcz123_0 : wc.cell? ⟨gb323, 0, none⟩ = some (.slice Ao13 t316.length co13) := (blk_cell BK323.out 0).trans rfl
                                        have hcz123_1 : wc.cell? ⟨gb323, 1, none⟩ = some (.int .i64 t319) := (blk_cell BK323.out 1).trans rfl
                                        have hcz123_2 : wc.cell? ⟨gb323, 2, none⟩ = some (.slice Ao17 t320.length co17) := (blk_cell BK323.out 2).trans rfl
                                        have hfz123_0 := blk_frozen BK323.out 0
                                        have hfz123_1 := blk_frozen BK323.out 1
                                        have hfz123_2 := blk_frozen BK323.out 2
                                        have hcz124_0 : wc.cell? ⟨gb315, 0, none⟩ = some (.slice none 0 0) := (blk_cell BK315.out 0).trans rfl
                                        have hcz124_1 : wc.cell? ⟨gb315, 1, none⟩ = some (.int .i64 0) := (blk_cell BK315.out 1).trans rfl
                                        have hcz124_2 : wc.cell? ⟨gb315, 2, none⟩ = some (.slice none 0 0) := (blk_cell BK315.out 2).trans rfl
                                        have hfz124_0 := blk_frozen BK315.out 0
                                        have hfz124_1 := blk_frozen BK315.out 1
                                        have hfz124_2 := blk_frozen BK315.out 2
                                        go_wp2
                                        refine bodyPost_ret (results_ctt rfl _ _ gb315 26 #[.slice Ao13 t316.length co13, .int .i64 t319, .slice Ao17 t320.length co17] (0, 0) _ rfl (by (with_reducible repeat (first | refine blk_drewN ?_ _ | refine blk_drew ?_ | refine blk_alloc ?_ _)); refine blk_put (cs := #[.slice Ao13 t316.length co13, .int .i64 t319, .slice none 0 0]) ?_ 2 _ rfl; (with_reducible repeat (first | refine blk_drewN ?_ _ | refine blk_drew ?_ | refine blk_alloc ?_ _)); refine blk_put (cs := #[.slice Ao13 t316.length co13, .int .i64 0, .slice none 0 0]) ?_ 1 _ rfl; (with_reducible repeat (first | refine blk_drewN ?_ _ | refine blk_drew ?_ | refine blk_alloc ?_ _)); refine blk_put (cs := #[.slice none 0 0, .int .i64 0, .slice none 0 0]) ?_ 0 _ rfl; (with_reducible repeat (first | refine blk_drewN ?_ _ | refine blk_drew ?_ | refine blk_alloc ?_ _)); exact BK315.out) Try.underlying26 rfl (by kernel_rfl)) rfl ?_
                                        exact ⟨_, _, by first | rfl | (simp [errW_none, errW_some] <;> rfl) | (simp only [← hji116]; first | rfl | (simp [errW_none, errW_some] <;> rfl)) | (simp [*, errW_none, errW_some] <;> rfl), by (with_reducible repeat (first | apply Kd.R_alloc | apply Kd.R_drewN | apply Kd.R_drew)); exact Kd.R_mono (Kd.R_far (p := ⟨gb315, 2, none⟩) (Kd.R_far (p := ⟨gb315, 1, none⟩) (Kd.R_far (p := ⟨gb315, 0, none⟩) (Kd.R_types HO_324000.out BK315.out (by decide)) (fun _ hk => hk.2) (.slice Ao13 t316.length co13)) (fun _ hk => hk.2) (.int .i64 t319)) (fun _ hk => hk.2) (.slice Ao17 t320.length co17)) (fun _ hk => hk.1), by (with_reducible repeat (first | apply Kd.R_alloc | apply Kd.R_drewN | apply Kd.R_drew)); exact Kd.R_mono (Kd.R_far (p := ⟨gb315, 2, none⟩) (Kd.R_far (p := ⟨gb315, 1, none⟩) (Kd.R_far (p := ⟨gb315, 0, none⟩) (Kd.R_types HO_324002.out BK315.out (by decide)) (fun _ hk => hk.2) (.slice Ao13 t316.length co13)) (fun _ hk => hk.2) (.int .i64 t319)) (fun _ hk => hk.2) (.slice Ao17 t320.length co17)) (fun _ hk => hk.1), by repeat (first | (with_reducible first | exact HB.out | apply below_alloc | apply pw_below_drewN | apply below_drew1 | refine below_set ?_ GE314.out | refine below_set ?_ GE315.out | refine below_set ?_ GE323.out) | exact HB.out)⟩
                                      · rw [if_neg c118] at H
                                        exact absurd H (by simp)
                                    · rw [if_neg c117] at H
                                      exact absurd H (by simp)

end Go.Proofs.Ythikbgjlcdkoaaa.MFnDevices
