-- Written for this claim by a program of the session (wip/mk.py) over the kit's print.
import Derived.Test.YthikbgjlcdkoaaaMFnExactModelDox0
import Derived.Test.YthikbgjlcdkoaaaMFnExactModelDox5
import Derived.Test.YthikbgjlcdkoaaaMFnExactModelDox6
import Derived.Test.YthikbgjlcdkoaaaMFnExactModelDox7
import Derived.Test.YthikbgjlcdkoaaaMFnExactModelDox8
namespace Go.Proofs.Ythikbgjlcdkoaaa.MFnExactModelDo
open Go.RowKit Go.Proofs.YthikbgjlcdkoaaaW.PrintWords Go.Proofs.YthikbgjlcdkoaaaW.PrintLast Go.Proofs.YthikbgjlcdkoaaaW.PrintMore
attribute [local go_sem] max2_int min2_int max_two min_two max_three min_three max_four min_four   -- for this text's walks alone
set_option linter.unusedVariables false
set_option linter.unusedSimpArgs false

/-! ### spec_ModelDo: function 16 -/
mutual
def spec_ModelDo.j0 : Nat → Bool → Int → Int → Int → Bool → List Int → List Int → Int → List Int → List Int → List Int → Int → List Int → Option (List Int × List Int × Int × List Int × Int × Int)
  | 0, _, _, _, _, _, _, _, _, _, _, _, _, _ => none
  | k + 1, x1, x2, x3, x4, x40, x347000, x347001, x347002, x347003, x359000, x359001, x359002, x359003 => if x40 = true then (some (x359000, x359001, x359002, x359003, 0, 1)) else ((spec_SlaveOf.f k x2).bind fun t363 => (if t363 = 1 then (spec_ModelDo.j1 k x1 x2 x3 x4 t363 (t363 == 1) x347000 x347001 x347002 x347003 x359000 x359001 x359002 x359003) else (spec_ModelDo.j1 k x1 x2 x3 x4 t363 (t363 == 2) x347000 x347001 x347002 x347003 x359000 x359001 x359002 x359003)))
def spec_ModelDo.j1 : Nat → Bool → Int → Int → Int → Int → Bool → List Int → List Int → Int → List Int → List Int → List Int → Int → List Int → Option (List Int × List Int × Int × List Int × Int × Int)
  | 0, _, _, _, _, _, _, _, _, _, _, _, _, _, _ => none
  | k + 1, x1, x2, x3, x4, x43, x44, x347000, x347001, x347002, x347003, x359000, x359001, x359002, x359003 => if x44 = true then (if x1 = true then ((spec_PutNum.f k x347000 x2 x3 x4).bind fun bt364 => (some (bt364.1, x359001, x359002, x359003, x4, 0))) else ((spec_GetNum.f k x347000 x2 x3).bind fun bt368 => (some (x359000, x359001, x359002, x359003, bt368.1, 0)))) else (if x43 = 3 then ((spec_DevDo.f k x347001 x347002 x347003 x1 (wrap64 (x2 - 192)) x4).bind fun bt370 => (if x3 = 2 then (if bt370.2.2.2.2 = true then (some (x359000, bt370.1, bt370.2.1, bt370.2.2.1, bt370.2.2.2.1, 0)) else (some (x359000, x359001, x359002, x359003, 0, 1))) else (some (x359000, x359001, x359002, x359003, 0, 1)))) else (some (x359000, x359001, x359002, x359003, 0, 1)))
end
def spec_ModelDo.f (k : Nat) (l0_0 : List Int) (l0_1 : List Int) (a0_2 : Int) (l0_3 : List Int) (a1 : Bool) (a2 : Int) (a3 : Int) (a4 : Int) : Option (List Int × List Int × Int × List Int × Int × Int) := (spec_l9Copy.f l0_0 l0_1 a0_2 l0_3).bind fun bt348 => ((spec_ModelOk.f k l0_0 l0_1 a0_2 l0_3).bind fun t359 => (if t359 = true then ((spec_Aligned.f a2 a3).bind fun t360 => (if t360 = true then (if a1 = true then ((spec_LimitOf.f a3).bind fun t361 => ((spec_l1In.f a4 0 (wrap64 (t361 - 1))).bind fun t362 => (spec_ModelDo.j0 k a1 a2 a3 a4 (!t362) l0_0 l0_1 a0_2 l0_3 bt348.1 bt348.2.1 bt348.2.2.1 bt348.2.2.2))) else (spec_ModelDo.j0 k a1 a2 a3 a4 false l0_0 l0_1 a0_2 l0_3 bt348.1 bt348.2.1 bt348.2.2.1 bt348.2.2.2)) else (spec_ModelDo.j0 k a1 a2 a3 a4 true l0_0 l0_1 a0_2 l0_3 bt348.1 bt348.2.1 bt348.2.2.1 bt348.2.2.2))) else (spec_ModelDo.j0 k a1 a2 a3 a4 true l0_0 l0_1 a0_2 l0_3 bt348.1 bt348.2.1 bt348.2.2.1 bt348.2.2.2)))
theorem spec_ModelDo.mono_l : ∀ k, (∀ y0 y1 y2 y3 y4 y5 y6 y7 y8 y9 y10 y11 y12, LeO (spec_ModelDo.j0 k y0 y1 y2 y3 y4 y5 y6 y7 y8 y9 y10 y11 y12) (spec_ModelDo.j0 (k + 1) y0 y1 y2 y3 y4 y5 y6 y7 y8 y9 y10 y11 y12)) ∧ (∀ y0 y1 y2 y3 y4 y5 y6 y7 y8 y9 y10 y11 y12 y13, LeO (spec_ModelDo.j1 k y0 y1 y2 y3 y4 y5 y6 y7 y8 y9 y10 y11 y12 y13) (spec_ModelDo.j1 (k + 1) y0 y1 y2 y3 y4 y5 y6 y7 y8 y9 y10 y11 y12 y13))
  | 0 => ⟨fun _ _ _ _ _ _ _ _ _ _ _ _ _ r h => by simp [spec_ModelDo.j0] at h, fun _ _ _ _ _ _ _ _ _ _ _ _ _ _ r h => by simp [spec_ModelDo.j1] at h⟩
  | k + 1 => by
    obtain ⟨ih0, ih1⟩ := spec_ModelDo.mono_l k
    refine ⟨?_, ?_⟩
    · intro y0 y1 y2 y3 y4 y5 y6 y7 y8 y9 y10 y11 y12
      unfold spec_ModelDo.j0
      repeat' first
      | (with_reducible exact ih0 _ _ _ _ _ _ _ _ _ _ _ _ _)
      | (with_reducible exact ih1 _ _ _ _ _ _ _ _ _ _ _ _ _ _)
      | (with_reducible exact spec_DevDo.mono _ _ _ _ _ _ _)
      | (with_reducible exact spec_GetNum.mono _ _ _ _)
      | (with_reducible exact spec_ModelOk.mono _ _ _ _ _)
      | (with_reducible exact spec_PutNum.mono _ _ _ _ _)
      | (with_reducible exact spec_SlaveOf.mono _ _)
      | (with_reducible exact LeO.refl _)
      | (with_reducible exact LeO.none _)
      | (with_reducible refine LeO.ite ?_ ?_)
      | (with_reducible refine LeO.bind ?_ (fun _ => ?_))
      | exact ih0 _ _ _ _ _ _ _ _ _ _ _ _ _
      | exact ih1 _ _ _ _ _ _ _ _ _ _ _ _ _ _
      | exact spec_DevDo.mono _ _ _ _ _ _ _
      | exact spec_GetNum.mono _ _ _ _
      | exact spec_ModelOk.mono _ _ _ _ _
      | exact spec_PutNum.mono _ _ _ _ _
      | exact spec_SlaveOf.mono _ _
      | exact LeO.none _
      | refine LeO.ite ?_ ?_
      | refine LeO.bind ?_ (fun _ => ?_)
    · intro y0 y1 y2 y3 y4 y5 y6 y7 y8 y9 y10 y11 y12 y13
      unfold spec_ModelDo.j1
      repeat' first
      | (with_reducible exact ih0 _ _ _ _ _ _ _ _ _ _ _ _ _)
      | (with_reducible exact ih1 _ _ _ _ _ _ _ _ _ _ _ _ _ _)
      | (with_reducible exact spec_DevDo.mono _ _ _ _ _ _ _)
      | (with_reducible exact spec_GetNum.mono _ _ _ _)
      | (with_reducible exact spec_ModelOk.mono _ _ _ _ _)
      | (with_reducible exact spec_PutNum.mono _ _ _ _ _)
      | (with_reducible exact spec_SlaveOf.mono _ _)
      | (with_reducible exact LeO.refl _)
      | (with_reducible exact LeO.none _)
      | (with_reducible refine LeO.ite ?_ ?_)
      | (with_reducible refine LeO.bind ?_ (fun _ => ?_))
      | exact ih0 _ _ _ _ _ _ _ _ _ _ _ _ _
      | exact ih1 _ _ _ _ _ _ _ _ _ _ _ _ _ _
      | exact spec_DevDo.mono _ _ _ _ _ _ _
      | exact spec_GetNum.mono _ _ _ _
      | exact spec_ModelOk.mono _ _ _ _ _
      | exact spec_PutNum.mono _ _ _ _ _
      | exact spec_SlaveOf.mono _ _
      | exact LeO.none _
      | refine LeO.ite ?_ ?_
      | refine LeO.bind ?_ (fun _ => ?_)
theorem spec_ModelDo.mono : ∀ a0 a1 a2 a3 a4 a5 a6 a7 k, LeO (spec_ModelDo.f k a0 a1 a2 a3 a4 a5 a6 a7) (spec_ModelDo.f (k + 1) a0 a1 a2 a3 a4 a5 a6 a7) := by
  intro a0 a1 a2 a3 a4 a5 a6 a7 k
  obtain ⟨ih0, ih1⟩ := spec_ModelDo.mono_l k
  unfold spec_ModelDo.f
  repeat' first
      | (with_reducible exact ih0 _ _ _ _ _ _ _ _ _ _ _ _ _)
      | (with_reducible exact ih1 _ _ _ _ _ _ _ _ _ _ _ _ _ _)
      | (with_reducible exact spec_DevDo.mono _ _ _ _ _ _ _)
      | (with_reducible exact spec_GetNum.mono _ _ _ _)
      | (with_reducible exact spec_ModelOk.mono _ _ _ _ _)
      | (with_reducible exact spec_PutNum.mono _ _ _ _ _)
      | (with_reducible exact spec_SlaveOf.mono _ _)
      | (with_reducible exact LeO.refl _)
      | (with_reducible exact LeO.none _)
      | (with_reducible refine LeO.ite ?_ ?_)
      | (with_reducible refine LeO.bind ?_ (fun _ => ?_))
      | exact ih0 _ _ _ _ _ _ _ _ _ _ _ _ _
      | exact ih1 _ _ _ _ _ _ _ _ _ _ _ _ _ _
      | exact spec_DevDo.mono _ _ _ _ _ _ _
      | exact spec_GetNum.mono _ _ _ _
      | exact spec_ModelOk.mono _ _ _ _ _
      | exact spec_PutNum.mono _ _ _ _ _
      | exact spec_SlaveOf.mono _ _
      | exact LeO.none _
      | refine LeO.ite ?_ ?_
      | refine LeO.bind ?_ (fun _ => ?_)
set_option maxHeartbeats 8000000 in
set_option maxRecDepth 100000 in
theorem spec_ModelDo.calls (k : Nat) (A0_0 : Option Addr) (c0_0 : Nat) (l0_0 : List Int) (A0_1 : Option Addr) (c0_1 : Nat) (l0_1 : List Int) (a0_2 : Int) (A0_3 : Option Addr) (c0_3 : Nat) (l0_3 : List Int) (a1 : Bool) (a2 : Int) (a3 : Int) (a4 : Int) (r1 : List Int) (r2 : List Int) (r3 : Int) (r4 : List Int) (r5 : Int) (r6 : Int) (w : World) (hr0_0 : Kd.C (Kd.int .i64) w A0_0 l0_0.length l0_0) (hc0_0 : l0_0.length ≤ c0_0) (hr0_1 : Kd.C (Kd.int .i64) w A0_1 l0_1.length l0_1) (hc0_1 : l0_1.length ≤ c0_1) (hr0_3 : Kd.C (Kd.int .i64) w A0_3 l0_3.length l0_3) (hc0_3 : l0_3.length ≤ c0_3) (h : spec_ModelDo.f k l0_0 l0_1 a0_2 l0_3 a1 a2 a3 a4 = some (r1, r2, r3, r4, r5, r6)) :
    Calls Try.prog 16 #[.agg #[.slice A0_0 l0_0.length c0_0, .slice A0_1 l0_1.length c0_1, .int .i64 a0_2, .slice A0_3 l0_3.length c0_3], .bool a1, .int .i64 a2, .int .i64 a3, .int .i64 a4] w fun e w' => ∃ v0_ v1_ v3_ : Value, e = .returned (.tuple #[.agg #[v0_, v1_, .int .i64 r3, v3_], .int .i64 r5, .int .i64 r6]) ∧ Kd.R (Kd.int .i64) 3 w' w.heap.size (fun k_ => some k_ ≠ (v1_ : Value).ownBlock ∧ some k_ ≠ (v3_ : Value).ownBlock) v0_ r1 ∧ Kd.R (Kd.int .i64) 3 w' w.heap.size (fun k_ => some k_ ≠ (v0_ : Value).ownBlock ∧ some k_ ≠ (v3_ : Value).ownBlock) v1_ r2 ∧ Kd.Q (Kd.int .i64) 3 w' w.heap.size (fun k_ => some k_ ≠ (v0_ : Value).ownBlock ∧ some k_ ≠ (v1_ : Value).ownBlock) v3_ r4 ∧ Below w.heap.size w w' := by
  have hu28 := Try.underlying28
  have hu26 := Try.underlying26
  have HR0_0 := Aside0.mk hr0_0
  have HC0_0 := Aside0.mk hc0_0
  clear hr0_0 hc0_0
  have HR0_1 := Aside0.mk hr0_1
  have HC0_1 := Aside0.mk hc0_1
  clear hr0_1 hc0_1
  have HR0_3 := Aside0.mk hr0_3
  have HC0_3 := Aside0.mk hc0_3
  clear hr0_3 hc0_3
  have HB := Az (Below.refl w.heap.size w)
  have H : ((spec_l9Copy.f l0_0 l0_1 a0_2 l0_3).bind fun bt348 => ((spec_ModelOk.f k l0_0 l0_1 a0_2 l0_3).bind fun t359 => (if t359 = true then ((spec_Aligned.f a2 a3).bind fun t360 => (if t360 = true then (if a1 = true then ((spec_LimitOf.f a3).bind fun t361 => ((spec_l1In.f a4 0 (wrap64 (t361 - 1))).bind fun t362 => (spec_ModelDo.j0 k a1 a2 a3 a4 (!t362) l0_0 l0_1 a0_2 l0_3 bt348.1 bt348.2.1 bt348.2.2.1 bt348.2.2.2))) else (spec_ModelDo.j0 k a1 a2 a3 a4 false l0_0 l0_1 a0_2 l0_3 bt348.1 bt348.2.1 bt348.2.2.1 bt348.2.2.2)) else (spec_ModelDo.j0 k a1 a2 a3 a4 true l0_0 l0_1 a0_2 l0_3 bt348.1 bt348.2.1 bt348.2.2.1 bt348.2.2.2))) else (spec_ModelDo.j0 k a1 a2 a3 a4 true l0_0 l0_1 a0_2 l0_3 bt348.1 bt348.2.1 bt348.2.2.1 bt348.2.2.2)))) = some (r1, r2, r3, r4, r5, r6) := h
  clear h
  replace H := Option.bind_eq_some_iff.mp H
  obtain ⟨⟨t348, t351, t354, t355⟩, A60, H⟩ := H
  replace H : ((spec_ModelOk.f k l0_0 l0_1 a0_2 l0_3).bind fun t359 => (if t359 = true then ((spec_Aligned.f a2 a3).bind fun t360 => (if t360 = true then (if a1 = true then ((spec_LimitOf.f a3).bind fun t361 => ((spec_l1In.f a4 0 (wrap64 (t361 - 1))).bind fun t362 => (spec_ModelDo.j0 k a1 a2 a3 a4 (!t362) l0_0 l0_1 a0_2 l0_3 t348 t351 t354 t355))) else (spec_ModelDo.j0 k a1 a2 a3 a4 false l0_0 l0_1 a0_2 l0_3 t348 t351 t354 t355)) else (spec_ModelDo.j0 k a1 a2 a3 a4 true l0_0 l0_1 a0_2 l0_3 t348 t351 t354 t355))) else (spec_ModelDo.j0 k a1 a2 a3 a4 true l0_0 l0_1 a0_2 l0_3 t348 t351 t354 t355))) = some (r1, r2, r3, r4, r5, r6) := H
  have A6 := Aside0.mk A60
  clear A60
  have HC7 := Aside0.mk H
  clear H
  go_enter Try.func16, Try.ntmps16
  go_upto_region 2 with (first | ((with_reducible refine gate_dst (N := 5) rfl ?_); refine box_event ?hg (N := 5) ?hd (cs := #[.slice A0_0 l0_0.length c0_0, .slice A0_1 l0_1.length c0_1, .int .i64 a0_2, .slice A0_3 l0_3.length c0_3]) (t := 28) ?hr ?_; (case hd => rfl); (case hg => rfl); (case hr => first | (go_simp; done) | (go_simp; rfl)); intro gb346 hg w8 hbox hb; have n0_ := Az (below_step (mb HB) hb); have n1_ := Az (hbox); have n2_ := Az ((by rw [hg]; exact (below_size (mb HB)) : w.heap.size ≤ gb346)); have n3_ := Az ((by rw [hg]; exact (below_size (mb HB)) : w.heap.size ≤ gb346)); clear HB; have HB := n0_; have BK346 := n1_; have GW346 := n2_; have GE346 := n3_; clear n0_ n1_ n2_ n3_; clear hb hbox hg) | ((with_reducible refine gate_dst (N := 10) rfl ?_); refine box_event ?hg (N := 10) ?hd (cs := #[.slice none 0 0, .slice none 0 0, .int .i64 0, .slice none 0 0]) (t := 28) ?hr ?_; (case hd => rfl); (case hg => rfl); (case hr => first | (go_simp; done) | (go_simp; rfl)); intro gb347 hg w9 hbox hb; have n0_ := Az (blk_below (mz BK346) hb); have n1_ := Az (below_step (mb HB) hb); have n2_ := Az (hbox); have n3_ := Az ((by rw [hg]; exact (below_size (mb HB)) : w.heap.size ≤ gb347)); have n4_ := Az ((by rw [hg]; exact (below_size (mb HB)) : w.heap.size ≤ gb347)); have n5_ := Az ((by rw [hg]; exact Nat.ne_of_lt (blk_lt (mz BK346)) : gb346 ≠ gb347)); have n6_ := Az ((by rw [hg]; exact Nat.ne_of_gt (blk_lt (mz BK346)) : gb347 ≠ gb346)); clear BK346 HB; have BK346 := n0_; have HB := n1_; have BK347 := n2_; have GW347 := n3_; have GE347 := n4_; have NB346_347 := n5_; have NB347_346 := n6_; clear n0_ n1_ n2_ n3_ n4_ n5_ n6_ hb hbox hg; have hnb10 := NB346_347.out; have hnc10 := NB347_346.out; have hcz11_0 := bz0 BK346; have hcz11_1 := bz1 BK346; have hcz11_2 := bz2 BK346; have hcz11_3 := bz3 BK346; have hfz11_0 := bf BK346 0; have hfz11_1 := bf BK346 1; have hfz11_2 := bf BK346 2; have hfz11_3 := bf BK346 3) | ((with_reducible refine gate_callee (f := 55) rfl ?_); refine goesL_ (some 20) rfl rfl Try.func55 (by kernel_rfl) rfl #[.agg #[.slice A0_0 l0_0.length c0_0, .slice A0_1 l0_1.length c0_1, .int .i64 a0_2, .slice A0_3 l0_3.length c0_3]] rfl ml ?_; (with_reducible refine (spec_l9Copy.calls _ _ l0_0 _ _ l0_1 a0_2 _ _ l0_3 t348 t351 t354 t355 _ ?side1 ?side2 ?side3 ?side4 ?side5 ?side6 A6.out).mono ?_); (case side1 => exact mc (Kd.C_below HR0_0.out HB.out)); (case side2 => exact HC0_0.out); (case side3 => exact mc (Kd.C_below HR0_1.out HB.out)); (case side4 => exact HC0_1.out); (case side5 => exact mc (Kd.C_below HR0_3.out HB.out)); (case side6 => exact HC0_3.out); rintro e w12 ⟨v349, v352, v356, rfl, ho0, ho1, ho2, hb⟩; refine ⟨_, rfl, ?_⟩; have n0_ := Az (Kd.R_lower ho0 (below_size (mb HB))); have n1_ := Az (Kd.R_lower ho1 (below_size (mb HB))); have n2_ := Az (Kd.R_lower ho2 (below_size (mb HB))); have n3_ := Az (blk_below (mz BK346) hb); have n4_ := Az (blk_below (mz BK347) hb); have n5_ := Az (below_step (mb HB) hb); clear BK346 BK347 HB; have HO350 := n0_; have HO353 := n1_; have HO357 := n2_; have BK346 := n3_; have BK347 := n4_; have HB := n5_; clear n0_ n1_ n2_ n3_ n4_ n5_; (try clear hb); (try clear hb2); (try clear hk); (try clear hi); (try clear ho0); (try clear ho1); (try clear ho2)) | ((with_reducible refine gate_dst (N := 13) rfl ?_); refine box_event ?hg (N := 13) ?hd (cs := #[.slice none 0 0, .slice none 0 0, .int .i64 0, .slice none 0 0]) (t := 28) ?hr ?_; (case hd => rfl); (case hg => rfl); (case hr => first | (go_simp; done) | (go_simp; rfl)); intro gb358 hg w13 hbox hb; have n0_ := Az (Kd.R_below (mr HO350) hb); have n1_ := Az (Kd.R_below (mr HO353) hb); have n2_ := Az (Kd.R_below (mr HO357) hb); have n3_ := Az (blk_below (mz BK346) hb); have n4_ := Az (blk_below (mz BK347) hb); have n5_ := Az (below_step (mb HB) hb); have n6_ := Az (hbox); have n7_ := Az ((by rw [hg]; exact (below_size (mb HB)) : w.heap.size ≤ gb358)); have n8_ := Az ((by rw [hg]; exact (below_size (mb HB)) : w.heap.size ≤ gb358)); have n9_ := Az ((by rw [hg]; exact Nat.ne_of_lt (blk_lt (mz BK346)) : gb346 ≠ gb358)); have n10_ := Az ((by rw [hg]; exact Nat.ne_of_gt (blk_lt (mz BK346)) : gb358 ≠ gb346)); have n11_ := Az ((by rw [hg]; exact Nat.ne_of_lt (blk_lt (mz BK347)) : gb347 ≠ gb358)); have n12_ := Az ((by rw [hg]; exact Nat.ne_of_gt (blk_lt (mz BK347)) : gb358 ≠ gb347)); clear HO350 HO353 HO357 BK346 BK347 HB; have HO350 := n0_; have HO353 := n1_; have HO357 := n2_; have BK346 := n3_; have BK347 := n4_; have HB := n5_; have BK358 := n6_; have GW358 := n7_; have GE358 := n8_; have NB346_358 := n9_; have NB358_346 := n10_; have NB347_358 := n11_; have NB358_347 := n12_; clear n0_ n1_ n2_ n3_ n4_ n5_ n6_ n7_ n8_ n9_ n10_ n11_ n12_ hb hbox hg; obtain ⟨Ao14, co14, eo14⟩ := Kd.R_slice HO350.out; subst eo14; have hnb15 := NB358_346.out; have hnc15 := NB346_358.out; have hnb16 := NB358_347.out; have hnc16 := NB347_358.out; have hcz17_0 := bz0 BK358; have hcz17_1 := bz1 BK358; have hcz17_2 := bz2 BK358; have hcz17_3 := bz3 BK358; have hfz17_0 := bf BK358 0; have hfz17_1 := bf BK358 1; have hfz17_2 := bf BK358 2; have hfz17_3 := bf BK358 3; obtain ⟨Ao18, co18, eo18⟩ := Kd.R_slice HO353.out; subst eo18; obtain ⟨Ao19, co19, eo19⟩ := Kd.R_slice HO357.out; subst eo19))
  (try simp only [Act.put, List.setIfInBounds_toArray, List.set_cons_zero, List.set_cons_succ])
  go_cut [40] (fun v40 wc => ∃ (kq : Nat) (x40_6 : Bool), v40 = .bool x40_6 ∧ Aside0 (spec_ModelDo.j0 kq a1 a2 a3 a4 x40_6 l0_0 l0_1 a0_2 l0_3 t348 t351 t354 t355 = some (r1, r2, r3, r4, r5, r6)) ∧ Aside0 (kq ≤ k) ∧ Aside0 (Kd.R (Kd.int .i64) 3 wc w.heap.size (fun k_ => some k_ ≠ ((.slice Ao18 t351.length co18) : Value).ownBlock ∧ some k_ ≠ ((.slice Ao19 t355.length co19) : Value).ownBlock) (.slice Ao14 t348.length co14) t348) ∧ Aside0 (Kd.R (Kd.int .i64) 3 wc w.heap.size (fun k_ => some k_ ≠ ((.slice Ao14 t348.length co14) : Value).ownBlock ∧ some k_ ≠ ((.slice Ao19 t355.length co19) : Value).ownBlock) (.slice Ao18 t351.length co18) t351) ∧ Aside0 (Kd.R (Kd.int .i64) 3 wc w.heap.size (fun k_ => some k_ ≠ ((.slice Ao14 t348.length co14) : Value).ownBlock ∧ some k_ ≠ ((.slice Ao18 t351.length co18) : Value).ownBlock) (.slice Ao19 t355.length co19) t355) ∧ Aside0 (wc.heap[gb346]? = some (.cells #[(.slice A0_0 l0_0.length c0_0), (.slice A0_1 l0_1.length c0_1), .int .i64 a0_2, (.slice A0_3 l0_3.length c0_3)] 28 (0, 0))) ∧ Aside0 (wc.heap[gb347]? = some (.cells #[(.slice none 0 0), (.slice none 0 0), .int .i64 0, (.slice none 0 0)] 28 (0, 0))) ∧ Aside0 (wc.heap[gb358]? = some (.cells #[(.slice Ao14 t348.length co14), (.slice Ao18 t351.length co18), .int .i64 t354, (.slice Ao19 t355.length co19)] 28 (0, 0))) ∧ Aside0 (Below w.heap.size w wc))
  case first =>
    have H := HC7.out
    clear HC7
    replace H := Option.bind_eq_some_iff.mp H
    obtain ⟨t359, A200, H⟩ := H
    replace H : (if t359 = true then ((spec_Aligned.f a2 a3).bind fun t360 => (if t360 = true then (if a1 = true then ((spec_LimitOf.f a3).bind fun t361 => ((spec_l1In.f a4 0 (wrap64 (t361 - 1))).bind fun t362 => (spec_ModelDo.j0 k a1 a2 a3 a4 (!t362) l0_0 l0_1 a0_2 l0_3 t348 t351 t354 t355))) else (spec_ModelDo.j0 k a1 a2 a3 a4 false l0_0 l0_1 a0_2 l0_3 t348 t351 t354 t355)) else (spec_ModelDo.j0 k a1 a2 a3 a4 true l0_0 l0_1 a0_2 l0_3 t348 t351 t354 t355))) else (spec_ModelDo.j0 k a1 a2 a3 a4 true l0_0 l0_1 a0_2 l0_3 t348 t351 t354 t355)) = some (r1, r2, r3, r4, r5, r6) := H
    have A20 := Aside0.mk A200
    clear A200
    by_cases c21 : t359 = true
    · subst c21
      have H1 : ((spec_Aligned.f a2 a3).bind fun t360 => (if t360 = true then (if a1 = true then ((spec_LimitOf.f a3).bind fun t361 => ((spec_l1In.f a4 0 (wrap64 (t361 - 1))).bind fun t362 => (spec_ModelDo.j0 k a1 a2 a3 a4 (!t362) l0_0 l0_1 a0_2 l0_3 t348 t351 t354 t355))) else (spec_ModelDo.j0 k a1 a2 a3 a4 false l0_0 l0_1 a0_2 l0_3 t348 t351 t354 t355)) else (spec_ModelDo.j0 k a1 a2 a3 a4 true l0_0 l0_1 a0_2 l0_3 t348 t351 t354 t355))) = some (r1, r2, r3, r4, r5, r6) := by rw [if_pos rfl] at H; exact H
      clear H
      have H := H1
      clear H1
      replace H := Option.bind_eq_some_iff.mp H
      obtain ⟨t360, A220, H⟩ := H
      replace H : (if t360 = true then (if a1 = true then ((spec_LimitOf.f a3).bind fun t361 => ((spec_l1In.f a4 0 (wrap64 (t361 - 1))).bind fun t362 => (spec_ModelDo.j0 k a1 a2 a3 a4 (!t362) l0_0 l0_1 a0_2 l0_3 t348 t351 t354 t355))) else (spec_ModelDo.j0 k a1 a2 a3 a4 false l0_0 l0_1 a0_2 l0_3 t348 t351 t354 t355)) else (spec_ModelDo.j0 k a1 a2 a3 a4 true l0_0 l0_1 a0_2 l0_3 t348 t351 t354 t355)) = some (r1, r2, r3, r4, r5, r6) := H
      have A22 := Aside0.mk A220
      clear A220
      by_cases c23 : t360 = true
      · subst c23
        have H1 : (if a1 = true then ((spec_LimitOf.f a3).bind fun t361 => ((spec_l1In.f a4 0 (wrap64 (t361 - 1))).bind fun t362 => (spec_ModelDo.j0 k a1 a2 a3 a4 (!t362) l0_0 l0_1 a0_2 l0_3 t348 t351 t354 t355))) else (spec_ModelDo.j0 k a1 a2 a3 a4 false l0_0 l0_1 a0_2 l0_3 t348 t351 t354 t355)) = some (r1, r2, r3, r4, r5, r6) := by rw [if_pos rfl] at H; exact H
        clear H
        have H := H1
        clear H1
        by_cases c24 : a1 = true
        · subst c24
          have H1 : ((spec_LimitOf.f a3).bind fun t361 => ((spec_l1In.f a4 0 (wrap64 (t361 - 1))).bind fun t362 => (spec_ModelDo.j0 k true a2 a3 a4 (!t362) l0_0 l0_1 a0_2 l0_3 t348 t351 t354 t355))) = some (r1, r2, r3, r4, r5, r6) := by rw [if_pos rfl] at H; exact H
          clear H
          have H := H1
          clear H1
          replace H := Option.bind_eq_some_iff.mp H
          obtain ⟨t361, A250, H⟩ := H
          replace H : ((spec_l1In.f a4 0 (wrap64 (t361 - 1))).bind fun t362 => (spec_ModelDo.j0 k true a2 a3 a4 (!t362) l0_0 l0_1 a0_2 l0_3 t348 t351 t354 t355)) = some (r1, r2, r3, r4, r5, r6) := H
          have A25 := Aside0.mk A250
          clear A250
          replace H := Option.bind_eq_some_iff.mp H
          obtain ⟨t362, A260, H⟩ := H
          replace H : (spec_ModelDo.j0 k true a2 a3 a4 (!t362) l0_0 l0_1 a0_2 l0_3 t348 t351 t354 t355) = some (r1, r2, r3, r4, r5, r6) := H
          have A26 := Aside0.mk A260
          clear A260
          have H' := Aside0.mk H
          clear H
          have hnb27 := NB346_347.out
          have hnc27 := NB347_346.out
          have hnb28 := NB346_358.out
          have hnc28 := NB358_346.out
          have hcz29_0 := bz0 BK346
          have hcz29_1 := bz1 BK346
          have hcz29_2 := bz2 BK346
          have hcz29_3 := bz3 BK346
          have hfz29_0 := bf BK346 0
          have hfz29_1 := bf BK346 1
          have hfz29_2 := bf BK346 2
          have hfz29_3 := bf BK346 3
          go_wp2_with (first | ((with_reducible refine gate_callee (f := 39) rfl ?_); refine goesL_ (some 22) rfl rfl Try.func39 (by kernel_rfl) rfl #[.agg #[.slice A0_0 l0_0.length c0_0, .slice A0_1 l0_1.length c0_1, .int .i64 a0_2, .slice A0_3 l0_3.length c0_3]] rfl ml ?_; (with_reducible refine (spec_ModelOk.calls k _ _ l0_0 _ _ l0_1 a0_2 _ _ l0_3 true _ ?side1 ?side2 ?side3 ?side4 ?side5 ?side6 A20.out).mono ?_); (case side1 => exact Kd.C_below HR0_0.out (mb HB)); (case side2 => exact HC0_0.out); (case side3 => exact Kd.C_below HR0_1.out (mb HB)); (case side4 => exact HC0_1.out); (case side5 => exact Kd.C_below HR0_3.out (mb HB)); (case side6 => exact HC0_3.out); rintro e w30 ⟨rfl, hb⟩; refine ⟨_, rfl, ?_⟩; have n0_ := Az (Kd.R_below (by (with_reducible repeat (first | apply Kd.R_alloc | apply Kd.R_drewN | apply Kd.R_drew)); exact (Kd.R_mono (Kd.R_far (Kd.R_far (Kd.R_far (Kd.R_far (Kd.R_types HO350.out BK358.out (by decide)) (fun _ hk => hk.2) _) (fun _ hk => hk.2) _) (fun _ hk => hk.2) _) (fun _ hk => hk.2) _) (fun _ h_ => h_.1))) hb); have n1_ := Az (Kd.R_below (by (with_reducible repeat (first | apply Kd.R_alloc | apply Kd.R_drewN | apply Kd.R_drew)); exact (Kd.R_mono (Kd.R_far (Kd.R_far (Kd.R_far (Kd.R_far (Kd.R_types HO353.out BK358.out (by decide)) (fun _ hk => hk.2) _) (fun _ hk => hk.2) _) (fun _ hk => hk.2) _) (fun _ hk => hk.2) _) (fun _ h_ => h_.1))) hb); have n2_ := Az (Kd.R_below (by (with_reducible repeat (first | apply Kd.R_alloc | apply Kd.R_drewN | apply Kd.R_drew)); exact (Kd.R_mono (Kd.R_far (Kd.R_far (Kd.R_far (Kd.R_far (Kd.R_types HO357.out BK358.out (by decide)) (fun _ hk => hk.2) _) (fun _ hk => hk.2) _) (fun _ hk => hk.2) _) (fun _ hk => hk.2) _) (fun _ h_ => h_.1))) hb); have n3_ := Az (blk_below (g := gb346) (o := .cells #[.slice A0_0 l0_0.length c0_0, .slice A0_1 l0_1.length c0_1, .int .i64 a0_2, .slice A0_3 l0_3.length c0_3] 28 (0, 0)) (by refine ms ?_; refine blk_far ?_ NB346_358.out _; refine ms ?_; refine blk_far ?_ NB346_358.out _; refine ms ?_; refine blk_far ?_ NB346_358.out _; refine ms ?_; refine blk_far ?_ NB346_358.out _; refine ms ?_; exact BK346.out) hb); have n4_ := Az (blk_below (g := gb347) (o := .cells #[.slice none 0 0, .slice none 0 0, .int .i64 0, .slice none 0 0] 28 (0, 0)) (by refine ms ?_; refine blk_far ?_ NB347_358.out _; refine ms ?_; refine blk_far ?_ NB347_358.out _; refine ms ?_; refine blk_far ?_ NB347_358.out _; refine ms ?_; refine blk_far ?_ NB347_358.out _; refine ms ?_; exact BK347.out) hb); have n5_ := Az (blk_below (g := gb358) (o := .cells #[.slice Ao14 t348.length co14, .slice Ao18 t351.length co18, .int .i64 t354, .slice Ao19 t355.length co19] 28 (0, 0)) (by refine ms ?_; refine blk_put (cs := #[.slice Ao14 t348.length co14, .slice Ao18 t351.length co18, .int .i64 t354, .slice none 0 0]) ?_ 3 _ rfl; refine ms ?_; refine blk_put (cs := #[.slice Ao14 t348.length co14, .slice Ao18 t351.length co18, .int .i64 0, .slice none 0 0]) ?_ 2 _ rfl; refine ms ?_; refine blk_put (cs := #[.slice Ao14 t348.length co14, .slice none 0 0, .int .i64 0, .slice none 0 0]) ?_ 1 _ rfl; refine ms ?_; refine blk_put (cs := #[.slice none 0 0, .slice none 0 0, .int .i64 0, .slice none 0 0]) ?_ 0 _ rfl; refine ms ?_; exact BK358.out) hb); have n6_ := Az (below_step (mb HB) hb); clear HO350 HO353 HO357 BK346 BK347 BK358 HB; have HO350 := n0_; have HO353 := n1_; have HO357 := n2_; have BK346 := n3_; have BK347 := n4_; have BK358 := n5_; have HB := n6_; clear n0_ n1_ n2_ n3_ n4_ n5_ n6_; (try clear hb); (try clear hb2); (try clear hk); (try clear hi)) | (go_at_call 56; (with_reducible refine (spec_Aligned.calls a2 a3 true _ A22.out).mono ?_); rintro e w' ⟨rfl, ⟨nd, rfl⟩⟩) | (go_at_call 58; (with_reducible refine (spec_LimitOf.calls a3 t361 _ A25.out).mono ?_); rintro e w' ⟨rfl, ⟨nd, rfl⟩⟩) | (go_at_call 57; (with_reducible refine (spec_l1In.calls a4 0 (wrap64 (t361 - 1)) t362 _ A26.out).mono ?_); rintro e w' ⟨rfl, ⟨nd, rfl⟩⟩))
          go_meet
          case rel => exact ⟨_, (!t362), (by first | rfl | (simp; done) | (simp [*]; done)), H', ⟨by first | omega | exact Nat.le_refl _⟩, ⟨mr HO350⟩, ⟨mr HO353⟩, ⟨mr HO357⟩, ⟨mz BK346⟩, ⟨mz BK347⟩, ⟨mz BK358⟩, ⟨mb HB⟩⟩
        · replace c24 := Bool.eq_false_iff.mpr c24
          subst c24
          have H1 : (spec_ModelDo.j0 k false a2 a3 a4 false l0_0 l0_1 a0_2 l0_3 t348 t351 t354 t355) = some (r1, r2, r3, r4, r5, r6) := by rw [if_neg (show ¬ (false = true) by decide)] at H; exact H
          clear H
          have H := H1
          clear H1
          have H' := Aside0.mk H
          clear H
          have hnb31 := NB346_347.out
          have hnc31 := NB347_346.out
          have hnb32 := NB346_358.out
          have hnc32 := NB358_346.out
          have hcz33_0 := bz0 BK346
          have hcz33_1 := bz1 BK346
          have hcz33_2 := bz2 BK346
          have hcz33_3 := bz3 BK346
          have hfz33_0 := bf BK346 0
          have hfz33_1 := bf BK346 1
          have hfz33_2 := bf BK346 2
          have hfz33_3 := bf BK346 3
          go_wp2_with (first | ((with_reducible refine gate_callee (f := 39) rfl ?_); refine goesL_ (some 22) rfl rfl Try.func39 (by kernel_rfl) rfl #[.agg #[.slice A0_0 l0_0.length c0_0, .slice A0_1 l0_1.length c0_1, .int .i64 a0_2, .slice A0_3 l0_3.length c0_3]] rfl ml ?_; (with_reducible refine (spec_ModelOk.calls k _ _ l0_0 _ _ l0_1 a0_2 _ _ l0_3 true _ ?side1 ?side2 ?side3 ?side4 ?side5 ?side6 A20.out).mono ?_); (case side1 => exact Kd.C_below HR0_0.out (mb HB)); (case side2 => exact HC0_0.out); (case side3 => exact Kd.C_below HR0_1.out (mb HB)); (case side4 => exact HC0_1.out); (case side5 => exact Kd.C_below HR0_3.out (mb HB)); (case side6 => exact HC0_3.out); rintro e w34 ⟨rfl, hb⟩; refine ⟨_, rfl, ?_⟩; have n0_ := Az (Kd.R_below (by (with_reducible repeat (first | apply Kd.R_alloc | apply Kd.R_drewN | apply Kd.R_drew)); exact (Kd.R_mono (Kd.R_far (Kd.R_far (Kd.R_far (Kd.R_far (Kd.R_types HO350.out BK358.out (by decide)) (fun _ hk => hk.2) _) (fun _ hk => hk.2) _) (fun _ hk => hk.2) _) (fun _ hk => hk.2) _) (fun _ h_ => h_.1))) hb); have n1_ := Az (Kd.R_below (by (with_reducible repeat (first | apply Kd.R_alloc | apply Kd.R_drewN | apply Kd.R_drew)); exact (Kd.R_mono (Kd.R_far (Kd.R_far (Kd.R_far (Kd.R_far (Kd.R_types HO353.out BK358.out (by decide)) (fun _ hk => hk.2) _) (fun _ hk => hk.2) _) (fun _ hk => hk.2) _) (fun _ hk => hk.2) _) (fun _ h_ => h_.1))) hb); have n2_ := Az (Kd.R_below (by (with_reducible repeat (first | apply Kd.R_alloc | apply Kd.R_drewN | apply Kd.R_drew)); exact (Kd.R_mono (Kd.R_far (Kd.R_far (Kd.R_far (Kd.R_far (Kd.R_types HO357.out BK358.out (by decide)) (fun _ hk => hk.2) _) (fun _ hk => hk.2) _) (fun _ hk => hk.2) _) (fun _ hk => hk.2) _) (fun _ h_ => h_.1))) hb); have n3_ := Az (blk_below (g := gb346) (o := .cells #[.slice A0_0 l0_0.length c0_0, .slice A0_1 l0_1.length c0_1, .int .i64 a0_2, .slice A0_3 l0_3.length c0_3] 28 (0, 0)) (by refine ms ?_; refine blk_far ?_ NB346_358.out _; refine ms ?_; refine blk_far ?_ NB346_358.out _; refine ms ?_; refine blk_far ?_ NB346_358.out _; refine ms ?_; refine blk_far ?_ NB346_358.out _; refine ms ?_; exact BK346.out) hb); have n4_ := Az (blk_below (g := gb347) (o := .cells #[.slice none 0 0, .slice none 0 0, .int .i64 0, .slice none 0 0] 28 (0, 0)) (by refine ms ?_; refine blk_far ?_ NB347_358.out _; refine ms ?_; refine blk_far ?_ NB347_358.out _; refine ms ?_; refine blk_far ?_ NB347_358.out _; refine ms ?_; refine blk_far ?_ NB347_358.out _; refine ms ?_; exact BK347.out) hb); have n5_ := Az (blk_below (g := gb358) (o := .cells #[.slice Ao14 t348.length co14, .slice Ao18 t351.length co18, .int .i64 t354, .slice Ao19 t355.length co19] 28 (0, 0)) (by refine ms ?_; refine blk_put (cs := #[.slice Ao14 t348.length co14, .slice Ao18 t351.length co18, .int .i64 t354, .slice none 0 0]) ?_ 3 _ rfl; refine ms ?_; refine blk_put (cs := #[.slice Ao14 t348.length co14, .slice Ao18 t351.length co18, .int .i64 0, .slice none 0 0]) ?_ 2 _ rfl; refine ms ?_; refine blk_put (cs := #[.slice Ao14 t348.length co14, .slice none 0 0, .int .i64 0, .slice none 0 0]) ?_ 1 _ rfl; refine ms ?_; refine blk_put (cs := #[.slice none 0 0, .slice none 0 0, .int .i64 0, .slice none 0 0]) ?_ 0 _ rfl; refine ms ?_; exact BK358.out) hb); have n6_ := Az (below_step (mb HB) hb); clear HO350 HO353 HO357 BK346 BK347 BK358 HB; have HO350 := n0_; have HO353 := n1_; have HO357 := n2_; have BK346 := n3_; have BK347 := n4_; have BK358 := n5_; have HB := n6_; clear n0_ n1_ n2_ n3_ n4_ n5_ n6_; (try clear hb); (try clear hb2); (try clear hk); (try clear hi)) | (go_at_call 56; (with_reducible refine (spec_Aligned.calls a2 a3 true _ A22.out).mono ?_); rintro e w' ⟨rfl, ⟨nd, rfl⟩⟩))
          go_meet
          case rel => exact ⟨_, (false), (by first | rfl | (simp; done) | (simp [*]; done)), H', ⟨by first | omega | exact Nat.le_refl _⟩, ⟨mr HO350⟩, ⟨mr HO353⟩, ⟨mr HO357⟩, ⟨mz BK346⟩, ⟨mz BK347⟩, ⟨mz BK358⟩, ⟨mb HB⟩⟩
      · replace c23 := Bool.eq_false_iff.mpr c23
        subst c23
        have H1 : (spec_ModelDo.j0 k a1 a2 a3 a4 true l0_0 l0_1 a0_2 l0_3 t348 t351 t354 t355) = some (r1, r2, r3, r4, r5, r6) := by rw [if_neg (show ¬ (false = true) by decide)] at H; exact H
        clear H
        have H := H1
        clear H1
        have H' := Aside0.mk H
        clear H
        have hnb35 := NB346_347.out
        have hnc35 := NB347_346.out
        have hnb36 := NB346_358.out
        have hnc36 := NB358_346.out
        have hcz37_0 := bz0 BK346
        have hcz37_1 := bz1 BK346
        have hcz37_2 := bz2 BK346
        have hcz37_3 := bz3 BK346
        have hfz37_0 := bf BK346 0
        have hfz37_1 := bf BK346 1
        have hfz37_2 := bf BK346 2
        have hfz37_3 := bf BK346 3
        go_wp2_with (first | ((with_reducible refine gate_callee (f := 39) rfl ?_); refine goesL_ (some 22) rfl rfl Try.func39 (by kernel_rfl) rfl #[.agg #[.slice A0_0 l0_0.length c0_0, .slice A0_1 l0_1.length c0_1, .int .i64 a0_2, .slice A0_3 l0_3.length c0_3]] rfl ml ?_; (with_reducible refine (spec_ModelOk.calls k _ _ l0_0 _ _ l0_1 a0_2 _ _ l0_3 true _ ?side1 ?side2 ?side3 ?side4 ?side5 ?side6 A20.out).mono ?_); (case side1 => exact Kd.C_below HR0_0.out (mb HB)); (case side2 => exact HC0_0.out); (case side3 => exact Kd.C_below HR0_1.out (mb HB)); (case side4 => exact HC0_1.out); (case side5 => exact Kd.C_below HR0_3.out (mb HB)); (case side6 => exact HC0_3.out); rintro e w38 ⟨rfl, hb⟩; refine ⟨_, rfl, ?_⟩; have n0_ := Az (Kd.R_below (by (with_reducible repeat (first | apply Kd.R_alloc | apply Kd.R_drewN | apply Kd.R_drew)); exact (Kd.R_mono (Kd.R_far (Kd.R_far (Kd.R_far (Kd.R_far (Kd.R_types HO350.out BK358.out (by decide)) (fun _ hk => hk.2) _) (fun _ hk => hk.2) _) (fun _ hk => hk.2) _) (fun _ hk => hk.2) _) (fun _ h_ => h_.1))) hb); have n1_ := Az (Kd.R_below (by (with_reducible repeat (first | apply Kd.R_alloc | apply Kd.R_drewN | apply Kd.R_drew)); exact (Kd.R_mono (Kd.R_far (Kd.R_far (Kd.R_far (Kd.R_far (Kd.R_types HO353.out BK358.out (by decide)) (fun _ hk => hk.2) _) (fun _ hk => hk.2) _) (fun _ hk => hk.2) _) (fun _ hk => hk.2) _) (fun _ h_ => h_.1))) hb); have n2_ := Az (Kd.R_below (by (with_reducible repeat (first | apply Kd.R_alloc | apply Kd.R_drewN | apply Kd.R_drew)); exact (Kd.R_mono (Kd.R_far (Kd.R_far (Kd.R_far (Kd.R_far (Kd.R_types HO357.out BK358.out (by decide)) (fun _ hk => hk.2) _) (fun _ hk => hk.2) _) (fun _ hk => hk.2) _) (fun _ hk => hk.2) _) (fun _ h_ => h_.1))) hb); have n3_ := Az (blk_below (g := gb346) (o := .cells #[.slice A0_0 l0_0.length c0_0, .slice A0_1 l0_1.length c0_1, .int .i64 a0_2, .slice A0_3 l0_3.length c0_3] 28 (0, 0)) (by refine ms ?_; refine blk_far ?_ NB346_358.out _; refine ms ?_; refine blk_far ?_ NB346_358.out _; refine ms ?_; refine blk_far ?_ NB346_358.out _; refine ms ?_; refine blk_far ?_ NB346_358.out _; refine ms ?_; exact BK346.out) hb); have n4_ := Az (blk_below (g := gb347) (o := .cells #[.slice none 0 0, .slice none 0 0, .int .i64 0, .slice none 0 0] 28 (0, 0)) (by refine ms ?_; refine blk_far ?_ NB347_358.out _; refine ms ?_; refine blk_far ?_ NB347_358.out _; refine ms ?_; refine blk_far ?_ NB347_358.out _; refine ms ?_; refine blk_far ?_ NB347_358.out _; refine ms ?_; exact BK347.out) hb); have n5_ := Az (blk_below (g := gb358) (o := .cells #[.slice Ao14 t348.length co14, .slice Ao18 t351.length co18, .int .i64 t354, .slice Ao19 t355.length co19] 28 (0, 0)) (by refine ms ?_; refine blk_put (cs := #[.slice Ao14 t348.length co14, .slice Ao18 t351.length co18, .int .i64 t354, .slice none 0 0]) ?_ 3 _ rfl; refine ms ?_; refine blk_put (cs := #[.slice Ao14 t348.length co14, .slice Ao18 t351.length co18, .int .i64 0, .slice none 0 0]) ?_ 2 _ rfl; refine ms ?_; refine blk_put (cs := #[.slice Ao14 t348.length co14, .slice none 0 0, .int .i64 0, .slice none 0 0]) ?_ 1 _ rfl; refine ms ?_; refine blk_put (cs := #[.slice none 0 0, .slice none 0 0, .int .i64 0, .slice none 0 0]) ?_ 0 _ rfl; refine ms ?_; exact BK358.out) hb); have n6_ := Az (below_step (mb HB) hb); clear HO350 HO353 HO357 BK346 BK347 BK358 HB; have HO350 := n0_; have HO353 := n1_; have HO357 := n2_; have BK346 := n3_; have BK347 := n4_; have BK358 := n5_; have HB := n6_; clear n0_ n1_ n2_ n3_ n4_ n5_ n6_; (try clear hb); (try clear hb2); (try clear hk); (try clear hi)) | (go_at_call 56; (with_reducible refine (spec_Aligned.calls a2 a3 false _ A22.out).mono ?_); rintro e w' ⟨rfl, ⟨nd, rfl⟩⟩))
        go_meet
        case rel => exact ⟨_, (true), (by first | rfl | (simp; done) | (simp [*]; done)), H', ⟨by first | omega | exact Nat.le_refl _⟩, ⟨mr HO350⟩, ⟨mr HO353⟩, ⟨mr HO357⟩, ⟨mz BK346⟩, ⟨mz BK347⟩, ⟨mz BK358⟩, ⟨mb HB⟩⟩
    · replace c21 := Bool.eq_false_iff.mpr c21
      subst c21
      have H1 : (spec_ModelDo.j0 k a1 a2 a3 a4 true l0_0 l0_1 a0_2 l0_3 t348 t351 t354 t355) = some (r1, r2, r3, r4, r5, r6) := by rw [if_neg (show ¬ (false = true) by decide)] at H; exact H
      clear H
      have H := H1
      clear H1
      have H' := Aside0.mk H
      clear H
      have hnb39 := NB346_347.out
      have hnc39 := NB347_346.out
      have hnb40 := NB346_358.out
      have hnc40 := NB358_346.out
      have hcz41_0 := bz0 BK346
      have hcz41_1 := bz1 BK346
      have hcz41_2 := bz2 BK346
      have hcz41_3 := bz3 BK346
      have hfz41_0 := bf BK346 0
      have hfz41_1 := bf BK346 1
      have hfz41_2 := bf BK346 2
      have hfz41_3 := bf BK346 3
      go_wp2_with (first | ((with_reducible refine gate_callee (f := 39) rfl ?_); refine goesL_ (some 22) rfl rfl Try.func39 (by kernel_rfl) rfl #[.agg #[.slice A0_0 l0_0.length c0_0, .slice A0_1 l0_1.length c0_1, .int .i64 a0_2, .slice A0_3 l0_3.length c0_3]] rfl ml ?_; (with_reducible refine (spec_ModelOk.calls k _ _ l0_0 _ _ l0_1 a0_2 _ _ l0_3 false _ ?side1 ?side2 ?side3 ?side4 ?side5 ?side6 A20.out).mono ?_); (case side1 => exact Kd.C_below HR0_0.out (mb HB)); (case side2 => exact HC0_0.out); (case side3 => exact Kd.C_below HR0_1.out (mb HB)); (case side4 => exact HC0_1.out); (case side5 => exact Kd.C_below HR0_3.out (mb HB)); (case side6 => exact HC0_3.out); rintro e w42 ⟨rfl, hb⟩; refine ⟨_, rfl, ?_⟩; have n0_ := Az (Kd.R_below (by (with_reducible repeat (first | apply Kd.R_alloc | apply Kd.R_drewN | apply Kd.R_drew)); exact (Kd.R_mono (Kd.R_far (Kd.R_far (Kd.R_far (Kd.R_far (Kd.R_types HO350.out BK358.out (by decide)) (fun _ hk => hk.2) _) (fun _ hk => hk.2) _) (fun _ hk => hk.2) _) (fun _ hk => hk.2) _) (fun _ h_ => h_.1))) hb); have n1_ := Az (Kd.R_below (by (with_reducible repeat (first | apply Kd.R_alloc | apply Kd.R_drewN | apply Kd.R_drew)); exact (Kd.R_mono (Kd.R_far (Kd.R_far (Kd.R_far (Kd.R_far (Kd.R_types HO353.out BK358.out (by decide)) (fun _ hk => hk.2) _) (fun _ hk => hk.2) _) (fun _ hk => hk.2) _) (fun _ hk => hk.2) _) (fun _ h_ => h_.1))) hb); have n2_ := Az (Kd.R_below (by (with_reducible repeat (first | apply Kd.R_alloc | apply Kd.R_drewN | apply Kd.R_drew)); exact (Kd.R_mono (Kd.R_far (Kd.R_far (Kd.R_far (Kd.R_far (Kd.R_types HO357.out BK358.out (by decide)) (fun _ hk => hk.2) _) (fun _ hk => hk.2) _) (fun _ hk => hk.2) _) (fun _ hk => hk.2) _) (fun _ h_ => h_.1))) hb); have n3_ := Az (blk_below (g := gb346) (o := .cells #[.slice A0_0 l0_0.length c0_0, .slice A0_1 l0_1.length c0_1, .int .i64 a0_2, .slice A0_3 l0_3.length c0_3] 28 (0, 0)) (by refine ms ?_; refine blk_far ?_ NB346_358.out _; refine ms ?_; refine blk_far ?_ NB346_358.out _; refine ms ?_; refine blk_far ?_ NB346_358.out _; refine ms ?_; refine blk_far ?_ NB346_358.out _; refine ms ?_; exact BK346.out) hb); have n4_ := Az (blk_below (g := gb347) (o := .cells #[.slice none 0 0, .slice none 0 0, .int .i64 0, .slice none 0 0] 28 (0, 0)) (by refine ms ?_; refine blk_far ?_ NB347_358.out _; refine ms ?_; refine blk_far ?_ NB347_358.out _; refine ms ?_; refine blk_far ?_ NB347_358.out _; refine ms ?_; refine blk_far ?_ NB347_358.out _; refine ms ?_; exact BK347.out) hb); have n5_ := Az (blk_below (g := gb358) (o := .cells #[.slice Ao14 t348.length co14, .slice Ao18 t351.length co18, .int .i64 t354, .slice Ao19 t355.length co19] 28 (0, 0)) (by refine ms ?_; refine blk_put (cs := #[.slice Ao14 t348.length co14, .slice Ao18 t351.length co18, .int .i64 t354, .slice none 0 0]) ?_ 3 _ rfl; refine ms ?_; refine blk_put (cs := #[.slice Ao14 t348.length co14, .slice Ao18 t351.length co18, .int .i64 0, .slice none 0 0]) ?_ 2 _ rfl; refine ms ?_; refine blk_put (cs := #[.slice Ao14 t348.length co14, .slice none 0 0, .int .i64 0, .slice none 0 0]) ?_ 1 _ rfl; refine ms ?_; refine blk_put (cs := #[.slice none 0 0, .slice none 0 0, .int .i64 0, .slice none 0 0]) ?_ 0 _ rfl; refine ms ?_; exact BK358.out) hb); have n6_ := Az (below_step (mb HB) hb); clear HO350 HO353 HO357 BK346 BK347 BK358 HB; have HO350 := n0_; have HO353 := n1_; have HO357 := n2_; have BK346 := n3_; have BK347 := n4_; have BK358 := n5_; have HB := n6_; clear n0_ n1_ n2_ n3_ n4_ n5_ n6_; (try clear hb); (try clear hb2); (try clear hk); (try clear hi)))
      go_meet
      case rel => exact ⟨_, (true), (by first | rfl | (simp; done) | (simp [*]; done)), H', ⟨by first | omega | exact Nat.le_refl _⟩, ⟨mr HO350⟩, ⟨mr HO353⟩, ⟨mr HO357⟩, ⟨mz BK346⟩, ⟨mz BK347⟩, ⟨mz BK358⟩, ⟨mb HB⟩⟩
  case rest =>
    clear HC7
    try clear hcz11_0
    try clear hcz11_1
    try clear hcz11_2
    try clear hcz11_3
    try clear hcz17_0
    try clear hcz17_1
    try clear hcz17_2
    try clear hcz17_3
    try clear hfz11_0
    try clear hfz11_1
    try clear hfz11_2
    try clear hfz11_3
    try clear hfz17_0
    try clear hfz17_1
    try clear hfz17_2
    try clear hfz17_3
    obtain ⟨kq, x40_6, rfl, HA, HJ6, HO_359000, HO_359001, HO_359003, BK346, BK347, BK358, HB⟩ := hcut
    cases kq with
    | zero => exact absurd HA.out (by simp [spec_ModelDo.j0])
    | succ kj6 =>
      have H := HA.out
      clear HA
      simp only [spec_ModelDo.j0] at H
      by_cases c43 : x40_6 = true
      · subst c43
        have H1 : (some (t348, t351, t354, t355, 0, 1)) = some (r1, r2, r3, r4, r5, r6) := by rw [if_pos rfl] at H; exact H
        clear H
        have H := H1
        clear H1
        simp only [Option.some.injEq, Prod.mk.injEq] at H
        obtain ⟨rfl, rfl, rfl, rfl, rfl, rfl⟩ := H
        have hnb44 := NB358_346.out
        have hnc44 := NB346_358.out
        have hnb45 := NB358_347.out
        have hnc45 := NB347_358.out
        have hcz46_0 := bz0 BK358
        have hcz46_1 := bz1 BK358
        have hcz46_2 := bz2 BK358
        have hcz46_3 := bz3 BK358
        have hfz46_0 := bf BK358 0
        have hfz46_1 := bf BK358 1
        have hfz46_2 := bf BK358 2
        have hfz46_3 := bf BK358 3
        have hnb47 := NB347_346.out
        have hnc47 := NB346_347.out
        have hcz48_0 := bz0 BK347
        have hcz48_1 := bz1 BK347
        have hcz48_2 := bz2 BK347
        have hcz48_3 := bz3 BK347
        have hfz48_0 := bf BK347 0
        have hfz48_1 := bf BK347 1
        have hfz48_2 := bf BK347 2
        have hfz48_3 := bf BK347 3
        go_wp2
        refine bodyPost_ret (results_ctt rfl _ _ gb347 28 #[.slice Ao14 t348.length co14, .slice Ao18 t351.length co18, .int .i64 t354, .slice Ao19 t355.length co19] (0, 0) _ rfl (by refine ms ?_; refine blk_put (cs := #[.slice Ao14 t348.length co14, .slice Ao18 t351.length co18, .int .i64 t354, .slice none 0 0]) ?_ 3 _ rfl; refine ms ?_; refine blk_put (cs := #[.slice Ao14 t348.length co14, .slice Ao18 t351.length co18, .int .i64 0, .slice none 0 0]) ?_ 2 _ rfl; refine ms ?_; refine blk_put (cs := #[.slice Ao14 t348.length co14, .slice none 0 0, .int .i64 0, .slice none 0 0]) ?_ 1 _ rfl; refine ms ?_; refine blk_put (cs := #[.slice none 0 0, .slice none 0 0, .int .i64 0, .slice none 0 0]) ?_ 0 _ rfl; refine ms ?_; exact BK347.out) Try.underlying28 rfl (by kernel_rfl)) rfl ?_
        exact ⟨_, _, _, by first | rfl | (simp [errW_none, errW_some] <;> rfl) | (simp [*, errW_none, errW_some] <;> rfl), by (with_reducible repeat (first | apply Kd.R_alloc | apply Kd.R_drewN | apply Kd.R_drew)); exact Kd.R_mono (Kd.R_far (Kd.R_far (Kd.R_far (Kd.R_far (Kd.R_types HO_359000.out BK347.out (by decide)) (fun _ hk => hk.2) _) (fun _ hk => hk.2) _) (fun _ hk => hk.2) _) (fun _ hk => hk.2) _) (fun _ hk => ⟨hk.1.1, hk.1.2⟩), by (with_reducible repeat (first | apply Kd.R_alloc | apply Kd.R_drewN | apply Kd.R_drew)); exact Kd.R_mono (Kd.R_far (Kd.R_far (Kd.R_far (Kd.R_far (Kd.R_types HO_359001.out BK347.out (by decide)) (fun _ hk => hk.2) _) (fun _ hk => hk.2) _) (fun _ hk => hk.2) _) (fun _ hk => hk.2) _) (fun _ hk => ⟨hk.1.1, hk.1.2⟩), Kd.Q_of_R (by (with_reducible repeat (first | apply Kd.R_alloc | apply Kd.R_drewN | apply Kd.R_drew)); exact Kd.R_mono (Kd.R_far (Kd.R_far (Kd.R_far (Kd.R_far (Kd.R_types HO_359003.out BK347.out (by decide)) (fun _ hk => hk.2) _) (fun _ hk => hk.2) _) (fun _ hk => hk.2) _) (fun _ hk => hk.2) _) (fun _ hk => ⟨hk.1.1, hk.1.2⟩)), mb HB⟩
      · replace c43 := Bool.eq_false_iff.mpr c43
        subst c43
        have H1 : ((spec_SlaveOf.f kj6 a2).bind fun t363 => (if t363 = 1 then (spec_ModelDo.j1 kj6 a1 a2 a3 a4 t363 (t363 == 1) l0_0 l0_1 a0_2 l0_3 t348 t351 t354 t355) else (spec_ModelDo.j1 kj6 a1 a2 a3 a4 t363 (t363 == 2) l0_0 l0_1 a0_2 l0_3 t348 t351 t354 t355))) = some (r1, r2, r3, r4, r5, r6) := by rw [if_neg (show ¬ (false = true) by decide)] at H; exact H
        clear H
        have H := H1
        clear H1
        replace H := Option.bind_eq_some_iff.mp H
        obtain ⟨t363, A490, H⟩ := H
        replace H : (if t363 = 1 then (spec_ModelDo.j1 kj6 a1 a2 a3 a4 t363 (t363 == 1) l0_0 l0_1 a0_2 l0_3 t348 t351 t354 t355) else (spec_ModelDo.j1 kj6 a1 a2 a3 a4 t363 (t363 == 2) l0_0 l0_1 a0_2 l0_3 t348 t351 t354 t355)) = some (r1, r2, r3, r4, r5, r6) := H
        have A49 := Aside0.mk A490
        clear A490
        have HC50 := Aside0.mk H
        clear H
        go_upto_if 44 with (first | ((with_reducible refine gate_callee (f := 59) rfl ?_); refine goesL_ (some 43) rfl rfl Try.func59 (by kernel_rfl) rfl #[.int .i64 a2] rfl ml ?_; (with_reducible refine (spec_SlaveOf.calls kj6 a2 t363 _ A49.out).mono ?_); rintro e w' ⟨rfl, ⟨nd, rfl⟩⟩; refine ⟨_, rfl, ?_⟩))
        (try simp only [Act.put, List.setIfInBounds_toArray, List.set_cons_zero, List.set_cons_succ])
        go_cut [44] (fun v44 wc => ∃ (kq : Nat) (x44_49 : Bool), v44 = .bool x44_49 ∧ Aside0 (spec_ModelDo.j1 kq a1 a2 a3 a4 t363 x44_49 l0_0 l0_1 a0_2 l0_3 t348 t351 t354 t355 = some (r1, r2, r3, r4, r5, r6)) ∧ Aside0 (kq ≤ kj6) ∧ Aside0 (Kd.R (Kd.int .i64) 3 wc w.heap.size (fun k_ => some k_ ≠ ((.slice Ao18 t351.length co18) : Value).ownBlock ∧ some k_ ≠ ((.slice Ao19 t355.length co19) : Value).ownBlock) (.slice Ao14 t348.length co14) t348) ∧ Aside0 (Kd.R (Kd.int .i64) 3 wc w.heap.size (fun k_ => some k_ ≠ ((.slice Ao14 t348.length co14) : Value).ownBlock ∧ some k_ ≠ ((.slice Ao19 t355.length co19) : Value).ownBlock) (.slice Ao18 t351.length co18) t351) ∧ Aside0 (Kd.R (Kd.int .i64) 3 wc w.heap.size (fun k_ => some k_ ≠ ((.slice Ao14 t348.length co14) : Value).ownBlock ∧ some k_ ≠ ((.slice Ao18 t351.length co18) : Value).ownBlock) (.slice Ao19 t355.length co19) t355) ∧ Aside0 (wc.heap[gb346]? = some (.cells #[(.slice A0_0 l0_0.length c0_0), (.slice A0_1 l0_1.length c0_1), .int .i64 a0_2, (.slice A0_3 l0_3.length c0_3)] 28 (0, 0))) ∧ Aside0 (wc.heap[gb347]? = some (.cells #[(.slice none 0 0), (.slice none 0 0), .int .i64 0, (.slice none 0 0)] 28 (0, 0))) ∧ Aside0 (wc.heap[gb358]? = some (.cells #[(.slice Ao14 t348.length co14), (.slice Ao18 t351.length co18), .int .i64 t354, (.slice Ao19 t355.length co19)] 28 (0, 0))) ∧ Aside0 (Below w.heap.size w wc))
        case first =>
          have H := HC50.out
          clear HC50
          by_cases c51 : t363 = 1
          · rw [if_pos c51] at H
            have c51b0 : (t363 == 1) = true := beq_iff_eq.mpr c51
            have c51b1 : (t363 != 1) = false := bne_eq_false_iff_eq.mpr c51
            clear c51
            (first | rw [c51b0] | (simp only [i64_w, i32_w]; rw [c51b0]) | skip)
            have H' := Aside0.mk H
            clear H
            go_wp2
            go_meet
            case rel => exact ⟨_, ((t363 == 1)), (by first | rfl | (simp; done) | (simp [*]; done)), H', ⟨by have := HJ6.out; first | omega | exact Nat.le_refl _⟩, ⟨mr HO_359000⟩, ⟨mr HO_359001⟩, ⟨mr HO_359003⟩, ⟨mz BK346⟩, ⟨mz BK347⟩, ⟨mz BK358⟩, ⟨mb HB⟩⟩
          · rw [if_neg c51] at H
            have c51b0 : (t363 == 1) = false := beq_eq_false_iff_ne.mpr c51
            have c51b1 : (t363 != 1) = true := bne_iff_ne.mpr c51
            (first | rw [c51b0] | (simp only [i64_w, i32_w]; rw [c51b0]) | skip)
            have H' := Aside0.mk H
            clear H
            go_wp2
            go_meet
            case rel => exact ⟨_, ((t363 == 2)), (by first | rfl | (simp; done) | (simp [*]; done)), H', ⟨by have := HJ6.out; first | omega | exact Nat.le_refl _⟩, ⟨mr HO_359000⟩, ⟨mr HO_359001⟩, ⟨mr HO_359003⟩, ⟨mz BK346⟩, ⟨mz BK347⟩, ⟨mz BK358⟩, ⟨mb HB⟩⟩
        case rest =>
          clear HC50
          try clear c43
          try clear hcz11_0
          try clear hcz11_1
          try clear hcz11_2
          try clear hcz11_3
          try clear hcz17_0
          try clear hcz17_1
          try clear hcz17_2
          try clear hcz17_3
          try clear hfz11_0
          try clear hfz11_1
          try clear hfz11_2
          try clear hfz11_3
          try clear hfz17_0
          try clear hfz17_1
          try clear hfz17_2
          try clear hfz17_3
          obtain ⟨kq, x44_49, rfl, HA, HJ49, HO_359000, HO_359001, HO_359003, BK346, BK347, BK358, HB⟩ := hcut
          cases kq with
          | zero => exact absurd HA.out (by simp [spec_ModelDo.j1])
          | succ kj49 =>
            have H := HA.out
            clear HA
            simp only [spec_ModelDo.j1] at H
            by_cases c52 : x44_49 = true
            · subst c52
              have H1 : (if a1 = true then ((spec_PutNum.f kj49 l0_0 a2 a3 a4).bind fun bt364 => (some (bt364.1, t351, t354, t355, a4, 0))) else ((spec_GetNum.f kj49 l0_0 a2 a3).bind fun bt368 => (some (t348, t351, t354, t355, bt368.1, 0)))) = some (r1, r2, r3, r4, r5, r6) := by rw [if_pos rfl] at H; exact H
              clear H
              have H := H1
              clear H1
              by_cases c53 : a1 = true
              · subst c53
                have H1 : ((spec_PutNum.f kj49 l0_0 a2 a3 a4).bind fun bt364 => (some (bt364.1, t351, t354, t355, a4, 0))) = some (r1, r2, r3, r4, r5, r6) := by rw [if_pos rfl] at H; exact H
                clear H
                have H := H1
                clear H1
                replace H := Option.bind_eq_some_iff.mp H
                obtain ⟨⟨t364, t365⟩, A540, H⟩ := H
                replace H : (some (t364, t351, t354, t355, a4, 0)) = some (r1, r2, r3, r4, r5, r6) := H
                have A54 := Aside0.mk A540
                clear A540
                simp only [Option.some.injEq, Prod.mk.injEq] at H
                obtain ⟨rfl, rfl, rfl, rfl, rfl, rfl⟩ := H
                have hnb55 := NB346_347.out
                have hnc55 := NB347_346.out
                have hnb56 := NB346_358.out
                have hnc56 := NB358_346.out
                have hcz57_0 := bz0 BK346
                have hcz57_1 := bz1 BK346
                have hcz57_2 := bz2 BK346
                have hcz57_3 := bz3 BK346
                have hfz57_0 := bf BK346 0
                have hfz57_1 := bf BK346 1
                have hfz57_2 := bf BK346 2
                have hfz57_3 := bf BK346 3
                go_wp2_with (first | ((with_reducible refine gate_callee (f := 60) rfl ?_); refine goesL_ (some 54) rfl rfl Try.func60 (by kernel_rfl) rfl #[.slice A0_0 l0_0.length c0_0, .int .i64 a2, .int .i64 a3, .int .i64 a4] rfl ml ?_; (with_reducible refine (spec_PutNum.calls kj49 _ _ l0_0 a2 a3 a4 t364 t365 _ ?side1 ?side2 A54.out).mono ?_); (case side1 => exact mc (Kd.C_below HR0_0.out HB.out)); (case side2 => exact HC0_0.out); rintro e w58 ⟨v366, rfl, ho0, hb⟩; refine ⟨_, rfl, ?_⟩; have n0_ := Az (Kd.R_elder' (mr HO_359000) (Kd.R_base ho0) hb); have n1_ := Az (Kd.R_elder' (mr HO_359001) (Kd.R_base ho0) hb); have n2_ := Az (Kd.R_elder' (mr HO_359003) (Kd.R_base ho0) hb); have n3_ := Az (Kd.R_lower (Kd.R_new' (Kd.R_new' (Kd.R_new' ho0 (Kd.R_lt (mr HO_359000))) (Kd.R_lt (mr HO_359001))) (Kd.R_lt (mr HO_359003))) (below_size (mb HB))); have n4_ := Az (blk_below (mz BK346) hb); have n5_ := Az (blk_below (mz BK347) hb); have n6_ := Az (blk_below (mz BK358) hb); have n7_ := Az (below_step (mb HB) hb); clear HO_359000 HO_359001 HO_359003 BK346 BK347 BK358 HB; have HO_359000 := n0_; have HO_359001 := n1_; have HO_359003 := n2_; have HO367 := n3_; have BK346 := n4_; have BK347 := n5_; have BK358 := n6_; have HB := n7_; clear n0_ n1_ n2_ n3_ n4_ n5_ n6_ n7_; (try clear hb); (try clear hb2); (try clear hk); (try clear hi); (try clear ho0); obtain ⟨Ao59, co59, eo59⟩ := Kd.R_slice HO367.out; subst eo59; have hnb60 := NB358_347.out; have hnc60 := NB347_358.out; have hcz61_0 := bz0 BK358; have hcz61_1 := bz1 BK358; have hcz61_2 := bz2 BK358; have hcz61_3 := bz3 BK358; have hfz61_0 := bf BK358 0; have hfz61_1 := bf BK358 1; have hfz61_2 := bf BK358 2; have hfz61_3 := bf BK358 3; have hcz62_0 := bz0 BK347; have hcz62_1 := bz1 BK347; have hcz62_2 := bz2 BK347; have hcz62_3 := bz3 BK347; have hfz62_0 := bf BK347 0; have hfz62_1 := bf BK347 1; have hfz62_2 := bf BK347 2; have hfz62_3 := bf BK347 3))
                refine bodyPost_ret (results_ctt rfl _ _ gb347 28 #[.slice Ao59 t364.length co59, .slice Ao18 t351.length co18, .int .i64 t354, .slice Ao19 t355.length co19] (0, 0) _ rfl (by refine ms ?_; refine blk_put (cs := #[.slice Ao59 t364.length co59, .slice Ao18 t351.length co18, .int .i64 t354, .slice none 0 0]) ?_ 3 _ rfl; refine ms ?_; refine blk_put (cs := #[.slice Ao59 t364.length co59, .slice Ao18 t351.length co18, .int .i64 0, .slice none 0 0]) ?_ 2 _ rfl; refine ms ?_; refine blk_put (cs := #[.slice Ao59 t364.length co59, .slice none 0 0, .int .i64 0, .slice none 0 0]) ?_ 1 _ rfl; refine ms ?_; refine blk_put (cs := #[.slice none 0 0, .slice none 0 0, .int .i64 0, .slice none 0 0]) ?_ 0 _ rfl; refine ms ?_; refine blk_far ?_ NB347_358.out _; refine ms ?_; exact BK347.out) Try.underlying28 rfl (by kernel_rfl)) rfl ?_
                exact ⟨_, _, _, by first | rfl | (simp [errW_none, errW_some] <;> rfl) | (simp [*, errW_none, errW_some] <;> rfl), by (with_reducible repeat (first | apply Kd.R_alloc | apply Kd.R_drewN | apply Kd.R_drew)); exact Kd.R_mono (Kd.R_far (Kd.R_far (Kd.R_far (Kd.R_far (Kd.R_far (Kd.R_types (Kd.R_types HO367.out BK358.out (by decide)) BK347.out (by decide)) (fun _ hk => hk.1.2) _) (fun _ hk => hk.2) _) (fun _ hk => hk.2) _) (fun _ hk => hk.2) _) (fun _ hk => hk.2) _) (fun _ hk => ⟨hk.1.1.1.2, hk.1.1.2⟩), by (with_reducible repeat (first | apply Kd.R_alloc | apply Kd.R_drewN | apply Kd.R_drew)); exact Kd.R_mono (Kd.R_far (Kd.R_far (Kd.R_far (Kd.R_far (Kd.R_far (Kd.R_types (Kd.R_types HO_359001.out BK358.out (by decide)) BK347.out (by decide)) (fun _ hk => hk.1.2) _) (fun _ hk => hk.2) _) (fun _ hk => hk.2) _) (fun _ hk => hk.2) _) (fun _ hk => hk.2) _) (fun _ hk => ⟨hk.1.1.2, hk.1.1.1.2⟩), Kd.Q_of_R (by (with_reducible repeat (first | apply Kd.R_alloc | apply Kd.R_drewN | apply Kd.R_drew)); exact Kd.R_mono (Kd.R_far (Kd.R_far (Kd.R_far (Kd.R_far (Kd.R_far (Kd.R_types (Kd.R_types HO_359003.out BK358.out (by decide)) BK347.out (by decide)) (fun _ hk => hk.1.2) _) (fun _ hk => hk.2) _) (fun _ hk => hk.2) _) (fun _ hk => hk.2) _) (fun _ hk => hk.2) _) (fun _ hk => ⟨hk.1.1.2, hk.1.1.1.2⟩)), mb HB⟩
              · replace c53 := Bool.eq_false_iff.mpr c53
                subst c53
                have H1 : ((spec_GetNum.f kj49 l0_0 a2 a3).bind fun bt368 => (some (t348, t351, t354, t355, bt368.1, 0))) = some (r1, r2, r3, r4, r5, r6) := by rw [if_neg (show ¬ (false = true) by decide)] at H; exact H
                clear H
                have H := H1
                clear H1
                replace H := Option.bind_eq_some_iff.mp H
                obtain ⟨⟨t368, t369⟩, A630, H⟩ := H
                replace H : (some (t348, t351, t354, t355, t368, 0)) = some (r1, r2, r3, r4, r5, r6) := H
                have A63 := Aside0.mk A630
                clear A630
                simp only [Option.some.injEq, Prod.mk.injEq] at H
                obtain ⟨rfl, rfl, rfl, rfl, rfl, rfl⟩ := H
                have hnb64 := NB346_347.out
                have hnc64 := NB347_346.out
                have hnb65 := NB346_358.out
                have hnc65 := NB358_346.out
                have hcz66_0 := bz0 BK346
                have hcz66_1 := bz1 BK346
                have hcz66_2 := bz2 BK346
                have hcz66_3 := bz3 BK346
                have hfz66_0 := bf BK346 0
                have hfz66_1 := bf BK346 1
                have hfz66_2 := bf BK346 2
                have hfz66_3 := bf BK346 3
                go_wp2_with (first | ((with_reducible refine gate_callee (f := 61) rfl ?_); refine goesL_ (some 65) rfl rfl Try.func61 (by kernel_rfl) rfl #[.slice A0_0 l0_0.length c0_0, .int .i64 a2, .int .i64 a3] rfl ml ?_; (with_reducible refine (spec_GetNum.calls kj49 _ _ l0_0 a2 a3 t368 t369 _ ?side1 ?side2 A63.out).mono ?_); (case side1 => exact mc (Kd.C_below HR0_0.out HB.out)); (case side2 => exact HC0_0.out); rintro e w' ⟨rfl, ⟨nd, rfl⟩⟩; refine ⟨_, rfl, ?_⟩; (try (rw [drewN_self wc]; generalize hq_ : World.drewN wc _ = wc; have n0_ : Aside0 (Kd.R (Kd.int .i64) 3 wc w.heap.size (fun k_ => some k_ ≠ (.slice Ao18 t351.length co18 : Value).ownBlock ∧ some k_ ≠ (.slice Ao19 t355.length co19 : Value).ownBlock) (.slice Ao14 t348.length co14) t348) := ⟨by rw [← hq_]; exact (mr HO_359000)⟩; have n1_ : Aside0 (Kd.R (Kd.int .i64) 3 wc w.heap.size (fun k_ => some k_ ≠ (.slice Ao14 t348.length co14 : Value).ownBlock ∧ some k_ ≠ (.slice Ao19 t355.length co19 : Value).ownBlock) (.slice Ao18 t351.length co18) t351) := ⟨by rw [← hq_]; exact (mr HO_359001)⟩; have n2_ : Aside0 (Kd.R (Kd.int .i64) 3 wc w.heap.size (fun k_ => some k_ ≠ (.slice Ao14 t348.length co14 : Value).ownBlock ∧ some k_ ≠ (.slice Ao18 t351.length co18 : Value).ownBlock) (.slice Ao19 t355.length co19) t355) := ⟨by rw [← hq_]; exact (mr HO_359003)⟩; have n3_ : Aside0 (wc.heap[gb346]? = some (.cells #[.slice A0_0 l0_0.length c0_0, .slice A0_1 l0_1.length c0_1, .int .i64 a0_2, .slice A0_3 l0_3.length c0_3] 28 (0, 0))) := ⟨by rw [← hq_]; exact (mz BK346)⟩; have n4_ : Aside0 (wc.heap[gb347]? = some (.cells #[.slice none 0 0, .slice none 0 0, .int .i64 0, .slice none 0 0] 28 (0, 0))) := ⟨by rw [← hq_]; exact (mz BK347)⟩; have n5_ : Aside0 (wc.heap[gb358]? = some (.cells #[.slice Ao14 t348.length co14, .slice Ao18 t351.length co18, .int .i64 t354, .slice Ao19 t355.length co19] 28 (0, 0))) := ⟨by rw [← hq_]; exact (mz BK358)⟩; have n6_ : Aside0 (Below w.heap.size w wc) := ⟨by rw [← hq_]; exact (mb HB)⟩; clear HO_359000 HO_359001 HO_359003 BK346 BK347 BK358 HB hq_; have HO_359000 := n0_; have HO_359001 := n1_; have HO_359003 := n2_; have BK346 := n3_; have BK347 := n4_; have BK358 := n5_; have HB := n6_; clear n0_ n1_ n2_ n3_ n4_ n5_ n6_)); have hnb67 := NB358_347.out; have hnc67 := NB347_358.out; have hcz68_0 := bz0 BK358; have hcz68_1 := bz1 BK358; have hcz68_2 := bz2 BK358; have hcz68_3 := bz3 BK358; have hfz68_0 := bf BK358 0; have hfz68_1 := bf BK358 1; have hfz68_2 := bf BK358 2; have hfz68_3 := bf BK358 3; have hcz69_0 := bz0 BK347; have hcz69_1 := bz1 BK347; have hcz69_2 := bz2 BK347; have hcz69_3 := bz3 BK347; have hfz69_0 := bf BK347 0; have hfz69_1 := bf BK347 1; have hfz69_2 := bf BK347 2; have hfz69_3 := bf BK347 3))
                refine bodyPost_ret (results_ctt rfl _ _ gb347 28 #[.slice Ao14 t348.length co14, .slice Ao18 t351.length co18, .int .i64 t354, .slice Ao19 t355.length co19] (0, 0) _ rfl (by refine ms ?_; refine blk_put (cs := #[.slice Ao14 t348.length co14, .slice Ao18 t351.length co18, .int .i64 t354, .slice none 0 0]) ?_ 3 _ rfl; refine ms ?_; refine blk_put (cs := #[.slice Ao14 t348.length co14, .slice Ao18 t351.length co18, .int .i64 0, .slice none 0 0]) ?_ 2 _ rfl; refine ms ?_; refine blk_put (cs := #[.slice Ao14 t348.length co14, .slice none 0 0, .int .i64 0, .slice none 0 0]) ?_ 1 _ rfl; refine ms ?_; refine blk_put (cs := #[.slice none 0 0, .slice none 0 0, .int .i64 0, .slice none 0 0]) ?_ 0 _ rfl; refine ms ?_; exact BK347.out) Try.underlying28 rfl (by kernel_rfl)) rfl ?_
                exact ⟨_, _, _, by first | rfl | (simp [errW_none, errW_some] <;> rfl) | (simp [*, errW_none, errW_some] <;> rfl), by (with_reducible repeat (first | apply Kd.R_alloc | apply Kd.R_drewN | apply Kd.R_drew)); exact Kd.R_mono (Kd.R_far (Kd.R_far (Kd.R_far (Kd.R_far (Kd.R_types HO_359000.out BK347.out (by decide)) (fun _ hk => hk.2) _) (fun _ hk => hk.2) _) (fun _ hk => hk.2) _) (fun _ hk => hk.2) _) (fun _ hk => ⟨hk.1.1, hk.1.2⟩), by (with_reducible repeat (first | apply Kd.R_alloc | apply Kd.R_drewN | apply Kd.R_drew)); exact Kd.R_mono (Kd.R_far (Kd.R_far (Kd.R_far (Kd.R_far (Kd.R_types HO_359001.out BK347.out (by decide)) (fun _ hk => hk.2) _) (fun _ hk => hk.2) _) (fun _ hk => hk.2) _) (fun _ hk => hk.2) _) (fun _ hk => ⟨hk.1.1, hk.1.2⟩), Kd.Q_of_R (by (with_reducible repeat (first | apply Kd.R_alloc | apply Kd.R_drewN | apply Kd.R_drew)); exact Kd.R_mono (Kd.R_far (Kd.R_far (Kd.R_far (Kd.R_far (Kd.R_types HO_359003.out BK347.out (by decide)) (fun _ hk => hk.2) _) (fun _ hk => hk.2) _) (fun _ hk => hk.2) _) (fun _ hk => hk.2) _) (fun _ hk => ⟨hk.1.1, hk.1.2⟩)), mb HB⟩
            · replace c52 := Bool.eq_false_iff.mpr c52
              subst c52
              have H1 : (if t363 = 3 then ((spec_DevDo.f kj49 l0_1 a0_2 l0_3 a1 (wrap64 (a2 - 192)) a4).bind fun bt370 => (if a3 = 2 then (if bt370.2.2.2.2 = true then (some (t348, bt370.1, bt370.2.1, bt370.2.2.1, bt370.2.2.2.1, 0)) else (some (t348, t351, t354, t355, 0, 1))) else (some (t348, t351, t354, t355, 0, 1)))) else (some (t348, t351, t354, t355, 0, 1))) = some (r1, r2, r3, r4, r5, r6) := by rw [if_neg (show ¬ (false = true) by decide)] at H; exact H
              clear H
              have H := H1
              clear H1
              by_cases c70 : t363 = 3
              · rw [if_pos c70] at H
                have c70b0 : (t363 == 3) = true := beq_iff_eq.mpr c70
                have c70b1 : (t363 != 3) = false := bne_eq_false_iff_eq.mpr c70
                clear c70
                replace H := Option.bind_eq_some_iff.mp H
                obtain ⟨⟨t370, t373, t374, t377, t378⟩, A710, H⟩ := H
                replace H : (if a3 = 2 then (if t378 = true then (some (t348, t370, t373, t374, t377, 0)) else (some (t348, t351, t354, t355, 0, 1))) else (some (t348, t351, t354, t355, 0, 1))) = some (r1, r2, r3, r4, r5, r6) := H
                have A71 := Aside0.mk A710
                clear A710
                by_cases c72 : a3 = 2
                · rw [if_pos c72] at H
                  have c72b0 : (a3 == 2) = true := beq_iff_eq.mpr c72
                  have c72b1 : (a3 != 2) = false := bne_eq_false_iff_eq.mpr c72
                  clear c72
                  by_cases c73 : t378 = true
                  · subst c73
                    have H1 : (some (t348, t370, t373, t374, t377, 0)) = some (r1, r2, r3, r4, r5, r6) := by rw [if_pos rfl] at H; exact H
                    clear H
                    have H := H1
                    clear H1
                    simp only [Option.some.injEq, Prod.mk.injEq] at H
                    obtain ⟨rfl, rfl, rfl, rfl, rfl, rfl⟩ := H
                    have hnb74 := NB346_347.out
                    have hnc74 := NB347_346.out
                    have hnb75 := NB346_358.out
                    have hnc75 := NB358_346.out
                    have hcz76_0 := bz0 BK346
                    have hcz76_1 := bz1 BK346
                    have hcz76_2 := bz2 BK346
                    have hcz76_3 := bz3 BK346
                    have hfz76_0 := bf BK346 0
                    have hfz76_1 := bf BK346 1
                    have hfz76_2 := bf BK346 2
                    have hfz76_3 := bf BK346 3
                    go_wp2_with (first | ((with_reducible refine gate_callee (f := 42) rfl ?_); refine goesL_ (some 79) rfl rfl Try.func42 (by kernel_rfl) rfl #[.agg #[.slice A0_1 l0_1.length c0_1, .int .i64 a0_2, .slice A0_3 l0_3.length c0_3], .bool a1, .int .i64 (wrap64 (a2 - 192)), .int .i64 a4] rfl ml ?_; (with_reducible refine (spec_DevDo.calls kj49 _ _ l0_1 a0_2 _ _ l0_3 a1 (wrap64 (a2 - 192)) a4 t370 t373 t374 t377 true _ ?side1 ?side2 ?side3 ?side4 A71.out).mono ?_); (case side1 => exact mc (Kd.C_below HR0_1.out HB.out)); (case side2 => exact HC0_1.out); (case side3 => exact mc (Kd.C_below HR0_3.out HB.out)); (case side4 => exact HC0_3.out); rintro e w77 ⟨v371, v375, rfl, ho0, ho1, hb⟩; refine ⟨_, rfl, ?_⟩; have n0_ := Az (Kd.R_mono (Kd.R_told (Kd.R_told (Kd.R_old (mr HO_359000) hb) (Kd.R_base ho0)) (Kd.Q_base ho1)) (fun _ h_ => h_.1)); have n1_ := Az (Kd.R_mono (Kd.R_told (Kd.R_told (Kd.R_old (mr HO_359001) hb) (Kd.R_base ho0)) (Kd.Q_base ho1)) (fun _ h_ => h_.1)); have n2_ := Az (Kd.R_mono (Kd.R_told (Kd.R_told (Kd.R_old (mr HO_359003) hb) (Kd.R_base ho0)) (Kd.Q_base ho1)) (fun _ h_ => h_.1)); have n3_ := Az (Kd.R_lower (Kd.R_new' (Kd.R_new' (Kd.R_new' ho0 (Kd.R_lt (mr HO_359000))) (Kd.R_lt (mr HO_359001))) (Kd.R_lt (mr HO_359003))) (below_size (mb HB))); have n4_ := Az (Kd.Q_lower (Kd.Q_new' (Kd.Q_new' (Kd.Q_new' ho1 (Kd.R_lt (mr HO_359000))) (Kd.R_lt (mr HO_359001))) (Kd.R_lt (mr HO_359003))) (below_size (mb HB))); have n5_ := Az (blk_below (mz BK346) hb); have n6_ := Az (blk_below (mz BK347) hb); have n7_ := Az (blk_below (mz BK358) hb); have n8_ := Az (below_step (mb HB) hb); clear HO_359000 HO_359001 HO_359003 BK346 BK347 BK358 HB; have HO_359000 := n0_; have HO_359001 := n1_; have HO_359003 := n2_; have HO372 := n3_; have HO376 := n4_; have BK346 := n5_; have BK347 := n6_; have BK358 := n7_; have HB := n8_; clear n0_ n1_ n2_ n3_ n4_ n5_ n6_ n7_ n8_; (try clear hb); (try clear hb2); (try clear hk); (try clear hi); (try clear ho0); (try clear ho1)) | ((with_reducible refine gate_dst (N := 16) rfl ?_); refine box_event ?hg (N := 16) ?hd (cs := #[.slice none 0 0, .int .i64 0, .slice none 0 0]) (t := 26) ?hr ?_; (case hd => rfl); (case hg => rfl); (case hr => first | (go_simp; done) | (go_simp; rfl)); intro gb379 hg w78 hbox hb; have n0_ := Az (Kd.R_below (mr HO_359000) hb); have n1_ := Az (Kd.R_below (mr HO_359001) hb); have n2_ := Az (Kd.R_below (mr HO_359003) hb); have n3_ := Az (Kd.R_below (mr HO372) hb); have n4_ := Az (Kd.Q_below (mq HO376) hb); have n5_ := Az (blk_below (mz BK346) hb); have n6_ := Az (blk_below (mz BK347) hb); have n7_ := Az (blk_below (mz BK358) hb); have n8_ := Az (below_step (mb HB) hb); have n9_ := Az (hbox); have n10_ := Az ((by rw [hg]; exact (below_size (mb HB)) : w.heap.size ≤ gb379)); have n11_ := Az ((by rw [hg]; exact (below_size (mb HB)) : w.heap.size ≤ gb379)); have n12_ := Az ((by rw [hg]; exact Nat.ne_of_lt (blk_lt (mz BK346)) : gb346 ≠ gb379)); have n13_ := Az ((by rw [hg]; exact Nat.ne_of_gt (blk_lt (mz BK346)) : gb379 ≠ gb346)); have n14_ := Az ((by rw [hg]; exact Nat.ne_of_lt (blk_lt (mz BK347)) : gb347 ≠ gb379)); have n15_ := Az ((by rw [hg]; exact Nat.ne_of_gt (blk_lt (mz BK347)) : gb379 ≠ gb347)); have n16_ := Az ((by rw [hg]; exact Nat.ne_of_lt (blk_lt (mz BK358)) : gb358 ≠ gb379)); have n17_ := Az ((by rw [hg]; exact Nat.ne_of_gt (blk_lt (mz BK358)) : gb379 ≠ gb358)); clear HO_359000 HO_359001 HO_359003 HO372 HO376 BK346 BK347 BK358 HB; have HO_359000 := n0_; have HO_359001 := n1_; have HO_359003 := n2_; have HO372 := n3_; have HO376 := n4_; have BK346 := n5_; have BK347 := n6_; have BK358 := n7_; have HB := n8_; have BK379 := n9_; have GW379 := n10_; have GE379 := n11_; have NB346_379 := n12_; have NB379_346 := n13_; have NB347_379 := n14_; have NB379_347 := n15_; have NB358_379 := n16_; have NB379_358 := n17_; clear n0_ n1_ n2_ n3_ n4_ n5_ n6_ n7_ n8_ n9_ n10_ n11_ n12_ n13_ n14_ n15_ n16_ n17_ hb hbox hg; obtain ⟨Ao79, co79, eo79⟩ := Kd.R_slice HO372.out; subst eo79; have hnb80 := NB379_346.out; have hnc80 := NB346_379.out; have hnb81 := NB379_347.out; have hnc81 := NB347_379.out; have hnb82 := NB379_358.out; have hnc82 := NB358_379.out; have hcz83_0 := bz0 BK379; have hcz83_1 := bz1 BK379; have hcz83_2 := bz2 BK379; have hfz83_0 := bf BK379 0; have hfz83_1 := bf BK379 1; have hfz83_2 := bf BK379 2; obtain ⟨Ao84, co84, eo84, _⟩ := Kd.Q_slice HO376.out; subst eo84; have hnb85 := NB358_347.out; have hnc85 := NB347_358.out; have hcz86_0 := bz0 BK358; have hcz86_1 := bz1 BK358; have hcz86_2 := bz2 BK358; have hcz86_3 := bz3 BK358; have hfz86_0 := bf BK358 0; have hfz86_1 := bf BK358 1; have hfz86_2 := bf BK358 2; have hfz86_3 := bf BK358 3; have hcz87_0 := bz0 BK347; have hcz87_1 := bz1 BK347; have hcz87_2 := bz2 BK347; have hcz87_3 := bz3 BK347; have hfz87_0 := bf BK347 0; have hfz87_1 := bf BK347 1; have hfz87_2 := bf BK347 2; have hfz87_3 := bf BK347 3))
                    refine bodyPost_ret (results_ctt rfl _ _ gb347 28 #[.slice Ao14 t348.length co14, .slice Ao79 t370.length co79, .int .i64 t373, .slice Ao84 t374.length co84] (0, 0) _ rfl (by refine ms ?_; refine blk_put (cs := #[.slice Ao14 t348.length co14, .slice Ao79 t370.length co79, .int .i64 t373, .slice none 0 0]) ?_ 3 _ rfl; refine ms ?_; refine blk_put (cs := #[.slice Ao14 t348.length co14, .slice Ao79 t370.length co79, .int .i64 0, .slice none 0 0]) ?_ 2 _ rfl; refine ms ?_; refine blk_put (cs := #[.slice Ao14 t348.length co14, .slice none 0 0, .int .i64 0, .slice none 0 0]) ?_ 1 _ rfl; refine ms ?_; refine blk_put (cs := #[.slice none 0 0, .slice none 0 0, .int .i64 0, .slice none 0 0]) ?_ 0 _ rfl; refine ms ?_; refine blk_far ?_ NB347_358.out _; refine ms ?_; refine blk_far ?_ NB347_358.out _; refine ms ?_; refine blk_far ?_ NB347_358.out _; refine ms ?_; refine blk_far ?_ NB347_379.out _; refine ms ?_; refine blk_far ?_ NB347_379.out _; refine ms ?_; refine blk_far ?_ NB347_379.out _; refine ms ?_; exact BK347.out) Try.underlying28 rfl (by kernel_rfl)) rfl ?_
                    exact ⟨_, _, _, by first | rfl | (simp [errW_none, errW_some] <;> rfl) | (simp [*, errW_none, errW_some] <;> rfl), by (with_reducible repeat (first | apply Kd.R_alloc | apply Kd.R_drewN | apply Kd.R_drew)); exact Kd.R_mono (Kd.R_far (Kd.R_far (Kd.R_far (Kd.R_far (Kd.R_far (Kd.R_far (Kd.R_far (Kd.R_far (Kd.R_far (Kd.R_far (Kd.R_types (Kd.R_types (Kd.R_types HO_359000.out BK379.out (by decide)) BK358.out (by decide)) BK347.out (by decide)) (fun _ hk => hk.1.1.2) _) (fun _ hk => hk.1.1.2) _) (fun _ hk => hk.1.1.2) _) (fun _ hk => hk.1.2) _) (fun _ hk => hk.1.2) _) (fun _ hk => hk.1.2) _) (fun _ hk => hk.2) _) (fun _ hk => hk.2) _) (fun _ hk => hk.2) _) (fun _ hk => hk.2) _) (fun _ hk => ⟨hk.1.1.1.1.2, hk.1.1.1.2⟩), by (with_reducible repeat (first | apply Kd.R_alloc | apply Kd.R_drewN | apply Kd.R_drew)); exact Kd.R_mono (Kd.R_far (Kd.R_far (Kd.R_far (Kd.R_far (Kd.R_far (Kd.R_far (Kd.R_far (Kd.R_far (Kd.R_far (Kd.R_far (Kd.R_types (Kd.R_types (Kd.R_types HO372.out BK379.out (by decide)) BK358.out (by decide)) BK347.out (by decide)) (fun _ hk => hk.1.1.2) _) (fun _ hk => hk.1.1.2) _) (fun _ hk => hk.1.1.2) _) (fun _ hk => hk.1.2) _) (fun _ hk => hk.1.2) _) (fun _ hk => hk.1.2) _) (fun _ hk => hk.2) _) (fun _ hk => hk.2) _) (fun _ hk => hk.2) _) (fun _ hk => hk.2) _) (fun _ hk => ⟨hk.1.1.1.1.1.2, hk.1.1.1.1.1.1⟩), by (with_reducible repeat (first | apply Kd.Q_alloc | apply Kd.Q_drewN | apply Kd.Q_drew)); exact Kd.Q_mono (Kd.Q_far (Kd.Q_far (Kd.Q_far (Kd.Q_far (Kd.Q_far (Kd.Q_far (Kd.Q_far (Kd.Q_far (Kd.Q_far (Kd.Q_far (Kd.Q_types (Kd.Q_types (Kd.Q_types HO376.out BK379.out (by decide)) BK358.out (by decide)) BK347.out (by decide)) (fun _ hk => hk.1.1.2) _) (fun _ hk => hk.1.1.2) _) (fun _ hk => hk.1.1.2) _) (fun _ hk => hk.1.2) _) (fun _ hk => hk.1.2) _) (fun _ hk => hk.1.2) _) (fun _ hk => hk.2) _) (fun _ hk => hk.2) _) (fun _ hk => hk.2) _) (fun _ hk => hk.2) _) (fun _ hk => ⟨hk.1.1.1.1.1.2, hk.1.1.1.1.1.1⟩), mb HB⟩
                  · replace c73 := Bool.eq_false_iff.mpr c73
                    subst c73
                    have H1 : (some (t348, t351, t354, t355, 0, 1)) = some (r1, r2, r3, r4, r5, r6) := by rw [if_neg (show ¬ (false = true) by decide)] at H; exact H
                    clear H
                    have H := H1
                    clear H1
                    simp only [Option.some.injEq, Prod.mk.injEq] at H
                    obtain ⟨rfl, rfl, rfl, rfl, rfl, rfl⟩ := H
                    have hnb88 := NB346_347.out
                    have hnc88 := NB347_346.out
                    have hnb89 := NB346_358.out
                    have hnc89 := NB358_346.out
                    have hcz90_0 := bz0 BK346
                    have hcz90_1 := bz1 BK346
                    have hcz90_2 := bz2 BK346
                    have hcz90_3 := bz3 BK346
                    have hfz90_0 := bf BK346 0
                    have hfz90_1 := bf BK346 1
                    have hfz90_2 := bf BK346 2
                    have hfz90_3 := bf BK346 3
                    go_wp2_with (first | ((with_reducible refine gate_callee (f := 42) rfl ?_); refine goesL_ (some 79) rfl rfl Try.func42 (by kernel_rfl) rfl #[.agg #[.slice A0_1 l0_1.length c0_1, .int .i64 a0_2, .slice A0_3 l0_3.length c0_3], .bool a1, .int .i64 (wrap64 (a2 - 192)), .int .i64 a4] rfl ml ?_; (with_reducible refine (spec_DevDo.calls kj49 _ _ l0_1 a0_2 _ _ l0_3 a1 (wrap64 (a2 - 192)) a4 t370 t373 t374 t377 false _ ?side1 ?side2 ?side3 ?side4 A71.out).mono ?_); (case side1 => exact mc (Kd.C_below HR0_1.out HB.out)); (case side2 => exact HC0_1.out); (case side3 => exact mc (Kd.C_below HR0_3.out HB.out)); (case side4 => exact HC0_3.out); rintro e w91 ⟨v371, v375, rfl, ho0, ho1, hb⟩; refine ⟨_, rfl, ?_⟩; have n0_ := Az (Kd.R_mono (Kd.R_told (Kd.R_told (Kd.R_old (mr HO_359000) hb) (Kd.R_base ho0)) (Kd.Q_base ho1)) (fun _ h_ => h_.1)); have n1_ := Az (Kd.R_mono (Kd.R_told (Kd.R_told (Kd.R_old (mr HO_359001) hb) (Kd.R_base ho0)) (Kd.Q_base ho1)) (fun _ h_ => h_.1)); have n2_ := Az (Kd.R_mono (Kd.R_told (Kd.R_told (Kd.R_old (mr HO_359003) hb) (Kd.R_base ho0)) (Kd.Q_base ho1)) (fun _ h_ => h_.1)); have n3_ := Az (Kd.R_lower (Kd.R_new' (Kd.R_new' (Kd.R_new' ho0 (Kd.R_lt (mr HO_359000))) (Kd.R_lt (mr HO_359001))) (Kd.R_lt (mr HO_359003))) (below_size (mb HB))); have n4_ := Az (Kd.Q_lower (Kd.Q_new' (Kd.Q_new' (Kd.Q_new' ho1 (Kd.R_lt (mr HO_359000))) (Kd.R_lt (mr HO_359001))) (Kd.R_lt (mr HO_359003))) (below_size (mb HB))); have n5_ := Az (blk_below (mz BK346) hb); have n6_ := Az (blk_below (mz BK347) hb); have n7_ := Az (blk_below (mz BK358) hb); have n8_ := Az (below_step (mb HB) hb); clear HO_359000 HO_359001 HO_359003 BK346 BK347 BK358 HB; have HO_359000 := n0_; have HO_359001 := n1_; have HO_359003 := n2_; have HO372 := n3_; have HO376 := n4_; have BK346 := n5_; have BK347 := n6_; have BK358 := n7_; have HB := n8_; clear n0_ n1_ n2_ n3_ n4_ n5_ n6_ n7_ n8_; (try clear hb); (try clear hb2); (try clear hk); (try clear hi); (try clear ho0); (try clear ho1)) | ((with_reducible refine gate_dst (N := 16) rfl ?_); refine box_event ?hg (N := 16) ?hd (cs := #[.slice none 0 0, .int .i64 0, .slice none 0 0]) (t := 26) ?hr ?_; (case hd => rfl); (case hg => rfl); (case hr => first | (go_simp; done) | (go_simp; rfl)); intro gb379 hg w92 hbox hb; have n0_ := Az (Kd.R_below (mr HO_359000) hb); have n1_ := Az (Kd.R_below (mr HO_359001) hb); have n2_ := Az (Kd.R_below (mr HO_359003) hb); have n3_ := Az (Kd.R_below (mr HO372) hb); have n4_ := Az (Kd.Q_below (mq HO376) hb); have n5_ := Az (blk_below (mz BK346) hb); have n6_ := Az (blk_below (mz BK347) hb); have n7_ := Az (blk_below (mz BK358) hb); have n8_ := Az (below_step (mb HB) hb); have n9_ := Az (hbox); have n10_ := Az ((by rw [hg]; exact (below_size (mb HB)) : w.heap.size ≤ gb379)); have n11_ := Az ((by rw [hg]; exact (below_size (mb HB)) : w.heap.size ≤ gb379)); have n12_ := Az ((by rw [hg]; exact Nat.ne_of_lt (blk_lt (mz BK346)) : gb346 ≠ gb379)); have n13_ := Az ((by rw [hg]; exact Nat.ne_of_gt (blk_lt (mz BK346)) : gb379 ≠ gb346)); have n14_ := Az ((by rw [hg]; exact Nat.ne_of_lt (blk_lt (mz BK347)) : gb347 ≠ gb379)); have n15_ := Az ((by rw [hg]; exact Nat.ne_of_gt (blk_lt (mz BK347)) : gb379 ≠ gb347)); have n16_ := Az ((by rw [hg]; exact Nat.ne_of_lt (blk_lt (mz BK358)) : gb358 ≠ gb379)); have n17_ := Az ((by rw [hg]; exact Nat.ne_of_gt (blk_lt (mz BK358)) : gb379 ≠ gb358)); clear HO_359000 HO_359001 HO_359003 HO372 HO376 BK346 BK347 BK358 HB; have HO_359000 := n0_; have HO_359001 := n1_; have HO_359003 := n2_; have HO372 := n3_; have HO376 := n4_; have BK346 := n5_; have BK347 := n6_; have BK358 := n7_; have HB := n8_; have BK379 := n9_; have GW379 := n10_; have GE379 := n11_; have NB346_379 := n12_; have NB379_346 := n13_; have NB347_379 := n14_; have NB379_347 := n15_; have NB358_379 := n16_; have NB379_358 := n17_; clear n0_ n1_ n2_ n3_ n4_ n5_ n6_ n7_ n8_ n9_ n10_ n11_ n12_ n13_ n14_ n15_ n16_ n17_ hb hbox hg; obtain ⟨Ao93, co93, eo93⟩ := Kd.R_slice HO372.out; subst eo93; have hnb94 := NB379_346.out; have hnc94 := NB346_379.out; have hnb95 := NB379_347.out; have hnc95 := NB347_379.out; have hnb96 := NB379_358.out; have hnc96 := NB358_379.out; have hcz97_0 := bz0 BK379; have hcz97_1 := bz1 BK379; have hcz97_2 := bz2 BK379; have hfz97_0 := bf BK379 0; have hfz97_1 := bf BK379 1; have hfz97_2 := bf BK379 2; obtain ⟨Ao98, co98, eo98, _⟩ := Kd.Q_slice HO376.out; subst eo98; have hnb99 := NB358_347.out; have hnc99 := NB347_358.out; have hcz100_0 := bz0 BK358; have hcz100_1 := bz1 BK358; have hcz100_2 := bz2 BK358; have hcz100_3 := bz3 BK358; have hfz100_0 := bf BK358 0; have hfz100_1 := bf BK358 1; have hfz100_2 := bf BK358 2; have hfz100_3 := bf BK358 3; have hcz101_0 := bz0 BK347; have hcz101_1 := bz1 BK347; have hcz101_2 := bz2 BK347; have hcz101_3 := bz3 BK347; have hfz101_0 := bf BK347 0; have hfz101_1 := bf BK347 1; have hfz101_2 := bf BK347 2; have hfz101_3 := bf BK347 3))
                    refine bodyPost_ret (results_ctt rfl _ _ gb347 28 #[.slice Ao14 t348.length co14, .slice Ao18 t351.length co18, .int .i64 t354, .slice Ao19 t355.length co19] (0, 0) _ rfl (by refine ms ?_; refine blk_put (cs := #[.slice Ao14 t348.length co14, .slice Ao18 t351.length co18, .int .i64 t354, .slice none 0 0]) ?_ 3 _ rfl; refine ms ?_; refine blk_put (cs := #[.slice Ao14 t348.length co14, .slice Ao18 t351.length co18, .int .i64 0, .slice none 0 0]) ?_ 2 _ rfl; refine ms ?_; refine blk_put (cs := #[.slice Ao14 t348.length co14, .slice none 0 0, .int .i64 0, .slice none 0 0]) ?_ 1 _ rfl; refine ms ?_; refine blk_put (cs := #[.slice none 0 0, .slice none 0 0, .int .i64 0, .slice none 0 0]) ?_ 0 _ rfl; refine ms ?_; refine blk_far ?_ NB347_379.out _; refine ms ?_; refine blk_far ?_ NB347_379.out _; refine ms ?_; refine blk_far ?_ NB347_379.out _; refine ms ?_; exact BK347.out) Try.underlying28 rfl (by kernel_rfl)) rfl ?_
                    exact ⟨_, _, _, by first | rfl | (simp [errW_none, errW_some] <;> rfl) | (simp [*, errW_none, errW_some] <;> rfl), by (with_reducible repeat (first | apply Kd.R_alloc | apply Kd.R_drewN | apply Kd.R_drew)); exact Kd.R_mono (Kd.R_far (Kd.R_far (Kd.R_far (Kd.R_far (Kd.R_far (Kd.R_far (Kd.R_far (Kd.R_types (Kd.R_types HO_359000.out BK379.out (by decide)) BK347.out (by decide)) (fun _ hk => hk.1.2) _) (fun _ hk => hk.1.2) _) (fun _ hk => hk.1.2) _) (fun _ hk => hk.2) _) (fun _ hk => hk.2) _) (fun _ hk => hk.2) _) (fun _ hk => hk.2) _) (fun _ hk => ⟨hk.1.1.1.1.1, hk.1.1.1.1.2⟩), by (with_reducible repeat (first | apply Kd.R_alloc | apply Kd.R_drewN | apply Kd.R_drew)); exact Kd.R_mono (Kd.R_far (Kd.R_far (Kd.R_far (Kd.R_far (Kd.R_far (Kd.R_far (Kd.R_far (Kd.R_types (Kd.R_types HO_359001.out BK379.out (by decide)) BK347.out (by decide)) (fun _ hk => hk.1.2) _) (fun _ hk => hk.1.2) _) (fun _ hk => hk.1.2) _) (fun _ hk => hk.2) _) (fun _ hk => hk.2) _) (fun _ hk => hk.2) _) (fun _ hk => hk.2) _) (fun _ hk => ⟨hk.1.1.1.1.1, hk.1.1.1.1.2⟩), Kd.Q_of_R (by (with_reducible repeat (first | apply Kd.R_alloc | apply Kd.R_drewN | apply Kd.R_drew)); exact Kd.R_mono (Kd.R_far (Kd.R_far (Kd.R_far (Kd.R_far (Kd.R_far (Kd.R_far (Kd.R_far (Kd.R_types (Kd.R_types HO_359003.out BK379.out (by decide)) BK347.out (by decide)) (fun _ hk => hk.1.2) _) (fun _ hk => hk.1.2) _) (fun _ hk => hk.1.2) _) (fun _ hk => hk.2) _) (fun _ hk => hk.2) _) (fun _ hk => hk.2) _) (fun _ hk => hk.2) _) (fun _ hk => ⟨hk.1.1.1.1.1, hk.1.1.1.1.2⟩)), mb HB⟩
                · rw [if_neg c72] at H
                  have c72b0 : (a3 == 2) = false := beq_eq_false_iff_ne.mpr c72
                  have c72b1 : (a3 != 2) = true := bne_iff_ne.mpr c72
                  simp only [Option.some.injEq, Prod.mk.injEq] at H
                  obtain ⟨rfl, rfl, rfl, rfl, rfl, rfl⟩ := H
                  have hnb102 := NB346_347.out
                  have hnc102 := NB347_346.out
                  have hnb103 := NB346_358.out
                  have hnc103 := NB358_346.out
                  have hcz104_0 := bz0 BK346
                  have hcz104_1 := bz1 BK346
                  have hcz104_2 := bz2 BK346
                  have hcz104_3 := bz3 BK346
                  have hfz104_0 := bf BK346 0
                  have hfz104_1 := bf BK346 1
                  have hfz104_2 := bf BK346 2
                  have hfz104_3 := bf BK346 3
                  go_wp2_with (first | ((with_reducible refine gate_callee (f := 42) rfl ?_); refine goesL_ (some 79) rfl rfl Try.func42 (by kernel_rfl) rfl #[.agg #[.slice A0_1 l0_1.length c0_1, .int .i64 a0_2, .slice A0_3 l0_3.length c0_3], .bool a1, .int .i64 (wrap64 (a2 - 192)), .int .i64 a4] rfl ml ?_; (with_reducible refine (spec_DevDo.calls kj49 _ _ l0_1 a0_2 _ _ l0_3 a1 (wrap64 (a2 - 192)) a4 t370 t373 t374 t377 t378 _ ?side1 ?side2 ?side3 ?side4 A71.out).mono ?_); (case side1 => exact mc (Kd.C_below HR0_1.out HB.out)); (case side2 => exact HC0_1.out); (case side3 => exact mc (Kd.C_below HR0_3.out HB.out)); (case side4 => exact HC0_3.out); rintro e w105 ⟨v371, v375, rfl, ho0, ho1, hb⟩; refine ⟨_, rfl, ?_⟩; have n0_ := Az (Kd.R_mono (Kd.R_told (Kd.R_told (Kd.R_old (mr HO_359000) hb) (Kd.R_base ho0)) (Kd.Q_base ho1)) (fun _ h_ => h_.1)); have n1_ := Az (Kd.R_mono (Kd.R_told (Kd.R_told (Kd.R_old (mr HO_359001) hb) (Kd.R_base ho0)) (Kd.Q_base ho1)) (fun _ h_ => h_.1)); have n2_ := Az (Kd.R_mono (Kd.R_told (Kd.R_told (Kd.R_old (mr HO_359003) hb) (Kd.R_base ho0)) (Kd.Q_base ho1)) (fun _ h_ => h_.1)); have n3_ := Az (Kd.R_lower (Kd.R_new' (Kd.R_new' (Kd.R_new' ho0 (Kd.R_lt (mr HO_359000))) (Kd.R_lt (mr HO_359001))) (Kd.R_lt (mr HO_359003))) (below_size (mb HB))); have n4_ := Az (Kd.Q_lower (Kd.Q_new' (Kd.Q_new' (Kd.Q_new' ho1 (Kd.R_lt (mr HO_359000))) (Kd.R_lt (mr HO_359001))) (Kd.R_lt (mr HO_359003))) (below_size (mb HB))); have n5_ := Az (blk_below (mz BK346) hb); have n6_ := Az (blk_below (mz BK347) hb); have n7_ := Az (blk_below (mz BK358) hb); have n8_ := Az (below_step (mb HB) hb); clear HO_359000 HO_359001 HO_359003 BK346 BK347 BK358 HB; have HO_359000 := n0_; have HO_359001 := n1_; have HO_359003 := n2_; have HO372 := n3_; have HO376 := n4_; have BK346 := n5_; have BK347 := n6_; have BK358 := n7_; have HB := n8_; clear n0_ n1_ n2_ n3_ n4_ n5_ n6_ n7_ n8_; (try clear hb); (try clear hb2); (try clear hk); (try clear hi); (try clear ho0); (try clear ho1)) | ((with_reducible refine gate_dst (N := 16) rfl ?_); refine box_event ?hg (N := 16) ?hd (cs := #[.slice none 0 0, .int .i64 0, .slice none 0 0]) (t := 26) ?hr ?_; (case hd => rfl); (case hg => rfl); (case hr => first | (go_simp; done) | (go_simp; rfl)); intro gb379 hg w106 hbox hb; have n0_ := Az (Kd.R_below (mr HO_359000) hb); have n1_ := Az (Kd.R_below (mr HO_359001) hb); have n2_ := Az (Kd.R_below (mr HO_359003) hb); have n3_ := Az (Kd.R_below (mr HO372) hb); have n4_ := Az (Kd.Q_below (mq HO376) hb); have n5_ := Az (blk_below (mz BK346) hb); have n6_ := Az (blk_below (mz BK347) hb); have n7_ := Az (blk_below (mz BK358) hb); have n8_ := Az (below_step (mb HB) hb); have n9_ := Az (hbox); have n10_ := Az ((by rw [hg]; exact (below_size (mb HB)) : w.heap.size ≤ gb379)); have n11_ := Az ((by rw [hg]; exact (below_size (mb HB)) : w.heap.size ≤ gb379)); have n12_ := Az ((by rw [hg]; exact Nat.ne_of_lt (blk_lt (mz BK346)) : gb346 ≠ gb379)); have n13_ := Az ((by rw [hg]; exact Nat.ne_of_gt (blk_lt (mz BK346)) : gb379 ≠ gb346)); have n14_ := Az ((by rw [hg]; exact Nat.ne_of_lt (blk_lt (mz BK347)) : gb347 ≠ gb379)); have n15_ := Az ((by rw [hg]; exact Nat.ne_of_gt (blk_lt (mz BK347)) : gb379 ≠ gb347)); have n16_ := Az ((by rw [hg]; exact Nat.ne_of_lt (blk_lt (mz BK358)) : gb358 ≠ gb379)); have n17_ := Az ((by rw [hg]; exact Nat.ne_of_gt (blk_lt (mz BK358)) : gb379 ≠ gb358)); clear HO_359000 HO_359001 HO_359003 HO372 HO376 BK346 BK347 BK358 HB; have HO_359000 := n0_; have HO_359001 := n1_; have HO_359003 := n2_; have HO372 := n3_; have HO376 := n4_; have BK346 := n5_; have BK347 := n6_; have BK358 := n7_; have HB := n8_; have BK379 := n9_; have GW379 := n10_; have GE379 := n11_; have NB346_379 := n12_; have NB379_346 := n13_; have NB347_379 := n14_; have NB379_347 := n15_; have NB358_379 := n16_; have NB379_358 := n17_; clear n0_ n1_ n2_ n3_ n4_ n5_ n6_ n7_ n8_ n9_ n10_ n11_ n12_ n13_ n14_ n15_ n16_ n17_ hb hbox hg; obtain ⟨Ao107, co107, eo107⟩ := Kd.R_slice HO372.out; subst eo107; have hnb108 := NB379_346.out; have hnc108 := NB346_379.out; have hnb109 := NB379_347.out; have hnc109 := NB347_379.out; have hnb110 := NB379_358.out; have hnc110 := NB358_379.out; have hcz111_0 := bz0 BK379; have hcz111_1 := bz1 BK379; have hcz111_2 := bz2 BK379; have hfz111_0 := bf BK379 0; have hfz111_1 := bf BK379 1; have hfz111_2 := bf BK379 2; obtain ⟨Ao112, co112, eo112, _⟩ := Kd.Q_slice HO376.out; subst eo112; have hnb113 := NB358_347.out; have hnc113 := NB347_358.out; have hcz114_0 := bz0 BK358; have hcz114_1 := bz1 BK358; have hcz114_2 := bz2 BK358; have hcz114_3 := bz3 BK358; have hfz114_0 := bf BK358 0; have hfz114_1 := bf BK358 1; have hfz114_2 := bf BK358 2; have hfz114_3 := bf BK358 3; have hcz115_0 := bz0 BK347; have hcz115_1 := bz1 BK347; have hcz115_2 := bz2 BK347; have hcz115_3 := bz3 BK347; have hfz115_0 := bf BK347 0; have hfz115_1 := bf BK347 1; have hfz115_2 := bf BK347 2; have hfz115_3 := bf BK347 3))
                  refine bodyPost_ret (results_ctt rfl _ _ gb347 28 #[.slice Ao14 t348.length co14, .slice Ao18 t351.length co18, .int .i64 t354, .slice Ao19 t355.length co19] (0, 0) _ rfl (by refine ms ?_; refine blk_put (cs := #[.slice Ao14 t348.length co14, .slice Ao18 t351.length co18, .int .i64 t354, .slice none 0 0]) ?_ 3 _ rfl; refine ms ?_; refine blk_put (cs := #[.slice Ao14 t348.length co14, .slice Ao18 t351.length co18, .int .i64 0, .slice none 0 0]) ?_ 2 _ rfl; refine ms ?_; refine blk_put (cs := #[.slice Ao14 t348.length co14, .slice none 0 0, .int .i64 0, .slice none 0 0]) ?_ 1 _ rfl; refine ms ?_; refine blk_put (cs := #[.slice none 0 0, .slice none 0 0, .int .i64 0, .slice none 0 0]) ?_ 0 _ rfl; refine ms ?_; refine blk_far ?_ NB347_379.out _; refine ms ?_; refine blk_far ?_ NB347_379.out _; refine ms ?_; refine blk_far ?_ NB347_379.out _; refine ms ?_; exact BK347.out) Try.underlying28 rfl (by kernel_rfl)) rfl ?_
                  exact ⟨_, _, _, by first | rfl | (simp [errW_none, errW_some] <;> rfl) | (simp [*, errW_none, errW_some] <;> rfl), by (with_reducible repeat (first | apply Kd.R_alloc | apply Kd.R_drewN | apply Kd.R_drew)); exact Kd.R_mono (Kd.R_far (Kd.R_far (Kd.R_far (Kd.R_far (Kd.R_far (Kd.R_far (Kd.R_far (Kd.R_types (Kd.R_types HO_359000.out BK379.out (by decide)) BK347.out (by decide)) (fun _ hk => hk.1.2) _) (fun _ hk => hk.1.2) _) (fun _ hk => hk.1.2) _) (fun _ hk => hk.2) _) (fun _ hk => hk.2) _) (fun _ hk => hk.2) _) (fun _ hk => hk.2) _) (fun _ hk => ⟨hk.1.1.1.1.1, hk.1.1.1.1.2⟩), by (with_reducible repeat (first | apply Kd.R_alloc | apply Kd.R_drewN | apply Kd.R_drew)); exact Kd.R_mono (Kd.R_far (Kd.R_far (Kd.R_far (Kd.R_far (Kd.R_far (Kd.R_far (Kd.R_far (Kd.R_types (Kd.R_types HO_359001.out BK379.out (by decide)) BK347.out (by decide)) (fun _ hk => hk.1.2) _) (fun _ hk => hk.1.2) _) (fun _ hk => hk.1.2) _) (fun _ hk => hk.2) _) (fun _ hk => hk.2) _) (fun _ hk => hk.2) _) (fun _ hk => hk.2) _) (fun _ hk => ⟨hk.1.1.1.1.1, hk.1.1.1.1.2⟩), Kd.Q_of_R (by (with_reducible repeat (first | apply Kd.R_alloc | apply Kd.R_drewN | apply Kd.R_drew)); exact Kd.R_mono (Kd.R_far (Kd.R_far (Kd.R_far (Kd.R_far (Kd.R_far (Kd.R_far (Kd.R_far (Kd.R_types (Kd.R_types HO_359003.out BK379.out (by decide)) BK347.out (by decide)) (fun _ hk => hk.1.2) _) (fun _ hk => hk.1.2) _) (fun _ hk => hk.1.2) _) (fun _ hk => hk.2) _) (fun _ hk => hk.2) _) (fun _ hk => hk.2) _) (fun _ hk => hk.2) _) (fun _ hk => ⟨hk.1.1.1.1.1, hk.1.1.1.1.2⟩)), mb HB⟩
              · rw [if_neg c70] at H
                have c70b0 : (t363 == 3) = false := beq_eq_false_iff_ne.mpr c70
                have c70b1 : (t363 != 3) = true := bne_iff_ne.mpr c70
                simp only [Option.some.injEq, Prod.mk.injEq] at H
                obtain ⟨rfl, rfl, rfl, rfl, rfl, rfl⟩ := H
                have hnb116 := NB358_346.out
                have hnc116 := NB346_358.out
                have hnb117 := NB358_347.out
                have hnc117 := NB347_358.out
                have hcz118_0 := bz0 BK358
                have hcz118_1 := bz1 BK358
                have hcz118_2 := bz2 BK358
                have hcz118_3 := bz3 BK358
                have hfz118_0 := bf BK358 0
                have hfz118_1 := bf BK358 1
                have hfz118_2 := bf BK358 2
                have hfz118_3 := bf BK358 3
                have hnb119 := NB347_346.out
                have hnc119 := NB346_347.out
                have hcz120_0 := bz0 BK347
                have hcz120_1 := bz1 BK347
                have hcz120_2 := bz2 BK347
                have hcz120_3 := bz3 BK347
                have hfz120_0 := bf BK347 0
                have hfz120_1 := bf BK347 1
                have hfz120_2 := bf BK347 2
                have hfz120_3 := bf BK347 3
                go_wp2
                refine bodyPost_ret (results_ctt rfl _ _ gb347 28 #[.slice Ao14 t348.length co14, .slice Ao18 t351.length co18, .int .i64 t354, .slice Ao19 t355.length co19] (0, 0) _ rfl (by refine ms ?_; refine blk_put (cs := #[.slice Ao14 t348.length co14, .slice Ao18 t351.length co18, .int .i64 t354, .slice none 0 0]) ?_ 3 _ rfl; refine ms ?_; refine blk_put (cs := #[.slice Ao14 t348.length co14, .slice Ao18 t351.length co18, .int .i64 0, .slice none 0 0]) ?_ 2 _ rfl; refine ms ?_; refine blk_put (cs := #[.slice Ao14 t348.length co14, .slice none 0 0, .int .i64 0, .slice none 0 0]) ?_ 1 _ rfl; refine ms ?_; refine blk_put (cs := #[.slice none 0 0, .slice none 0 0, .int .i64 0, .slice none 0 0]) ?_ 0 _ rfl; refine ms ?_; exact BK347.out) Try.underlying28 rfl (by kernel_rfl)) rfl ?_
                exact ⟨_, _, _, by first | rfl | (simp [errW_none, errW_some] <;> rfl) | (simp [*, errW_none, errW_some] <;> rfl), by (with_reducible repeat (first | apply Kd.R_alloc | apply Kd.R_drewN | apply Kd.R_drew)); exact Kd.R_mono (Kd.R_far (Kd.R_far (Kd.R_far (Kd.R_far (Kd.R_types HO_359000.out BK347.out (by decide)) (fun _ hk => hk.2) _) (fun _ hk => hk.2) _) (fun _ hk => hk.2) _) (fun _ hk => hk.2) _) (fun _ hk => ⟨hk.1.1, hk.1.2⟩), by (with_reducible repeat (first | apply Kd.R_alloc | apply Kd.R_drewN | apply Kd.R_drew)); exact Kd.R_mono (Kd.R_far (Kd.R_far (Kd.R_far (Kd.R_far (Kd.R_types HO_359001.out BK347.out (by decide)) (fun _ hk => hk.2) _) (fun _ hk => hk.2) _) (fun _ hk => hk.2) _) (fun _ hk => hk.2) _) (fun _ hk => ⟨hk.1.1, hk.1.2⟩), Kd.Q_of_R (by (with_reducible repeat (first | apply Kd.R_alloc | apply Kd.R_drewN | apply Kd.R_drew)); exact Kd.R_mono (Kd.R_far (Kd.R_far (Kd.R_far (Kd.R_far (Kd.R_types HO_359003.out BK347.out (by decide)) (fun _ hk => hk.2) _) (fun _ hk => hk.2) _) (fun _ hk => hk.2) _) (fun _ hk => hk.2) _) (fun _ hk => ⟨hk.1.1, hk.1.2⟩)), mb HB⟩

/-! ### laws_szIntS: function 64 -/
def laws_szIntS.f (l0 : List Int) (a1 : Int) : Option (Int) := if (wrap64 (a1 - (l0.length : Int))) < 0 then (some (-1)) else (some (wrap64 (a1 - (l0.length : Int))))
set_option maxHeartbeats 8000000 in
set_option maxRecDepth 100000 in
theorem laws_szIntS.calls (A0 : Option Addr) (c0 : Nat) (l0 : List Int) (a1 : Int) (r : Int) (w : World) (hr0 : Kd.C (Kd.int .i64) w A0 l0.length l0) (hc0 : l0.length ≤ c0) (h : laws_szIntS.f l0 a1 = some r) :
    Calls Try.prog 64 #[.slice A0 l0.length c0, .int .i64 a1] w fun e w' => e = .returned (.int .i64 r) ∧ Drawn0 w w' := by
  have HR0 := Aside0.mk hr0
  have HC0 := Aside0.mk hc0
  clear hr0 hc0
  have H : (if (wrap64 (a1 - (l0.length : Int))) < 0 then (some (-1)) else (some (wrap64 (a1 - (l0.length : Int))))) = some r := h
  clear h
  by_cases c3 : (wrap64 (a1 - (l0.length : Int))) < 0
  · rw [if_pos c3] at H
    have c3b0 : decide ((wrap64 (a1 - (l0.length : Int))) < 0) = true := decide_eq_true c3
    clear c3
    obtain rfl := Option.some.inj H
    go_enter Try.func64, Try.ntmps64
    go_wp2
    go_ret
    exact ⟨by first | rfl | (simp; done) | (simp [*]; done), by repeat (first | exact Drawn0.refl _ | apply Drawn0.step)⟩
  · rw [if_neg c3] at H
    have c3b0 : decide ((wrap64 (a1 - (l0.length : Int))) < 0) = false := decide_eq_false c3
    clear c3
    obtain rfl := Option.some.inj H
    go_enter Try.func64, Try.ntmps64
    go_wp2
    go_ret
    exact ⟨by first | rfl | (simp; done) | (simp [*]; done), by repeat (first | exact Drawn0.refl _ | apply Drawn0.step)⟩

/-! ### laws_szDev: function 30 -/
def laws_szDev.f (l0_0 : List Int) (a0_1 : Int) (l0_2 : List Int) (a1 : Int) : Option (Int) := (laws_szIntS.f l0_0 a1).bind fun t381 => (if t381 < 0 then (some (-1)) else ((laws_szIntS.f l0_2 t381).bind fun t382 => (if t382 < 0 then (some (-1)) else (some t382))))
set_option maxHeartbeats 8000000 in
set_option maxRecDepth 100000 in
theorem laws_szDev.calls (A0_0 : Option Addr) (c0_0 : Nat) (l0_0 : List Int) (a0_1 : Int) (A0_2 : Option Addr) (c0_2 : Nat) (l0_2 : List Int) (a1 : Int) (r : Int) (w : World) (hr0_0 : Kd.C (Kd.int .i64) w A0_0 l0_0.length l0_0) (hc0_0 : l0_0.length ≤ c0_0) (hr0_2 : Kd.C (Kd.int .i64) w A0_2 l0_2.length l0_2) (hc0_2 : l0_2.length ≤ c0_2) (h : laws_szDev.f l0_0 a0_1 l0_2 a1 = some r) :
    Calls Try.prog 30 #[.agg #[.slice A0_0 l0_0.length c0_0, .int .i64 a0_1, .slice A0_2 l0_2.length c0_2], .int .i64 a1] w fun e w' => e = .returned (.int .i64 r) ∧ Below w.heap.size w w' := by
  have hu36 := Try.underlying36
  have HR0_0 := Aside0.mk hr0_0
  have HC0_0 := Aside0.mk hc0_0
  clear hr0_0 hc0_0
  have HR0_2 := Aside0.mk hr0_2
  have HC0_2 := Aside0.mk hc0_2
  clear hr0_2 hc0_2
  have HB := Az (Below.refl w.heap.size w)
  have H : ((laws_szIntS.f l0_0 a1).bind fun t381 => (if t381 < 0 then (some (-1)) else ((laws_szIntS.f l0_2 t381).bind fun t382 => (if t382 < 0 then (some (-1)) else (some t382))))) = some r := h
  clear h
  replace H := Option.bind_eq_some_iff.mp H
  obtain ⟨t381, A30, H⟩ := H
  replace H : (if t381 < 0 then (some (-1)) else ((laws_szIntS.f l0_2 t381).bind fun t382 => (if t382 < 0 then (some (-1)) else (some t382)))) = some r := H
  have A3 := Aside0.mk A30
  clear A30
  by_cases c4 : t381 < 0
  · rw [if_pos c4] at H
    have c4b0 : decide (t381 < 0) = true := decide_eq_true c4
    clear c4
    obtain rfl := Option.some.inj H
    go_enter Try.func30, Try.ntmps30
    go_wp2_with (first | ((with_reducible refine gate_dst (N := 2) rfl ?_); refine box_event ?hg (N := 2) ?hd (cs := #[.slice A0_0 l0_0.length c0_0, .int .i64 a0_1, .slice A0_2 l0_2.length c0_2]) (t := 36) ?hr ?_; (case hd => rfl); (case hg => rfl); (case hr => first | (go_simp; done) | (go_simp; rfl)); intro gb380 hg w5 hbox hb; have n0_ := Az (below_step (mb HB) hb); have n1_ := Az (hbox); have n2_ := Az ((by rw [hg]; exact (below_size (mb HB)) : w.heap.size ≤ gb380)); have n3_ := Az ((by rw [hg]; exact (below_size (mb HB)) : w.heap.size ≤ gb380)); clear HB; have HB := n0_; have BK380 := n1_; have GW380 := n2_; have GE380 := n3_; clear n0_ n1_ n2_ n3_ hb hbox hg; have hcz6_0 := bz0 BK380; have hcz6_1 := bz1 BK380; have hcz6_2 := bz2 BK380; have hfz6_0 := bf BK380 0; have hfz6_1 := bf BK380 1; have hfz6_2 := bf BK380 2) | ((with_reducible refine gate_callee (f := 64) rfl ?_); refine goesL_ (some 8) rfl rfl Try.func64 (by kernel_rfl) rfl #[.slice A0_0 l0_0.length c0_0, .int .i64 a1] rfl ml ?_; (with_reducible refine (laws_szIntS.calls _ _ l0_0 a1 t381 _ ?side1 ?side2 A3.out).mono ?_); (case side1 => exact mc (Kd.C_below HR0_0.out HB.out)); (case side2 => exact HC0_0.out); rintro e w' ⟨rfl, ⟨nd, rfl⟩⟩; refine ⟨_, rfl, ?_⟩))
    go_ret
    exact ⟨by first | rfl | (simp [errW_none, errW_some] <;> rfl) | (simp [*, errW_none, errW_some] <;> rfl), mb HB⟩
  · rw [if_neg c4] at H
    have c4b0 : decide (t381 < 0) = false := decide_eq_false c4
    clear c4
    replace H := Option.bind_eq_some_iff.mp H
    obtain ⟨t382, A70, H⟩ := H
    replace H : (if t382 < 0 then (some (-1)) else (some t382)) = some r := H
    have A7 := Aside0.mk A70
    clear A70
    by_cases c8 : t382 < 0
    · rw [if_pos c8] at H
      have c8b0 : decide (t382 < 0) = true := decide_eq_true c8
      clear c8
      obtain rfl := Option.some.inj H
      go_enter Try.func30, Try.ntmps30
      go_wp2_with (first | ((with_reducible refine gate_dst (N := 2) rfl ?_); refine box_event ?hg (N := 2) ?hd (cs := #[.slice A0_0 l0_0.length c0_0, .int .i64 a0_1, .slice A0_2 l0_2.length c0_2]) (t := 36) ?hr ?_; (case hd => rfl); (case hg => rfl); (case hr => first | (go_simp; done) | (go_simp; rfl)); intro gb380 hg w9 hbox hb; have n0_ := Az (below_step (mb HB) hb); have n1_ := Az (hbox); have n2_ := Az ((by rw [hg]; exact (below_size (mb HB)) : w.heap.size ≤ gb380)); have n3_ := Az ((by rw [hg]; exact (below_size (mb HB)) : w.heap.size ≤ gb380)); clear HB; have HB := n0_; have BK380 := n1_; have GW380 := n2_; have GE380 := n3_; clear n0_ n1_ n2_ n3_ hb hbox hg; have hcz10_0 := bz0 BK380; have hcz10_1 := bz1 BK380; have hcz10_2 := bz2 BK380; have hfz10_0 := bf BK380 0; have hfz10_1 := bf BK380 1; have hfz10_2 := bf BK380 2) | ((with_reducible refine gate_callee (f := 64) rfl ?_); refine goesL_ (some 8) rfl rfl Try.func64 (by kernel_rfl) rfl #[.slice A0_0 l0_0.length c0_0, .int .i64 a1] rfl ml ?_; (with_reducible refine (laws_szIntS.calls _ _ l0_0 a1 t381 _ ?side1 ?side2 A3.out).mono ?_); (case side1 => exact mc (Kd.C_below HR0_0.out HB.out)); (case side2 => exact HC0_0.out); rintro e w' ⟨rfl, ⟨nd, rfl⟩⟩; refine ⟨_, rfl, ?_⟩) | ((with_reducible refine gate_callee (f := 64) rfl ?_); refine goesL_ (some 14) rfl rfl Try.func64 (by kernel_rfl) rfl #[.slice A0_2 l0_2.length c0_2, .int .i64 t381] rfl ml ?_; (with_reducible refine (laws_szIntS.calls _ _ l0_2 t381 t382 _ ?side1 ?side2 A7.out).mono ?_); (case side1 => repeat (first | exact (Kd.C_below HR0_2.out (mb HB)) | (with_reducible refine Kd.C_alloc ?_ _) | (with_reducible refine Kd.C_drewN ?_ _) | (with_reducible refine Kd.C_drew ?_))); (case side2 => exact HC0_2.out); rintro e w' ⟨rfl, ⟨nd, rfl⟩⟩; refine ⟨_, rfl, ?_⟩))
      go_ret
      exact ⟨by first | rfl | (simp [errW_none, errW_some] <;> rfl) | (simp [*, errW_none, errW_some] <;> rfl), mb HB⟩
    · rw [if_neg c8] at H
      have c8b0 : decide (t382 < 0) = false := decide_eq_false c8
      clear c8
      obtain rfl := Option.some.inj H
      go_enter Try.func30, Try.ntmps30
      go_wp2_with (first | ((with_reducible refine gate_dst (N := 2) rfl ?_); refine box_event ?hg (N := 2) ?hd (cs := #[.slice A0_0 l0_0.length c0_0, .int .i64 a0_1, .slice A0_2 l0_2.length c0_2]) (t := 36) ?hr ?_; (case hd => rfl); (case hg => rfl); (case hr => first | (go_simp; done) | (go_simp; rfl)); intro gb380 hg w11 hbox hb; have n0_ := Az (below_step (mb HB) hb); have n1_ := Az (hbox); have n2_ := Az ((by rw [hg]; exact (below_size (mb HB)) : w.heap.size ≤ gb380)); have n3_ := Az ((by rw [hg]; exact (below_size (mb HB)) : w.heap.size ≤ gb380)); clear HB; have HB := n0_; have BK380 := n1_; have GW380 := n2_; have GE380 := n3_; clear n0_ n1_ n2_ n3_ hb hbox hg; have hcz12_0 := bz0 BK380; have hcz12_1 := bz1 BK380; have hcz12_2 := bz2 BK380; have hfz12_0 := bf BK380 0; have hfz12_1 := bf BK380 1; have hfz12_2 := bf BK380 2) | ((with_reducible refine gate_callee (f := 64) rfl ?_); refine goesL_ (some 8) rfl rfl Try.func64 (by kernel_rfl) rfl #[.slice A0_0 l0_0.length c0_0, .int .i64 a1] rfl ml ?_; (with_reducible refine (laws_szIntS.calls _ _ l0_0 a1 t381 _ ?side1 ?side2 A3.out).mono ?_); (case side1 => exact mc (Kd.C_below HR0_0.out HB.out)); (case side2 => exact HC0_0.out); rintro e w' ⟨rfl, ⟨nd, rfl⟩⟩; refine ⟨_, rfl, ?_⟩) | ((with_reducible refine gate_callee (f := 64) rfl ?_); refine goesL_ (some 14) rfl rfl Try.func64 (by kernel_rfl) rfl #[.slice A0_2 l0_2.length c0_2, .int .i64 t381] rfl ml ?_; (with_reducible refine (laws_szIntS.calls _ _ l0_2 t381 t382 _ ?side1 ?side2 A7.out).mono ?_); (case side1 => repeat (first | exact (Kd.C_below HR0_2.out (mb HB)) | (with_reducible refine Kd.C_alloc ?_ _) | (with_reducible refine Kd.C_drewN ?_ _) | (with_reducible refine Kd.C_drew ?_))); (case side2 => exact HC0_2.out); rintro e w' ⟨rfl, ⟨nd, rfl⟩⟩; refine ⟨_, rfl, ?_⟩))
      go_ret
      exact ⟨by first | rfl | (simp [errW_none, errW_some] <;> rfl) | (simp [*, errW_none, errW_some] <;> rfl), mb HB⟩

/-! ### laws_szModel: function 20 -/
def laws_szModel.f (l0_0 : List Int) (l0_1 : List Int) (a0_2 : Int) (l0_3 : List Int) (a1 : Int) : Option (Int) := (laws_szIntS.f l0_0 a1).bind fun t384 => (if t384 < 0 then (some (-1)) else ((laws_szDev.f l0_1 a0_2 l0_3 t384).bind fun t385 => (if t385 < 0 then (some (-1)) else (some t385))))
set_option maxHeartbeats 8000000 in
set_option maxRecDepth 100000 in
theorem laws_szModel.calls (A0_0 : Option Addr) (c0_0 : Nat) (l0_0 : List Int) (A0_1 : Option Addr) (c0_1 : Nat) (l0_1 : List Int) (a0_2 : Int) (A0_3 : Option Addr) (c0_3 : Nat) (l0_3 : List Int) (a1 : Int) (r : Int) (w : World) (hr0_0 : Kd.C (Kd.int .i64) w A0_0 l0_0.length l0_0) (hc0_0 : l0_0.length ≤ c0_0) (hr0_1 : Kd.C (Kd.int .i64) w A0_1 l0_1.length l0_1) (hc0_1 : l0_1.length ≤ c0_1) (hr0_3 : Kd.C (Kd.int .i64) w A0_3 l0_3.length l0_3) (hc0_3 : l0_3.length ≤ c0_3) (h : laws_szModel.f l0_0 l0_1 a0_2 l0_3 a1 = some r) :
    Calls Try.prog 20 #[.agg #[.slice A0_0 l0_0.length c0_0, .slice A0_1 l0_1.length c0_1, .int .i64 a0_2, .slice A0_3 l0_3.length c0_3], .int .i64 a1] w fun e w' => e = .returned (.int .i64 r) ∧ Below w.heap.size w w' := by
  have hu38 := Try.underlying38
  have hu36 := Try.underlying36
  have HR0_0 := Aside0.mk hr0_0
  have HC0_0 := Aside0.mk hc0_0
  clear hr0_0 hc0_0
  have HR0_1 := Aside0.mk hr0_1
  have HC0_1 := Aside0.mk hc0_1
  clear hr0_1 hc0_1
  have HR0_3 := Aside0.mk hr0_3
  have HC0_3 := Aside0.mk hc0_3
  clear hr0_3 hc0_3
  have HB := Az (Below.refl w.heap.size w)
  have H : ((laws_szIntS.f l0_0 a1).bind fun t384 => (if t384 < 0 then (some (-1)) else ((laws_szDev.f l0_1 a0_2 l0_3 t384).bind fun t385 => (if t385 < 0 then (some (-1)) else (some t385))))) = some r := h
  clear h
  replace H := Option.bind_eq_some_iff.mp H
  obtain ⟨t384, A30, H⟩ := H
  replace H : (if t384 < 0 then (some (-1)) else ((laws_szDev.f l0_1 a0_2 l0_3 t384).bind fun t385 => (if t385 < 0 then (some (-1)) else (some t385)))) = some r := H
  have A3 := Aside0.mk A30
  clear A30
  by_cases c4 : t384 < 0
  · rw [if_pos c4] at H
    have c4b0 : decide (t384 < 0) = true := decide_eq_true c4
    clear c4
    obtain rfl := Option.some.inj H
    go_enter Try.func20, Try.ntmps20
    go_wp2_with (first | ((with_reducible refine gate_dst (N := 2) rfl ?_); refine box_event ?hg (N := 2) ?hd (cs := #[.slice A0_0 l0_0.length c0_0, .slice A0_1 l0_1.length c0_1, .int .i64 a0_2, .slice A0_3 l0_3.length c0_3]) (t := 38) ?hr ?_; (case hd => rfl); (case hg => rfl); (case hr => first | (go_simp; done) | (go_simp; rfl)); intro gb383 hg w5 hbox hb; have n0_ := Az (below_step (mb HB) hb); have n1_ := Az (hbox); have n2_ := Az ((by rw [hg]; exact (below_size (mb HB)) : w.heap.size ≤ gb383)); have n3_ := Az ((by rw [hg]; exact (below_size (mb HB)) : w.heap.size ≤ gb383)); clear HB; have HB := n0_; have BK383 := n1_; have GW383 := n2_; have GE383 := n3_; clear n0_ n1_ n2_ n3_ hb hbox hg; have hcz6_0 := bz0 BK383; have hcz6_1 := bz1 BK383; have hcz6_2 := bz2 BK383; have hcz6_3 := bz3 BK383; have hfz6_0 := bf BK383 0; have hfz6_1 := bf BK383 1; have hfz6_2 := bf BK383 2; have hfz6_3 := bf BK383 3) | ((with_reducible refine gate_callee (f := 64) rfl ?_); refine goesL_ (some 8) rfl rfl Try.func64 (by kernel_rfl) rfl #[.slice A0_0 l0_0.length c0_0, .int .i64 a1] rfl ml ?_; (with_reducible refine (laws_szIntS.calls _ _ l0_0 a1 t384 _ ?side1 ?side2 A3.out).mono ?_); (case side1 => exact mc (Kd.C_below HR0_0.out HB.out)); (case side2 => exact HC0_0.out); rintro e w' ⟨rfl, ⟨nd, rfl⟩⟩; refine ⟨_, rfl, ?_⟩))
    go_ret
    exact ⟨by first | rfl | (simp [errW_none, errW_some] <;> rfl) | (simp [*, errW_none, errW_some] <;> rfl), mb HB⟩
  · rw [if_neg c4] at H
    have c4b0 : decide (t384 < 0) = false := decide_eq_false c4
    clear c4
    replace H := Option.bind_eq_some_iff.mp H
    obtain ⟨t385, A70, H⟩ := H
    replace H : (if t385 < 0 then (some (-1)) else (some t385)) = some r := H
    have A7 := Aside0.mk A70
    clear A70
    by_cases c8 : t385 < 0
    · rw [if_pos c8] at H
      have c8b0 : decide (t385 < 0) = true := decide_eq_true c8
      clear c8
      obtain rfl := Option.some.inj H
      go_enter Try.func20, Try.ntmps20
      go_wp2_with (first | ((with_reducible refine gate_dst (N := 2) rfl ?_); refine box_event ?hg (N := 2) ?hd (cs := #[.slice A0_0 l0_0.length c0_0, .slice A0_1 l0_1.length c0_1, .int .i64 a0_2, .slice A0_3 l0_3.length c0_3]) (t := 38) ?hr ?_; (case hd => rfl); (case hg => rfl); (case hr => first | (go_simp; done) | (go_simp; rfl)); intro gb383 hg w9 hbox hb; have n0_ := Az (below_step (mb HB) hb); have n1_ := Az (hbox); have n2_ := Az ((by rw [hg]; exact (below_size (mb HB)) : w.heap.size ≤ gb383)); have n3_ := Az ((by rw [hg]; exact (below_size (mb HB)) : w.heap.size ≤ gb383)); clear HB; have HB := n0_; have BK383 := n1_; have GW383 := n2_; have GE383 := n3_; clear n0_ n1_ n2_ n3_ hb hbox hg; have hcz10_0 := bz0 BK383; have hcz10_1 := bz1 BK383; have hcz10_2 := bz2 BK383; have hcz10_3 := bz3 BK383; have hfz10_0 := bf BK383 0; have hfz10_1 := bf BK383 1; have hfz10_2 := bf BK383 2; have hfz10_3 := bf BK383 3) | ((with_reducible refine gate_callee (f := 64) rfl ?_); refine goesL_ (some 8) rfl rfl Try.func64 (by kernel_rfl) rfl #[.slice A0_0 l0_0.length c0_0, .int .i64 a1] rfl ml ?_; (with_reducible refine (laws_szIntS.calls _ _ l0_0 a1 t384 _ ?side1 ?side2 A3.out).mono ?_); (case side1 => exact mc (Kd.C_below HR0_0.out HB.out)); (case side2 => exact HC0_0.out); rintro e w' ⟨rfl, ⟨nd, rfl⟩⟩; refine ⟨_, rfl, ?_⟩) | ((with_reducible refine gate_callee (f := 30) rfl ?_); refine goesL_ (some 14) rfl rfl Try.func30 (by kernel_rfl) rfl #[.agg #[.slice A0_1 l0_1.length c0_1, .int .i64 a0_2, .slice A0_3 l0_3.length c0_3], .int .i64 t384] rfl ml ?_; (with_reducible refine (laws_szDev.calls _ _ l0_1 a0_2 _ _ l0_3 t384 t385 _ ?side1 ?side2 ?side3 ?side4 A7.out).mono ?_); (case side1 => repeat (first | exact (Kd.C_below HR0_1.out (mb HB)) | (with_reducible refine Kd.C_alloc ?_ _) | (with_reducible refine Kd.C_drewN ?_ _) | (with_reducible refine Kd.C_drew ?_))); (case side2 => exact HC0_1.out); (case side3 => repeat (first | exact (Kd.C_below HR0_3.out (mb HB)) | (with_reducible refine Kd.C_alloc ?_ _) | (with_reducible refine Kd.C_drewN ?_ _) | (with_reducible refine Kd.C_drew ?_))); (case side4 => exact HC0_3.out); rintro e w11 ⟨rfl, hb⟩; refine ⟨_, rfl, ?_⟩; have n0_ := Az (blk_below (mz BK383) hb); have n1_ := Az (below_step (mb HB) hb); clear BK383 HB; have BK383 := n0_; have HB := n1_; clear n0_ n1_; (try clear hb); (try clear hb2); (try clear hk); (try clear hi)))
      go_ret
      exact ⟨by first | rfl | (simp [errW_none, errW_some] <;> rfl) | (simp [*, errW_none, errW_some] <;> rfl), mb HB⟩
    · rw [if_neg c8] at H
      have c8b0 : decide (t385 < 0) = false := decide_eq_false c8
      clear c8
      obtain rfl := Option.some.inj H
      go_enter Try.func20, Try.ntmps20
      go_wp2_with (first | ((with_reducible refine gate_dst (N := 2) rfl ?_); refine box_event ?hg (N := 2) ?hd (cs := #[.slice A0_0 l0_0.length c0_0, .slice A0_1 l0_1.length c0_1, .int .i64 a0_2, .slice A0_3 l0_3.length c0_3]) (t := 38) ?hr ?_; (case hd => rfl); (case hg => rfl); (case hr => first | (go_simp; done) | (go_simp; rfl)); intro gb383 hg w12 hbox hb; have n0_ := Az (below_step (mb HB) hb); have n1_ := Az (hbox); have n2_ := Az ((by rw [hg]; exact (below_size (mb HB)) : w.heap.size ≤ gb383)); have n3_ := Az ((by rw [hg]; exact (below_size (mb HB)) : w.heap.size ≤ gb383)); clear HB; have HB := n0_; have BK383 := n1_; have GW383 := n2_; have GE383 := n3_; clear n0_ n1_ n2_ n3_ hb hbox hg; have hcz13_0 := bz0 BK383; have hcz13_1 := bz1 BK383; have hcz13_2 := bz2 BK383; have hcz13_3 := bz3 BK383; have hfz13_0 := bf BK383 0; have hfz13_1 := bf BK383 1; have hfz13_2 := bf BK383 2; have hfz13_3 := bf BK383 3) | ((with_reducible refine gate_callee (f := 64) rfl ?_); refine goesL_ (some 8) rfl rfl Try.func64 (by kernel_rfl) rfl #[.slice A0_0 l0_0.length c0_0, .int .i64 a1] rfl ml ?_; (with_reducible refine (laws_szIntS.calls _ _ l0_0 a1 t384 _ ?side1 ?side2 A3.out).mono ?_); (case side1 => exact mc (Kd.C_below HR0_0.out HB.out)); (case side2 => exact HC0_0.out); rintro e w' ⟨rfl, ⟨nd, rfl⟩⟩; refine ⟨_, rfl, ?_⟩) | ((with_reducible refine gate_callee (f := 30) rfl ?_); refine goesL_ (some 14) rfl rfl Try.func30 (by kernel_rfl) rfl #[.agg #[.slice A0_1 l0_1.length c0_1, .int .i64 a0_2, .slice A0_3 l0_3.length c0_3], .int .i64 t384] rfl ml ?_; (with_reducible refine (laws_szDev.calls _ _ l0_1 a0_2 _ _ l0_3 t384 t385 _ ?side1 ?side2 ?side3 ?side4 A7.out).mono ?_); (case side1 => repeat (first | exact (Kd.C_below HR0_1.out (mb HB)) | (with_reducible refine Kd.C_alloc ?_ _) | (with_reducible refine Kd.C_drewN ?_ _) | (with_reducible refine Kd.C_drew ?_))); (case side2 => exact HC0_1.out); (case side3 => repeat (first | exact (Kd.C_below HR0_3.out (mb HB)) | (with_reducible refine Kd.C_alloc ?_ _) | (with_reducible refine Kd.C_drewN ?_ _) | (with_reducible refine Kd.C_drew ?_))); (case side4 => exact HC0_3.out); rintro e w14 ⟨rfl, hb⟩; refine ⟨_, rfl, ?_⟩; have n0_ := Az (blk_below (mz BK383) hb); have n1_ := Az (below_step (mb HB) hb); clear BK383 HB; have BK383 := n0_; have HB := n1_; clear n0_ n1_; (try clear hb); (try clear hb2); (try clear hk); (try clear hi)))
      go_ret
      exact ⟨by first | rfl | (simp [errW_none, errW_some] <;> rfl) | (simp [*, errW_none, errW_some] <;> rfl), mb HB⟩

/-! ### laws_toIntS: function 65 -/
def laws_toIntS.l0 : Nat → List Int → List Int → Int → Option (List Int)
  | 0, _, _, _ => none
  | k + 1, x0, x3, x4 => if x4 < (x0.length : Int) then (if 0 ≤ x4 then (if x4 < (x3.length : Int) then (laws_toIntS.l0 k x0 (x3.set (x4 : Int).toNat (rd x0 x4)) (wrap64 (x4 + 1))) else (none)) else (none)) else (some x3)
def laws_toIntS.f (k : Nat) (l0 : List Int) : Option (List Int) := if 0 ≤ (l0.length : Int) then (if ((l0.length : Int) : Int).toNat ≤ 35184372088832 then (laws_toIntS.l0 k l0 (List.replicate ((l0.length : Int) : Int).toNat 0) 0) else (none)) else (none)
theorem laws_toIntS.mono_l : ∀ k, (∀ y0 y1 y2, LeO (laws_toIntS.l0 k y0 y1 y2) (laws_toIntS.l0 (k + 1) y0 y1 y2))
  | 0 => fun _ _ _ r h => by simp [laws_toIntS.l0] at h
  | k + 1 => by
    have ih0 := laws_toIntS.mono_l k
    · intro y0 y1 y2
      unfold laws_toIntS.l0
      repeat' first
      | (with_reducible exact ih0 _ _ _)
      | (with_reducible exact LeO.refl _)
      | (with_reducible exact LeO.none _)
      | (with_reducible refine LeO.ite ?_ ?_)
      | (with_reducible refine LeO.bind ?_ (fun _ => ?_))
      | exact ih0 _ _ _
      | exact LeO.none _
      | refine LeO.ite ?_ ?_
      | refine LeO.bind ?_ (fun _ => ?_)
theorem laws_toIntS.mono : ∀ a0 k, LeO (laws_toIntS.f k a0) (laws_toIntS.f (k + 1) a0) := by
  intro a0 k
  have ih0 := laws_toIntS.mono_l k
  unfold laws_toIntS.f
  repeat' first
      | (with_reducible exact ih0 _ _ _)
      | (with_reducible exact LeO.refl _)
      | (with_reducible exact LeO.none _)
      | (with_reducible refine LeO.ite ?_ ?_)
      | (with_reducible refine LeO.bind ?_ (fun _ => ?_))
      | exact ih0 _ _ _
      | exact LeO.none _
      | refine LeO.ite ?_ ?_
      | refine LeO.bind ?_ (fun _ => ?_)
set_option maxHeartbeats 8000000 in
set_option maxRecDepth 100000 in
theorem laws_toIntS.calls (k : Nat) (A0 : Option Addr) (c0 : Nat) (l0 : List Int) (r : List Int) (w : World) (hr0 : Kd.C (Kd.int .i64) w A0 l0.length l0) (hc0 : l0.length ≤ c0) (h : laws_toIntS.f k l0 = some r) :
    Calls Try.prog 65 #[.slice A0 l0.length c0] w fun e w' => ∃ v0_ : Value, e = .returned (v0_) ∧ Kd.R (Kd.int .i64) 3 w' w.heap.size (fun _ => True) v0_ r ∧ Below w.heap.size w w' := by
  have HR0 := Aside0.mk hr0
  have HC0 := Aside0.mk hc0
  clear hr0 hc0
  have HB := Az (Below.refl w.heap.size w)
  have H : (if 0 ≤ (l0.length : Int) then (if ((l0.length : Int) : Int).toNat ≤ 35184372088832 then (laws_toIntS.l0 k l0 (List.replicate ((l0.length : Int) : Int).toNat 0) 0) else (none)) else (none)) = some r := h
  clear h
  by_cases c2 : 0 ≤ (l0.length : Int)
  · rw [if_pos c2] at H
    have c2b0 := eq_true c2
    have c2b1 : decide (0 ≤ (l0.length : Int)) = true := decide_eq_true c2
    clear c2
    by_cases c3 : ((l0.length : Int) : Int).toNat ≤ 35184372088832
    · rw [if_pos c3] at H
      have c3b0 := eq_true c3
      have c3b1 : decide (((l0.length : Int) : Int).toNat ≤ 35184372088832) = true := decide_eq_true c3
      clear c3
      obtain ⟨y386, hy386⟩ : ∃ y_ : List Int, y_ = (List.replicate ((l0.length : Int) : Int).toNat 0) := ⟨_, rfl⟩
      replace H : (laws_toIntS.l0 k l0 y386 0) = some r := by first | (rw [hy386]; with_reducible exact H) | (have H2_ := (Option.bind_some _ _).symm.trans H; rw [hy386]; with_reducible exact H2_) | (have H2_ := (Option.bind_some _ _).symm.trans H; with_reducible exact H2_) | with_reducible exact H | (rw [hy386]; exact H) | exact H
      have Ny386 := Aside0.mk hy386
      clear hy386
      have H' := Aside0.mk H
      clear H
      go_enter Try.func65, Try.ntmps65
      go_wp2_with (first | ((with_reducible refine gate_dst (N := 7) rfl ?_); refine Kd.R_make (Kd.int .i64) _ 3 rfl (N := 7) rfl 24 _ _ rfl (l0.length : Int) rfl rfl Try.underlying24 (.int .i64 0) 8 info3 rfl (by decide) (by omega) 0 (ok := fun _ => True) (okp := fun _ => True) rfl (fun _ hk => hk) trivial (of_decide_eq_true (by first | (with_reducible assumption) | assumption)) (Nat.le_trans (Nat.mul_le_mul_right _ (of_decide_eq_true (by first | (with_reducible assumption) | assumption) : (l0.length : Int).toNat ≤ 35184372088832)) (by omega)) (Below.refl _ _) (Nat.le_refl _) ?_; intro v387 w4 ho5 hb hg_ hnew_; clear hg_ hnew_; (first | rw [← Ny386.out] at ho5 | (simp only [Int.reduceToNat] at ho5; rw [← Ny386.out] at ho5)); have n0_ := Az (Kd.R_lower ho5 (below_size (mb HB))); have n1_ := Az (below_step (mb HB) hb); clear HB; have HO388 := n0_; have HB := n1_; clear n0_ n1_; clear hb ho5))
      go_loopg [4] k (fun kq v4 w' => ∃ (x3_1 : List Int) (x4_1 : Int), v4 = .int .i64 x4_1 ∧ Aside0 (laws_toIntS.l0 kq l0 x3_1 x4_1 = some r) ∧ Aside0 (kq ≤ k) ∧ Aside0 (Kd.R (Kd.int .i64) 3 w' w.heap.size (fun _ => True) v387 x3_1) ∧ Aside0 (Below w.heap.size w w'))
      case atStart => exact ⟨(y386), (0), (by first | rfl | (simp; done) | (simp [*]; done)), H', ⟨Nat.le_refl _⟩, ⟨mr HO388⟩, ⟨mb HB⟩⟩
      case round =>
        clear H'
        try clear c2
        try clear c2b0
        try clear c2b1
        try clear c3
        try clear c3b0
        try clear c3b1
        obtain ⟨x3_1, x4_1, rfl, HA, HK1, HO_3, HB⟩ := hrel
        cases gk with
        | zero => exact absurd HA.out (by simp [laws_toIntS.l0])
        | succ k1 =>
          have H := HA.out
          clear HA
          simp only [laws_toIntS.l0] at H
          by_cases c6 : x4_1 < (l0.length : Int)
          · rw [if_pos c6] at H
            have c6b0 : decide (x4_1 < (l0.length : Int)) = true := decide_eq_true c6
            clear c6
            by_cases c7 : 0 ≤ x4_1
            · rw [if_pos c7] at H
              have c7b0 : decide (0 ≤ x4_1) = true := decide_eq_true c7
              clear c7
              by_cases c8 : x4_1 < (x3_1.length : Int)
              · rw [if_pos c8] at H
                have c8b0 : decide (x4_1 < (x3_1.length : Int)) = true := decide_eq_true c8
                clear c8
                obtain ⟨y390, hy390⟩ : ∃ y_ : List Int, y_ = (x3_1.set (x4_1 : Int).toNat (rd l0 x4_1)) := ⟨_, rfl⟩
                replace H : (laws_toIntS.l0 k1 l0 y390 (wrap64 (x4_1 + 1))) = some r := by first | (rw [hy390]; with_reducible exact H) | (have H2_ := (Option.bind_some _ _).symm.trans H; rw [hy390]; with_reducible exact H2_) | (have H2_ := (Option.bind_some _ _).symm.trans H; with_reducible exact H2_) | with_reducible exact H | (rw [hy390]; exact H) | exact H
                have Ny390 := Aside0.mk hy390
                clear hy390
                have H' := Aside0.mk H
                clear H
                have p389 : 0 ≤ (x4_1 : Int) := of_decide_eq_true (by first | (with_reducible assumption) | assumption)
                have q389 : x4_1 < (l0.length : Int) := of_decide_eq_true (by first | (with_reducible assumption) | assumption)
                obtain ⟨ad389, e389, hx389_0⟩ := Kd.at_int HR0.out x4_1 p389 q389
                cases e389
                replace hx389_0 := (HB.out.cell (World.block_lt_of_cell? w _ hx389_0)).trans hx389_0
                replace p389 := eq_true p389
                replace q389 := eq_true q389
                have p9 : 0 ≤ (x4_1 : Int) := of_decide_eq_true (by first | (with_reducible assumption) | assumption)
                have q9 : (x4_1 : Int) < ((x3_1.length : Int) : Int) := of_decide_eq_true (by first | (with_reducible assumption) | assumption)
                obtain ⟨go9, co9, eo9, gb9, gl9, cl9, HG9⟩ := Kd.R_form HO_3.out (by omega)
                (first | cases eo9 | (injection eo9 with ea_ en_ ec_; (first | subst ea_ | (injection ea_ with ea_; subst ea_)); subst ec_; clear en_))
                have GB9 := Aside0.mk gb9
                have GG9 := Aside0.mk HG9
                clear gb9 gl9 HG9
                obtain ⟨hx9_0, hf9_0⟩ := Kd.R_celln 0 HO_3.out (x4_1 : Int) p9 q9
                replace p9 := eq_true p9
                replace q9 := eq_true q9
                have HP10 := Kd.R_putg HO_3.out (x4_1 : Int) (rd l0 x4_1)
                go_wp2_with (first | ((with_reducible refine gate_store (t := 3) (p := 20) rfl ?_); refine store_event (t := 3) (p := 20) (v := ?vo_w11) (w1 := (wr.setCell ⟨go9, (x4_1 : Int).toNat, none⟩ (.int .i64 (rd l0 x4_1)))) ?hg ?ho ?hn ?hr ?_; (case ho => rfl); (case hg => rfl); (case hn => rfl); (case hr => first | (go_simp; done) | (go_simp; rfl)); intro w11 hw; have hg : wr.grownBy w11 (some go9) := (by rw [hw]; exact HP10.2); have hp_ : Kd.R (Kd.int .i64) 3 w11 w.heap.size (fun _ => True) (.slice (some ⟨go9, 0, none⟩) x3_1.length co9) y390 := (by rw [hw, Ny390.out]; exact HP10.1); clear HP10; have n0_ := Az (hp_); have n1_ := Az ((by rw [hw]; exact below_set (HB.out) GB9.out : Below w.heap.size w w11)); clear HO_3 HB; have HO_3 := n0_; have HB := n1_; clear n0_ n1_; clear hg hw hp_))
                go_roundg k1
                case measure => have := HK1.out; omega
                case rel => exact ⟨(y390), (wrap64 (x4_1 + 1)), (by first | rfl | (simp; done) | (simp [*]; done)), H', ⟨by have := HK1.out; omega⟩, ⟨mr HO_3⟩, ⟨mb HB⟩⟩
              · rw [if_neg c8] at H
                exact absurd H (by simp)
            · rw [if_neg c7] at H
              exact absurd H (by simp)
          · rw [if_neg c6] at H
            have c6b0 : decide (x4_1 < (l0.length : Int)) = false := decide_eq_false c6
            clear c6
            obtain rfl := Option.some.inj H
            go_wp2
            go_ret
            exact ⟨_, by first | rfl | (simp [errW_none, errW_some] <;> rfl) | (simp [*, errW_none, errW_some] <;> rfl), mr HO_3, mb HB⟩
    · rw [if_neg c3] at H
      exact absurd H (by simp)
  · rw [if_neg c2] at H
    exact absurd H (by simp)

/-! ### laws_toDev: function 32 -/
def laws_toDev.f (k : Nat) (l0_0 : List Int) (a0_1 : Int) (l0_2 : List Int) : Option (List Int × Int × List Int) := (laws_toIntS.f k l0_0).bind fun t394 => ((laws_toIntS.f k l0_2).bind fun t397 => (some (t394, a0_1, t397)))
theorem laws_toDev.mono : ∀ a0 a1 a2 k, LeO (laws_toDev.f k a0 a1 a2) (laws_toDev.f (k + 1) a0 a1 a2) := by
  intro a0 a1 a2 k
  unfold laws_toDev.f
  repeat' first
      | (with_reducible exact laws_toIntS.mono _ _)
      | (with_reducible exact LeO.refl _)
      | (with_reducible exact LeO.none _)
      | (with_reducible refine LeO.ite ?_ ?_)
      | (with_reducible refine LeO.bind ?_ (fun _ => ?_))
      | exact laws_toIntS.mono _ _
      | exact LeO.none _
      | refine LeO.ite ?_ ?_
      | refine LeO.bind ?_ (fun _ => ?_)
set_option maxHeartbeats 8000000 in
set_option maxRecDepth 100000 in
theorem laws_toDev.calls (k : Nat) (A0_0 : Option Addr) (c0_0 : Nat) (l0_0 : List Int) (a0_1 : Int) (A0_2 : Option Addr) (c0_2 : Nat) (l0_2 : List Int) (r1 : List Int) (r2 : Int) (r3 : List Int) (w : World) (hr0_0 : Kd.C (Kd.int .i64) w A0_0 l0_0.length l0_0) (hc0_0 : l0_0.length ≤ c0_0) (hr0_2 : Kd.C (Kd.int .i64) w A0_2 l0_2.length l0_2) (hc0_2 : l0_2.length ≤ c0_2) (h : laws_toDev.f k l0_0 a0_1 l0_2 = some (r1, r2, r3)) :
    Calls Try.prog 32 #[.agg #[.slice A0_0 l0_0.length c0_0, .int .i64 a0_1, .slice A0_2 l0_2.length c0_2]] w fun e w' => ∃ v0_ v2_ : Value, e = .returned (.agg #[v0_, .int .i64 r2, v2_]) ∧ Kd.R (Kd.int .i64) 3 w' w.heap.size (fun k_ => some k_ ≠ (v2_ : Value).ownBlock) v0_ r1 ∧ Kd.R (Kd.int .i64) 3 w' w.heap.size (fun k_ => some k_ ≠ (v0_ : Value).ownBlock) v2_ r3 ∧ Below w.heap.size w w' := by
  have hu36 := Try.underlying36
  have hu26 := Try.underlying26
  have HR0_0 := Aside0.mk hr0_0
  have HC0_0 := Aside0.mk hc0_0
  clear hr0_0 hc0_0
  have HR0_2 := Aside0.mk hr0_2
  have HC0_2 := Aside0.mk hc0_2
  clear hr0_2 hc0_2
  have HB := Az (Below.refl w.heap.size w)
  have H : ((laws_toIntS.f k l0_0).bind fun t394 => ((laws_toIntS.f k l0_2).bind fun t397 => (some (t394, a0_1, t397)))) = some (r1, r2, r3) := h
  clear h
  replace H := Option.bind_eq_some_iff.mp H
  obtain ⟨t394, A20, H⟩ := H
  replace H : ((laws_toIntS.f k l0_2).bind fun t397 => (some (t394, a0_1, t397))) = some (r1, r2, r3) := H
  have A2 := Aside0.mk A20
  clear A20
  replace H := Option.bind_eq_some_iff.mp H
  obtain ⟨t397, A30, H⟩ := H
  replace H : (some (t394, a0_1, t397)) = some (r1, r2, r3) := H
  have A3 := Aside0.mk A30
  clear A30
  simp only [Option.some.injEq, Prod.mk.injEq] at H
  obtain ⟨rfl, rfl, rfl⟩ := H
  go_enter Try.func32, Try.ntmps32
  go_wp2_with (first | ((with_reducible refine gate_dst (N := 1) rfl ?_); refine box_event ?hg (N := 1) ?hd (cs := #[.slice A0_0 l0_0.length c0_0, .int .i64 a0_1, .slice A0_2 l0_2.length c0_2]) (t := 36) ?hr ?_; (case hd => rfl); (case hg => rfl); (case hr => first | (go_simp; done) | (go_simp; rfl)); intro gb391 hg w4 hbox hb; have n0_ := Az (below_step (mb HB) hb); have n1_ := Az (hbox); have n2_ := Az ((by rw [hg]; exact (below_size (mb HB)) : w.heap.size ≤ gb391)); have n3_ := Az ((by rw [hg]; exact (below_size (mb HB)) : w.heap.size ≤ gb391)); clear HB; have HB := n0_; have BK391 := n1_; have GW391 := n2_; have GE391 := n3_; clear n0_ n1_ n2_ n3_; clear hb hbox hg) | ((with_reducible refine gate_dst (N := 2) rfl ?_); refine box_event ?hg (N := 2) ?hd (cs := #[.slice none 0 0, .int .i64 0, .slice none 0 0]) (t := 26) ?hr ?_; (case hd => rfl); (case hg => rfl); (case hr => first | (go_simp; done) | (go_simp; rfl)); intro gb392 hg w5 hbox hb; have n0_ := Az (blk_below (mz BK391) hb); have n1_ := Az (below_step (mb HB) hb); have n2_ := Az (hbox); have n3_ := Az ((by rw [hg]; exact (below_size (mb HB)) : w.heap.size ≤ gb392)); have n4_ := Az ((by rw [hg]; exact (below_size (mb HB)) : w.heap.size ≤ gb392)); have n5_ := Az ((by rw [hg]; exact Nat.ne_of_lt (blk_lt (mz BK391)) : gb391 ≠ gb392)); have n6_ := Az ((by rw [hg]; exact Nat.ne_of_gt (blk_lt (mz BK391)) : gb392 ≠ gb391)); clear BK391 HB; have BK391 := n0_; have HB := n1_; have BK392 := n2_; have GW392 := n3_; have GE392 := n4_; have NB391_392 := n5_; have NB392_391 := n6_; clear n0_ n1_ n2_ n3_ n4_ n5_ n6_; clear hb hbox hg) | ((with_reducible refine gate_dst (N := 3) rfl ?_); refine box_event ?hg (N := 3) ?hd (cs := #[.slice none 0 0, .int .i64 0, .slice none 0 0]) (t := 26) ?hr ?_; (case hd => rfl); (case hg => rfl); (case hr => first | (go_simp; done) | (go_simp; rfl)); intro gb393 hg w6 hbox hb; have n0_ := Az (blk_below (mz BK391) hb); have n1_ := Az (blk_below (mz BK392) hb); have n2_ := Az (below_step (mb HB) hb); have n3_ := Az (hbox); have n4_ := Az ((by rw [hg]; exact (below_size (mb HB)) : w.heap.size ≤ gb393)); have n5_ := Az ((by rw [hg]; exact (below_size (mb HB)) : w.heap.size ≤ gb393)); have n6_ := Az ((by rw [hg]; exact Nat.ne_of_lt (blk_lt (mz BK391)) : gb391 ≠ gb393)); have n7_ := Az ((by rw [hg]; exact Nat.ne_of_gt (blk_lt (mz BK391)) : gb393 ≠ gb391)); have n8_ := Az ((by rw [hg]; exact Nat.ne_of_lt (blk_lt (mz BK392)) : gb392 ≠ gb393)); have n9_ := Az ((by rw [hg]; exact Nat.ne_of_gt (blk_lt (mz BK392)) : gb393 ≠ gb392)); clear BK391 BK392 HB; have BK391 := n0_; have BK392 := n1_; have HB := n2_; have BK393 := n3_; have GW393 := n4_; have GE393 := n5_; have NB391_393 := n6_; have NB393_391 := n7_; have NB392_393 := n8_; have NB393_392 := n9_; clear n0_ n1_ n2_ n3_ n4_ n5_ n6_ n7_ n8_ n9_ hb hbox hg; have hnb7 := NB391_392.out; have hnc7 := NB392_391.out; have hnb8 := NB391_393.out; have hnc8 := NB393_391.out; have hcz9_0 := bz0 BK391; have hcz9_1 := bz1 BK391; have hcz9_2 := bz2 BK391; have hfz9_0 := bf BK391 0; have hfz9_1 := bf BK391 1; have hfz9_2 := bf BK391 2) | ((with_reducible refine gate_callee (f := 65) rfl ?_); refine goesL_ (some 6) rfl rfl Try.func65 (by kernel_rfl) rfl #[.slice A0_0 l0_0.length c0_0] rfl ml ?_; (with_reducible refine (laws_toIntS.calls k _ _ l0_0 t394 _ ?side1 ?side2 A2.out).mono ?_); (case side1 => exact mc (Kd.C_below HR0_0.out HB.out)); (case side2 => exact HC0_0.out); rintro e w10 ⟨v395, rfl, ho0, hb⟩; refine ⟨_, rfl, ?_⟩; have n0_ := Az (Kd.R_lower ho0 (below_size (mb HB))); have n1_ := Az (blk_below (mz BK391) hb); have n2_ := Az (blk_below (mz BK392) hb); have n3_ := Az (blk_below (mz BK393) hb); have n4_ := Az (below_step (mb HB) hb); clear BK391 BK392 BK393 HB; have HO396 := n0_; have BK391 := n1_; have BK392 := n2_; have BK393 := n3_; have HB := n4_; clear n0_ n1_ n2_ n3_ n4_; (try clear hb); (try clear hb2); (try clear hk); (try clear hi); (try clear ho0); obtain ⟨Ao11, co11, eo11⟩ := Kd.R_slice HO396.out; subst eo11; have hnb12 := NB393_392.out; have hnc12 := NB392_393.out; have hcz13_0 := bz0 BK393; have hcz13_1 := bz1 BK393; have hcz13_2 := bz2 BK393; have hfz13_0 := bf BK393 0; have hfz13_1 := bf BK393 1; have hfz13_2 := bf BK393 2; have hcz14_0 := bz0 BK391; have hcz14_1 := bz1 BK391; have hcz14_2 := bz2 BK391; have hfz14_0 := bf BK391 0; have hfz14_1 := bf BK391 1; have hfz14_2 := bf BK391 2) | ((with_reducible refine gate_callee (f := 65) rfl ?_); refine goesL_ (some 13) rfl rfl Try.func65 (by kernel_rfl) rfl #[.slice A0_2 l0_2.length c0_2] rfl ml ?_; (with_reducible refine (laws_toIntS.calls k _ _ l0_2 t397 _ ?side1 ?side2 A3.out).mono ?_); (case side1 => exact Kd.C_below HR0_2.out (mb HB)); (case side2 => exact HC0_2.out); rintro e w15 ⟨v398, rfl, ho0, hb⟩; refine ⟨_, rfl, ?_⟩; have n0_ := Az (Kd.R_elder' (by (with_reducible repeat (first | apply Kd.R_alloc | apply Kd.R_drewN | apply Kd.R_drew)); exact (Kd.R_mono (Kd.R_far (Kd.R_far (Kd.R_types HO396.out BK393.out (by decide)) (fun _ hk => hk.2) _) (fun _ hk => hk.2) _) (fun _ h_ => h_.1))) (Kd.R_base ho0) hb); have n1_ := Az (Kd.R_lower (Kd.R_new' ho0 (Kd.R_lt (by (with_reducible repeat (first | apply Kd.R_alloc | apply Kd.R_drewN | apply Kd.R_drew)); exact (Kd.R_mono (Kd.R_far (Kd.R_far (Kd.R_types HO396.out BK393.out (by decide)) (fun _ hk => hk.2) _) (fun _ hk => hk.2) _) (fun _ h_ => h_.1))))) (below_size (mb HB))); have n2_ := Az (blk_below (g := gb391) (o := .cells #[.slice A0_0 l0_0.length c0_0, .int .i64 a0_1, .slice A0_2 l0_2.length c0_2] 36 (0, 0)) (by refine ms ?_; refine blk_far ?_ NB391_393.out _; refine ms ?_; refine blk_far ?_ NB391_393.out _; refine ms ?_; exact BK391.out) hb); have n3_ := Az (blk_below (g := gb392) (o := .cells #[.slice none 0 0, .int .i64 0, .slice none 0 0] 26 (0, 0)) (by refine ms ?_; refine blk_far ?_ NB392_393.out _; refine ms ?_; refine blk_far ?_ NB392_393.out _; refine ms ?_; exact BK392.out) hb); have n4_ := Az (blk_below (g := gb393) (o := .cells #[.slice Ao11 t394.length co11, .int .i64 a0_1, .slice none 0 0] 26 (0, 0)) (by refine ms ?_; refine blk_put (cs := #[.slice Ao11 t394.length co11, .int .i64 0, .slice none 0 0]) ?_ 1 _ rfl; refine ms ?_; refine blk_put (cs := #[.slice none 0 0, .int .i64 0, .slice none 0 0]) ?_ 0 _ rfl; refine ms ?_; exact BK393.out) hb); have n5_ := Az (below_step (mb HB) hb); clear HO396 BK391 BK392 BK393 HB; have HO396 := n0_; have HO399 := n1_; have BK391 := n2_; have BK392 := n3_; have BK393 := n4_; have HB := n5_; clear n0_ n1_ n2_ n3_ n4_ n5_; (try clear hb); (try clear hb2); (try clear hk); (try clear hi); (try clear ho0); obtain ⟨Ao16, co16, eo16⟩ := Kd.R_slice HO399.out; subst eo16; have hcz17_0 := bz0 BK393; have hcz17_1 := bz1 BK393; have hcz17_2 := bz2 BK393; have hfz17_0 := bf BK393 0; have hfz17_1 := bf BK393 1; have hfz17_2 := bf BK393 2; have hcz18_0 := bz0 BK392; have hcz18_1 := bz1 BK392; have hcz18_2 := bz2 BK392; have hfz18_0 := bf BK392 0; have hfz18_1 := bf BK392 1; have hfz18_2 := bf BK392 2))
  refine bodyPost_ret (results_cell_row rfl _ _ gb392 26 #[.slice Ao11 t394.length co11, .int .i64 a0_1, .slice Ao16 t397.length co16] (0, 0) _ rfl (by refine ms ?_; refine blk_put (cs := #[.slice Ao11 t394.length co11, .int .i64 a0_1, .slice none 0 0]) ?_ 2 _ rfl; refine ms ?_; refine blk_put (cs := #[.slice Ao11 t394.length co11, .int .i64 0, .slice none 0 0]) ?_ 1 _ rfl; refine ms ?_; refine blk_put (cs := #[.slice none 0 0, .int .i64 0, .slice none 0 0]) ?_ 0 _ rfl; refine ms ?_; refine blk_far ?_ NB392_393.out _; refine ms ?_; exact BK392.out) Try.underlying26 rfl (by kernel_rfl)) rfl ?_
  exact ⟨_, _, by first | rfl | (simp [errW_none, errW_some] <;> rfl) | (simp [*, errW_none, errW_some] <;> rfl), by (with_reducible repeat (first | apply Kd.R_alloc | apply Kd.R_drewN | apply Kd.R_drew)); exact Kd.R_mono (Kd.R_far (Kd.R_far (Kd.R_far (Kd.R_far (Kd.R_types (Kd.R_types HO396.out BK393.out (by decide)) BK392.out (by decide)) (fun _ hk => hk.1.2) _) (fun _ hk => hk.2) _) (fun _ hk => hk.2) _) (fun _ hk => hk.2) _) (fun _ hk => hk.1.1.2), by (with_reducible repeat (first | apply Kd.R_alloc | apply Kd.R_drewN | apply Kd.R_drew)); exact Kd.R_mono (Kd.R_far (Kd.R_far (Kd.R_far (Kd.R_far (Kd.R_types (Kd.R_types HO399.out BK393.out (by decide)) BK392.out (by decide)) (fun _ hk => hk.1.2) _) (fun _ hk => hk.2) _) (fun _ hk => hk.2) _) (fun _ hk => hk.2) _) (fun _ hk => hk.1.1.2), mb HB⟩

end Go.Proofs.Ythikbgjlcdkoaaa.MFnExactModelDo
