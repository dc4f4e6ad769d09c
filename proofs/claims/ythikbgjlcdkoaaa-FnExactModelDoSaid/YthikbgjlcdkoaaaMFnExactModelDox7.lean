-- Written for this claim by a program of the session (wip/mk.py) over the kit's print.
import Derived.Test.YthikbgjlcdkoaaaMFnExactModelDox0
import Derived.Test.YthikbgjlcdkoaaaMFnExactModelDox5
import Derived.Test.YthikbgjlcdkoaaaMFnExactModelDox6
namespace Go.Proofs.Ythikbgjlcdkoaaa.MFnExactModelDo
open Go.RowKit Go.Proofs.YthikbgjlcdkoaaaW.PrintWords Go.Proofs.YthikbgjlcdkoaaaW.PrintLast Go.Proofs.YthikbgjlcdkoaaaW.PrintMore
attribute [local go_sem] max2_int min2_int max_two min_two max_three min_three max_four min_four   -- for this text's walks alone
set_option linter.unusedVariables false
set_option linter.unusedSimpArgs false

/-! ### spec_DevDo: function 42 -/
mutual
def spec_DevDo.j0 : Nat → Bool → Int → Int → Bool → List Int → Int → List Int → Option (List Int × Int × List Int × Int × Bool)
  | 0, _, _, _, _, _, _, _ => none
  | k + 1, x1, x2, x3, x33, x297000, x297001, x297002 => if x33 = true then (some (x297000, x297001, x297002, 0, false)) else ((spec_l1In.f x2 0 12).bind fun t300 => (if t300 = true then (spec_DevDo.j1 k x1 x2 x3 x1 x297000 x297001 x297002) else (spec_DevDo.j1 k x1 x2 x3 false x297000 x297001 x297002)))
def spec_DevDo.j1 : Nat → Bool → Int → Int → Bool → List Int → Int → List Int → Option (List Int × Int × List Int × Int × Bool)
  | 0, _, _, _, _, _, _, _ => none
  | k + 1, x1, x2, x3, x35, x297000, x297001, x297002 => if x35 = true then (if 0 ≤ (wrap64 (Int.tdiv x2 4)) then (if (wrap64 (Int.tdiv x2 4)) < (x297000.length : Int) then (some ((x297000.set ((wrap64 (Int.tdiv x2 4)) : Int).toNat x3), x297001, x297002, x3, true)) else (none)) else (none)) else ((spec_l1In.f x2 0 12).bind fun t302 => (if t302 = true then (if 0 ≤ (wrap64 (Int.tdiv x2 4)) then (if (wrap64 (Int.tdiv x2 4)) < (x297000.length : Int) then (some (x297000, x297001, x297002, rd x297000 (wrap64 (Int.tdiv x2 4)), true)) else (none)) else (none)) else (if x2 = 16 then (spec_DevDo.j2 k x1 x2 x3 x1 x297000 x297001 x297002) else (spec_DevDo.j2 k x1 x2 x3 false x297000 x297001 x297002))))
def spec_DevDo.j2 : Nat → Bool → Int → Int → Bool → List Int → Int → List Int → Option (List Int × Int × List Int × Int × Bool)
  | 0, _, _, _, _, _, _, _ => none
  | k + 1, x1, x2, x3, x59, x297000, x297001, x297002 => if x59 = true then (some (x297000, x3, x297002, x3, true)) else (if x2 = 16 then ((spec_LimitOf.f 2).bind fun t304 => (if t304 = 0 then (none) else (some (x297000, Int.tmod (wrap64 (x297001 + 1)) t304, x297002, x297001, true)))) else (if x2 = 20 then (if x1 = true then (spec_DevDo.j3 k x1 x2 x3 (decide ((x297002.length : Int) < 4)) x297000 x297001 x297002) else (spec_DevDo.j3 k x1 x2 x3 false x297000 x297001 x297002)) else (spec_DevDo.j3 k x1 x2 x3 false x297000 x297001 x297002)))
def spec_DevDo.j3 : Nat → Bool → Int → Int → Bool → List Int → Int → List Int → Option (List Int × Int × List Int × Int × Bool)
  | 0, _, _, _, _, _, _, _ => none
  | k + 1, x1, x2, x3, x81, x297000, x297001, x297002 => if x81 = true then (if x297002.length < 17592186044416 then (some (x297000, x297001, (x297002 ++ [x3]), x3, true)) else (none)) else (if x2 = 20 then (if x1 = true then (some (x297000, x297001, x297002, 0, false)) else (if (x297002.length : Int) > 0 then (if 0 < (x297002.length : Int) then (if 1 ≤ (x297002.length : Int) then (some (x297000, x297001, (x297002.drop (1 : Int).toNat), rd x297002 0, true)) else (none)) else (none)) else (some (x297000, x297001, x297002, 0, false)))) else (some (x297000, x297001, x297002, 0, false)))
end
def spec_DevDo.f (k : Nat) (l0_0 : List Int) (a0_1 : Int) (l0_2 : List Int) (a1 : Bool) (a2 : Int) (a3 : Int) : Option (List Int × Int × List Int × Int × Bool) := (spec_l8Copy.f l0_0 a0_1 l0_2).bind fun bt289 => ((spec_DevOk.f k l0_0 a0_1 l0_2).bind fun t297 => (if t297 = true then (if (Int.tmod a2 4) = 0 then (if a1 = true then ((spec_LimitOf.f 2).bind fun t298 => ((spec_l1In.f a3 0 (wrap64 (t298 - 1))).bind fun t299 => (spec_DevDo.j0 k a1 a2 a3 (!t299) bt289.1 bt289.2.1 bt289.2.2))) else (spec_DevDo.j0 k a1 a2 a3 false bt289.1 bt289.2.1 bt289.2.2)) else (spec_DevDo.j0 k a1 a2 a3 true bt289.1 bt289.2.1 bt289.2.2)) else (spec_DevDo.j0 k a1 a2 a3 true bt289.1 bt289.2.1 bt289.2.2)))
theorem spec_DevDo.mono_l : ∀ k, (∀ y0 y1 y2 y3 y4 y5 y6, LeO (spec_DevDo.j0 k y0 y1 y2 y3 y4 y5 y6) (spec_DevDo.j0 (k + 1) y0 y1 y2 y3 y4 y5 y6)) ∧ (∀ y0 y1 y2 y3 y4 y5 y6, LeO (spec_DevDo.j1 k y0 y1 y2 y3 y4 y5 y6) (spec_DevDo.j1 (k + 1) y0 y1 y2 y3 y4 y5 y6)) ∧ (∀ y0 y1 y2 y3 y4 y5 y6, LeO (spec_DevDo.j2 k y0 y1 y2 y3 y4 y5 y6) (spec_DevDo.j2 (k + 1) y0 y1 y2 y3 y4 y5 y6)) ∧ (∀ y0 y1 y2 y3 y4 y5 y6, LeO (spec_DevDo.j3 k y0 y1 y2 y3 y4 y5 y6) (spec_DevDo.j3 (k + 1) y0 y1 y2 y3 y4 y5 y6))
  | 0 => ⟨fun _ _ _ _ _ _ _ r h => by simp [spec_DevDo.j0] at h, fun _ _ _ _ _ _ _ r h => by simp [spec_DevDo.j1] at h, fun _ _ _ _ _ _ _ r h => by simp [spec_DevDo.j2] at h, fun _ _ _ _ _ _ _ r h => by simp [spec_DevDo.j3] at h⟩
  | k + 1 => by
    obtain ⟨ih0, ih1, ih2, ih3⟩ := spec_DevDo.mono_l k
    refine ⟨?_, ?_, ?_, ?_⟩
    · intro y0 y1 y2 y3 y4 y5 y6
      unfold spec_DevDo.j0
      repeat' first
      | (with_reducible exact ih0 _ _ _ _ _ _ _)
      | (with_reducible exact ih1 _ _ _ _ _ _ _)
      | (with_reducible exact ih2 _ _ _ _ _ _ _)
      | (with_reducible exact ih3 _ _ _ _ _ _ _)
      | (with_reducible exact spec_DevOk.mono _ _ _ _)
      | (with_reducible exact LeO.refl _)
      | (with_reducible exact LeO.none _)
      | (with_reducible refine LeO.ite ?_ ?_)
      | (with_reducible refine LeO.bind ?_ (fun _ => ?_))
      | exact ih0 _ _ _ _ _ _ _
      | exact ih1 _ _ _ _ _ _ _
      | exact ih2 _ _ _ _ _ _ _
      | exact ih3 _ _ _ _ _ _ _
      | exact spec_DevOk.mono _ _ _ _
      | exact LeO.none _
      | refine LeO.ite ?_ ?_
      | refine LeO.bind ?_ (fun _ => ?_)
    · intro y0 y1 y2 y3 y4 y5 y6
      unfold spec_DevDo.j1
      repeat' first
      | (with_reducible exact ih0 _ _ _ _ _ _ _)
      | (with_reducible exact ih1 _ _ _ _ _ _ _)
      | (with_reducible exact ih2 _ _ _ _ _ _ _)
      | (with_reducible exact ih3 _ _ _ _ _ _ _)
      | (with_reducible exact spec_DevOk.mono _ _ _ _)
      | (with_reducible exact LeO.refl _)
      | (with_reducible exact LeO.none _)
      | (with_reducible refine LeO.ite ?_ ?_)
      | (with_reducible refine LeO.bind ?_ (fun _ => ?_))
      | exact ih0 _ _ _ _ _ _ _
      | exact ih1 _ _ _ _ _ _ _
      | exact ih2 _ _ _ _ _ _ _
      | exact ih3 _ _ _ _ _ _ _
      | exact spec_DevOk.mono _ _ _ _
      | exact LeO.none _
      | refine LeO.ite ?_ ?_
      | refine LeO.bind ?_ (fun _ => ?_)
    · intro y0 y1 y2 y3 y4 y5 y6
      unfold spec_DevDo.j2
      repeat' first
      | (with_reducible exact ih0 _ _ _ _ _ _ _)
      | (with_reducible exact ih1 _ _ _ _ _ _ _)
      | (with_reducible exact ih2 _ _ _ _ _ _ _)
      | (with_reducible exact ih3 _ _ _ _ _ _ _)
      | (with_reducible exact spec_DevOk.mono _ _ _ _)
      | (with_reducible exact LeO.refl _)
      | (with_reducible exact LeO.none _)
      | (with_reducible refine LeO.ite ?_ ?_)
      | (with_reducible refine LeO.bind ?_ (fun _ => ?_))
      | exact ih0 _ _ _ _ _ _ _
      | exact ih1 _ _ _ _ _ _ _
      | exact ih2 _ _ _ _ _ _ _
      | exact ih3 _ _ _ _ _ _ _
      | exact spec_DevOk.mono _ _ _ _
      | exact LeO.none _
      | refine LeO.ite ?_ ?_
      | refine LeO.bind ?_ (fun _ => ?_)
    · intro y0 y1 y2 y3 y4 y5 y6
      unfold spec_DevDo.j3
      repeat' first
      | (with_reducible exact ih0 _ _ _ _ _ _ _)
      | (with_reducible exact ih1 _ _ _ _ _ _ _)
      | (with_reducible exact ih2 _ _ _ _ _ _ _)
      | (with_reducible exact ih3 _ _ _ _ _ _ _)
      | (with_reducible exact spec_DevOk.mono _ _ _ _)
      | (with_reducible exact LeO.refl _)
      | (with_reducible exact LeO.none _)
      | (with_reducible refine LeO.ite ?_ ?_)
      | (with_reducible refine LeO.bind ?_ (fun _ => ?_))
      | exact ih0 _ _ _ _ _ _ _
      | exact ih1 _ _ _ _ _ _ _
      | exact ih2 _ _ _ _ _ _ _
      | exact ih3 _ _ _ _ _ _ _
      | exact spec_DevOk.mono _ _ _ _
      | exact LeO.none _
      | refine LeO.ite ?_ ?_
      | refine LeO.bind ?_ (fun _ => ?_)
theorem spec_DevDo.mono : ∀ a0 a1 a2 a3 a4 a5 k, LeO (spec_DevDo.f k a0 a1 a2 a3 a4 a5) (spec_DevDo.f (k + 1) a0 a1 a2 a3 a4 a5) := by
  intro a0 a1 a2 a3 a4 a5 k
  obtain ⟨ih0, ih1, ih2, ih3⟩ := spec_DevDo.mono_l k
  unfold spec_DevDo.f
  repeat' first
      | (with_reducible exact ih0 _ _ _ _ _ _ _)
      | (with_reducible exact ih1 _ _ _ _ _ _ _)
      | (with_reducible exact ih2 _ _ _ _ _ _ _)
      | (with_reducible exact ih3 _ _ _ _ _ _ _)
      | (with_reducible exact spec_DevOk.mono _ _ _ _)
      | (with_reducible exact LeO.refl _)
      | (with_reducible exact LeO.none _)
      | (with_reducible refine LeO.ite ?_ ?_)
      | (with_reducible refine LeO.bind ?_ (fun _ => ?_))
      | exact ih0 _ _ _ _ _ _ _
      | exact ih1 _ _ _ _ _ _ _
      | exact ih2 _ _ _ _ _ _ _
      | exact ih3 _ _ _ _ _ _ _
      | exact spec_DevOk.mono _ _ _ _
      | exact LeO.none _
      | refine LeO.ite ?_ ?_
      | refine LeO.bind ?_ (fun _ => ?_)
def spec_DevDo.T8 : Bool × List (List Nat × List Nat) := (true, [([], []), ([], []), ([1], [1]), ([], []), ([3], [3]), ([2, 4], [2, 4]), ([5], [5]), ([0, 0], [0]), ([6, 7, 0, 1, 2, 3, 4, 5, 6, 7], [6]), ([8, 0, 1, 2, 3, 4, 5, 6, 7, 8], [])])
def spec_DevDo.B8 : List Nat := [0, 0, 2, 0, 8, 30, 62, 1, 255, 511]
theorem spec_DevDo.tab8 : rtab .any (opsOf Try.f42 8) = spec_DevDo.T8 := by kernel_rfl
theorem spec_DevDo.bits8 : waitsOk spec_DevDo.T8.2 spec_DevDo.B8 = true := by kernel_rfl
set_option maxHeartbeats 8000000 in
set_option maxRecDepth 100000 in
theorem spec_DevDo.calls (k : Nat) (A0_0 : Option Addr) (c0_0 : Nat) (l0_0 : List Int) (a0_1 : Int) (A0_2 : Option Addr) (c0_2 : Nat) (l0_2 : List Int) (a1 : Bool) (a2 : Int) (a3 : Int) (r1 : List Int) (r2 : Int) (r3 : List Int) (r4 : Int) (r5 : Bool) (w : World) (hr0_0 : Kd.C (Kd.int .i64) w A0_0 l0_0.length l0_0) (hc0_0 : l0_0.length ≤ c0_0) (hr0_2 : Kd.C (Kd.int .i64) w A0_2 l0_2.length l0_2) (hc0_2 : l0_2.length ≤ c0_2) (h : spec_DevDo.f k l0_0 a0_1 l0_2 a1 a2 a3 = some (r1, r2, r3, r4, r5)) :
    Calls Try.prog 42 #[.agg #[.slice A0_0 l0_0.length c0_0, .int .i64 a0_1, .slice A0_2 l0_2.length c0_2], .bool a1, .int .i64 a2, .int .i64 a3] w fun e w' => ∃ v0_ v2_ : Value, e = .returned (.tuple #[.agg #[v0_, .int .i64 r2, v2_], .int .i64 r4, .bool r5]) ∧ Kd.R (Kd.int .i64) 3 w' w.heap.size (fun k_ => some k_ ≠ (v2_ : Value).ownBlock) v0_ r1 ∧ Kd.Q (Kd.int .i64) 3 w' w.heap.size (fun k_ => some k_ ≠ (v0_ : Value).ownBlock) v2_ r3 ∧ Below w.heap.size w w' := by
  have hu26 := Try.underlying26
  have HR0_0 := Aside0.mk hr0_0
  have HC0_0 := Aside0.mk hc0_0
  clear hr0_0 hc0_0
  have HR0_2 := Aside0.mk hr0_2
  have HC0_2 := Aside0.mk hc0_2
  clear hr0_2 hc0_2
  have HB := Az (Below.refl w.heap.size w)
  have H : ((spec_l8Copy.f l0_0 a0_1 l0_2).bind fun bt289 => ((spec_DevOk.f k l0_0 a0_1 l0_2).bind fun t297 => (if t297 = true then (if (Int.tmod a2 4) = 0 then (if a1 = true then ((spec_LimitOf.f 2).bind fun t298 => ((spec_l1In.f a3 0 (wrap64 (t298 - 1))).bind fun t299 => (spec_DevDo.j0 k a1 a2 a3 (!t299) bt289.1 bt289.2.1 bt289.2.2))) else (spec_DevDo.j0 k a1 a2 a3 false bt289.1 bt289.2.1 bt289.2.2)) else (spec_DevDo.j0 k a1 a2 a3 true bt289.1 bt289.2.1 bt289.2.2)) else (spec_DevDo.j0 k a1 a2 a3 true bt289.1 bt289.2.1 bt289.2.2)))) = some (r1, r2, r3, r4, r5) := h
  clear h
  replace H := Option.bind_eq_some_iff.mp H
  obtain ⟨⟨t289, t292, t293⟩, A50, H⟩ := H
  replace H : ((spec_DevOk.f k l0_0 a0_1 l0_2).bind fun t297 => (if t297 = true then (if (Int.tmod a2 4) = 0 then (if a1 = true then ((spec_LimitOf.f 2).bind fun t298 => ((spec_l1In.f a3 0 (wrap64 (t298 - 1))).bind fun t299 => (spec_DevDo.j0 k a1 a2 a3 (!t299) t289 t292 t293))) else (spec_DevDo.j0 k a1 a2 a3 false t289 t292 t293)) else (spec_DevDo.j0 k a1 a2 a3 true t289 t292 t293)) else (spec_DevDo.j0 k a1 a2 a3 true t289 t292 t293))) = some (r1, r2, r3, r4, r5) := H
  have A5 := Aside0.mk A50
  clear A50
  have HC6 := Aside0.mk H
  clear H
  go_enter Try.func42, Try.ntmps42
  go_upto_region 2 with (first | ((with_reducible refine gate_dst (N := 4) rfl ?_); (try (refine gate_guard (by rfl) ?_; dsimp only)); refine box_event ?hg (N := 4) ?hd (cs := #[.slice A0_0 l0_0.length c0_0, .int .i64 a0_1, .slice A0_2 l0_2.length c0_2]) (t := 26) ?hr ?_; (case hd => rfl); (case hg => rfl); (case hr => first | (go_simp; done) | (go_simp; rfl)); intro gb287 hg w7 hbox hb; have n0_ := Az (below_step (mb HB) hb); have n1_ := Az (hbox); have n2_ := Az ((by rw [hg]; exact (below_size (mb HB)) : w.heap.size ≤ gb287)); have n3_ := Az ((by rw [hg]; exact (below_size (mb HB)) : w.heap.size ≤ gb287)); clear HB; have HB := n0_; have BK287 := n1_; have GW287 := n2_; have GE287 := n3_; clear n0_ n1_ n2_ n3_; clear hb hbox hg) | ((with_reducible refine gate_dst (N := 8) rfl ?_); (try (refine gate_guard (by rfl) ?_; dsimp only)); refine box_event ?hg (N := 8) ?hd (cs := #[.slice none 0 0, .int .i64 0, .slice none 0 0]) (t := 26) ?hr ?_; (case hd => rfl); (case hg => rfl); (case hr => first | (go_simp; done) | (go_simp; rfl)); intro gb288 hg w8 hbox hb; have n0_ := Az (blk_below (mz BK287) hb); have n1_ := Az (below_step (mb HB) hb); have n2_ := Az (hbox); have n3_ := Az ((by rw [hg]; exact (below_size (mb HB)) : w.heap.size ≤ gb288)); have n4_ := Az ((by rw [hg]; exact (below_size (mb HB)) : w.heap.size ≤ gb288)); have n5_ := Az ((by rw [hg]; exact Nat.ne_of_lt (blk_lt (mz BK287)) : gb287 ≠ gb288)); have n6_ := Az ((by rw [hg]; exact Nat.ne_of_gt (blk_lt (mz BK287)) : gb288 ≠ gb287)); clear BK287 HB; have BK287 := n0_; have HB := n1_; have BK288 := n2_; have GW288 := n3_; have GE288 := n4_; have NB287_288 := n5_; have NB288_287 := n6_; clear n0_ n1_ n2_ n3_ n4_ n5_ n6_ hb hbox hg; have hnb9 := NB287_288.out; have hnc9 := NB288_287.out; have hcz10_0 := bz0 BK287; have hcz10_1 := bz1 BK287; have hcz10_2 := bz2 BK287; have hfz10_0 := bf BK287 0; have hfz10_1 := bf BK287 1; have hfz10_2 := bf BK287 2) | ((with_reducible refine gate_callee (f := 78) rfl ?_); refine goesL_ (some 15) rfl rfl Try.func78 (by kernel_rfl) rfl #[.agg #[.slice A0_0 l0_0.length c0_0, .int .i64 a0_1, .slice A0_2 l0_2.length c0_2]] rfl ml ?_; (with_reducible refine (spec_l8Copy.calls _ _ l0_0 a0_1 _ _ l0_2 t289 t292 t293 _ ?side1 ?side2 ?side3 ?side4 A5.out).mono ?_); (case side1 => exact mc (Kd.C_below HR0_0.out HB.out)); (case side2 => exact HC0_0.out); (case side3 => exact mc (Kd.C_below HR0_2.out HB.out)); (case side4 => exact HC0_2.out); rintro e w11 ⟨v290, v294, rfl, ho0, ho1, hb⟩; refine ⟨_, rfl, ?_⟩; have n0_ := Az (Kd.R_lower ho0 (below_size (mb HB))); have n1_ := Az (Kd.R_lower ho1 (below_size (mb HB))); have n2_ := Az (blk_below (mz BK287) hb); have n3_ := Az (blk_below (mz BK288) hb); have n4_ := Az (below_step (mb HB) hb); clear BK287 BK288 HB; have HO291 := n0_; have HO295 := n1_; have BK287 := n2_; have BK288 := n3_; have HB := n4_; clear n0_ n1_ n2_ n3_ n4_; (try clear hb); (try clear hb2); (try clear hk); (try clear hi); (try clear ho0); (try clear ho1)) | ((with_reducible refine gate_dst (N := 11) rfl ?_); (try (refine gate_guard (by rfl) ?_; dsimp only)); refine box_event ?hg (N := 11) ?hd (cs := #[.slice none 0 0, .int .i64 0, .slice none 0 0]) (t := 26) ?hr ?_; (case hd => rfl); (case hg => rfl); (case hr => first | (go_simp; done) | (go_simp; rfl)); intro gb296 hg w12 hbox hb; have n0_ := Az (Kd.R_below (mr HO291) hb); have n1_ := Az (Kd.R_below (mr HO295) hb); have n2_ := Az (blk_below (mz BK287) hb); have n3_ := Az (blk_below (mz BK288) hb); have n4_ := Az (below_step (mb HB) hb); have n5_ := Az (hbox); have n6_ := Az ((by rw [hg]; exact (below_size (mb HB)) : w.heap.size ≤ gb296)); have n7_ := Az ((by rw [hg]; exact (below_size (mb HB)) : w.heap.size ≤ gb296)); have n8_ := Az ((by rw [hg]; exact Nat.ne_of_lt (blk_lt (mz BK287)) : gb287 ≠ gb296)); have n9_ := Az ((by rw [hg]; exact Nat.ne_of_gt (blk_lt (mz BK287)) : gb296 ≠ gb287)); have n10_ := Az ((by rw [hg]; exact Nat.ne_of_lt (blk_lt (mz BK288)) : gb288 ≠ gb296)); have n11_ := Az ((by rw [hg]; exact Nat.ne_of_gt (blk_lt (mz BK288)) : gb296 ≠ gb288)); clear HO291 HO295 BK287 BK288 HB; have HO291 := n0_; have HO295 := n1_; have BK287 := n2_; have BK288 := n3_; have HB := n4_; have BK296 := n5_; have GW296 := n6_; have GE296 := n7_; have NB287_296 := n8_; have NB296_287 := n9_; have NB288_296 := n10_; have NB296_288 := n11_; clear n0_ n1_ n2_ n3_ n4_ n5_ n6_ n7_ n8_ n9_ n10_ n11_ hb hbox hg; obtain ⟨Ao13, co13, eo13⟩ := Kd.R_slice HO291.out; subst eo13; have hnb14 := NB296_287.out; have hnc14 := NB287_296.out; have hnb15 := NB296_288.out; have hnc15 := NB288_296.out; have hcz16_0 := bz0 BK296; have hcz16_1 := bz1 BK296; have hcz16_2 := bz2 BK296; have hfz16_0 := bf BK296 0; have hfz16_1 := bf BK296 1; have hfz16_2 := bf BK296 2; obtain ⟨Ao17, co17, eo17⟩ := Kd.R_slice HO295.out; subst eo17))
  (try simp only [Act.put, List.setIfInBounds_toArray, List.set_cons_zero, List.set_cons_succ])
  go_cut [33] (fun v33 wc => ∃ (kq : Nat) (x33_5 : Bool), v33 = .bool x33_5 ∧ Aside0 (spec_DevDo.j0 kq a1 a2 a3 x33_5 t289 t292 t293 = some (r1, r2, r3, r4, r5)) ∧ Aside0 (kq ≤ k) ∧ Aside0 (Kd.R (Kd.int .i64) 3 wc w.heap.size (fun k_ => some k_ ≠ ((.slice Ao17 t293.length co17) : Value).ownBlock) (.slice Ao13 t289.length co13) t289) ∧ Aside0 (Kd.Q (Kd.int .i64) 3 wc w.heap.size (fun k_ => some k_ ≠ ((.slice Ao13 t289.length co13) : Value).ownBlock) (.slice Ao17 t293.length co17) t293) ∧ Aside0 (wc.heap[gb287]? = some (.cells #[(.slice A0_0 l0_0.length c0_0), .int .i64 a0_1, (.slice A0_2 l0_2.length c0_2)] 26 (0, 0))) ∧ Aside0 (wc.heap[gb288]? = some (.cells #[(.slice none 0 0), .int .i64 0, (.slice none 0 0)] 26 (0, 0))) ∧ Aside0 (wc.heap[gb296]? = some (.cells #[(.slice Ao13 t289.length co13), .int .i64 t292, (.slice Ao17 t293.length co17)] 26 (0, 0))) ∧ Aside0 (Below w.heap.size w wc))
  case first =>
    have H := HC6.out
    clear HC6
    replace H := Option.bind_eq_some_iff.mp H
    obtain ⟨t297, A180, H⟩ := H
    replace H : (if t297 = true then (if (Int.tmod a2 4) = 0 then (if a1 = true then ((spec_LimitOf.f 2).bind fun t298 => ((spec_l1In.f a3 0 (wrap64 (t298 - 1))).bind fun t299 => (spec_DevDo.j0 k a1 a2 a3 (!t299) t289 t292 t293))) else (spec_DevDo.j0 k a1 a2 a3 false t289 t292 t293)) else (spec_DevDo.j0 k a1 a2 a3 true t289 t292 t293)) else (spec_DevDo.j0 k a1 a2 a3 true t289 t292 t293)) = some (r1, r2, r3, r4, r5) := H
    have A18 := Aside0.mk A180
    clear A180
    by_cases c19 : t297 = true
    · subst c19
      have H1 : (if (Int.tmod a2 4) = 0 then (if a1 = true then ((spec_LimitOf.f 2).bind fun t298 => ((spec_l1In.f a3 0 (wrap64 (t298 - 1))).bind fun t299 => (spec_DevDo.j0 k a1 a2 a3 (!t299) t289 t292 t293))) else (spec_DevDo.j0 k a1 a2 a3 false t289 t292 t293)) else (spec_DevDo.j0 k a1 a2 a3 true t289 t292 t293)) = some (r1, r2, r3, r4, r5) := by rw [if_pos rfl] at H; exact H
      clear H
      have H := H1
      clear H1
      by_cases c20 : (Int.tmod a2 4) = 0
      · rw [if_pos c20] at H
        have c20b0 : ((Int.tmod a2 4) == 0) = true := beq_iff_eq.mpr c20
        have c20b1 : ((Int.tmod a2 4) != 0) = false := bne_eq_false_iff_eq.mpr c20
        clear c20
        (first | rw [c20b0] | (simp only [i64_w, i32_w]; rw [c20b0]) | skip)
        by_cases c21 : a1 = true
        · subst c21
          have H1 : ((spec_LimitOf.f 2).bind fun t298 => ((spec_l1In.f a3 0 (wrap64 (t298 - 1))).bind fun t299 => (spec_DevDo.j0 k true a2 a3 (!t299) t289 t292 t293))) = some (r1, r2, r3, r4, r5) := by rw [if_pos rfl] at H; exact H
          clear H
          have H := H1
          clear H1
          replace H := Option.bind_eq_some_iff.mp H
          obtain ⟨t298, A220, H⟩ := H
          replace H : ((spec_l1In.f a3 0 (wrap64 (t298 - 1))).bind fun t299 => (spec_DevDo.j0 k true a2 a3 (!t299) t289 t292 t293)) = some (r1, r2, r3, r4, r5) := H
          have A22 := Aside0.mk A220
          clear A220
          replace H := Option.bind_eq_some_iff.mp H
          obtain ⟨t299, A230, H⟩ := H
          replace H : (spec_DevDo.j0 k true a2 a3 (!t299) t289 t292 t293) = some (r1, r2, r3, r4, r5) := H
          have A23 := Aside0.mk A230
          clear A230
          have H' := Aside0.mk H
          clear H
          have hnb24 := NB287_288.out
          have hnc24 := NB288_287.out
          have hnb25 := NB287_296.out
          have hnc25 := NB296_287.out
          have hcz26_0 := bz0 BK287
          have hcz26_1 := bz1 BK287
          have hcz26_2 := bz2 BK287
          have hfz26_0 := bf BK287 0
          have hfz26_1 := bf BK287 1
          have hfz26_2 := bf BK287 2
          go_wp2_with (first | ((with_reducible refine gate_callee (f := 36) rfl ?_); refine goesL_ (some 17) rfl rfl Try.func36 (by kernel_rfl) rfl #[.agg #[.slice A0_0 l0_0.length c0_0, .int .i64 a0_1, .slice A0_2 l0_2.length c0_2]] rfl ml ?_; (with_reducible refine (spec_DevOk.calls k _ _ l0_0 a0_1 _ _ l0_2 true _ ?side1 ?side2 ?side3 ?side4 A18.out).mono ?_); (case side1 => exact Kd.C_below HR0_0.out (mb HB)); (case side2 => exact HC0_0.out); (case side3 => exact Kd.C_below HR0_2.out (mb HB)); (case side4 => exact HC0_2.out); rintro e w27 ⟨rfl, hb⟩; refine ⟨_, rfl, ?_⟩; have n0_ := Az (Kd.R_below (by (with_reducible repeat (first | apply Kd.R_alloc | apply Kd.R_drewN | apply Kd.R_drew)); exact (Kd.R_mono (Kd.R_far (Kd.R_far (Kd.R_far (Kd.R_types HO291.out BK296.out (by decide)) (fun _ hk => hk.2) _) (fun _ hk => hk.2) _) (fun _ hk => hk.2) _) (fun _ h_ => h_.1))) hb); have n1_ := Az (Kd.R_below (by (with_reducible repeat (first | apply Kd.R_alloc | apply Kd.R_drewN | apply Kd.R_drew)); exact (Kd.R_mono (Kd.R_far (Kd.R_far (Kd.R_far (Kd.R_types HO295.out BK296.out (by decide)) (fun _ hk => hk.2) _) (fun _ hk => hk.2) _) (fun _ hk => hk.2) _) (fun _ h_ => h_.1))) hb); have n2_ := Az (blk_below (g := gb287) (o := .cells #[.slice A0_0 l0_0.length c0_0, .int .i64 a0_1, .slice A0_2 l0_2.length c0_2] 26 (0, 0)) (by refine ms ?_; refine blk_far ?_ NB287_296.out _; refine ms ?_; refine blk_far ?_ NB287_296.out _; refine ms ?_; refine blk_far ?_ NB287_296.out _; refine ms ?_; exact BK287.out) hb); have n3_ := Az (blk_below (g := gb288) (o := .cells #[.slice none 0 0, .int .i64 0, .slice none 0 0] 26 (0, 0)) (by refine ms ?_; refine blk_far ?_ NB288_296.out _; refine ms ?_; refine blk_far ?_ NB288_296.out _; refine ms ?_; refine blk_far ?_ NB288_296.out _; refine ms ?_; exact BK288.out) hb); have n4_ := Az (blk_below (g := gb296) (o := .cells #[.slice Ao13 t289.length co13, .int .i64 t292, .slice Ao17 t293.length co17] 26 (0, 0)) (by refine ms ?_; refine blk_put (cs := #[.slice Ao13 t289.length co13, .int .i64 t292, .slice none 0 0]) ?_ 2 _ rfl; refine ms ?_; refine blk_put (cs := #[.slice Ao13 t289.length co13, .int .i64 0, .slice none 0 0]) ?_ 1 _ rfl; refine ms ?_; refine blk_put (cs := #[.slice none 0 0, .int .i64 0, .slice none 0 0]) ?_ 0 _ rfl; refine ms ?_; exact BK296.out) hb); have n5_ := Az (below_step (mb HB) hb); clear HO291 HO295 BK287 BK288 BK296 HB; have HO291 := n0_; have HO295 := n1_; have BK287 := n2_; have BK288 := n3_; have BK296 := n4_; have HB := n5_; clear n0_ n1_ n2_ n3_ n4_ n5_; (try clear hb); (try clear hb2); (try clear hk); (try clear hi)) | (go_at_call 58; (with_reducible refine (spec_LimitOf.calls 2 t298 _ A22.out).mono ?_); rintro e w' ⟨rfl, ⟨nd, rfl⟩⟩) | (go_at_call 57; (with_reducible refine (spec_l1In.calls a3 0 (wrap64 (t298 - 1)) t299 _ A23.out).mono ?_); rintro e w' ⟨rfl, ⟨nd, rfl⟩⟩))
          go_meet
          case rel => exact ⟨_, (!t299), (by first | rfl | (simp; done) | (simp [*]; done)), H', ⟨by first | omega | exact Nat.le_refl _⟩, ⟨mr HO291⟩, ⟨Kd.Q_of_R (mr HO295)⟩, ⟨mz BK287⟩, ⟨mz BK288⟩, ⟨mz BK296⟩, ⟨mb HB⟩⟩
        · replace c21 := Bool.eq_false_iff.mpr c21
          subst c21
          have H1 : (spec_DevDo.j0 k false a2 a3 false t289 t292 t293) = some (r1, r2, r3, r4, r5) := by rw [if_neg (show ¬ (false = true) by decide)] at H; exact H
          clear H
          have H := H1
          clear H1
          have H' := Aside0.mk H
          clear H
          have hnb28 := NB287_288.out
          have hnc28 := NB288_287.out
          have hnb29 := NB287_296.out
          have hnc29 := NB296_287.out
          have hcz30_0 := bz0 BK287
          have hcz30_1 := bz1 BK287
          have hcz30_2 := bz2 BK287
          have hfz30_0 := bf BK287 0
          have hfz30_1 := bf BK287 1
          have hfz30_2 := bf BK287 2
          go_wp2_with (first | ((with_reducible refine gate_callee (f := 36) rfl ?_); refine goesL_ (some 17) rfl rfl Try.func36 (by kernel_rfl) rfl #[.agg #[.slice A0_0 l0_0.length c0_0, .int .i64 a0_1, .slice A0_2 l0_2.length c0_2]] rfl ml ?_; (with_reducible refine (spec_DevOk.calls k _ _ l0_0 a0_1 _ _ l0_2 true _ ?side1 ?side2 ?side3 ?side4 A18.out).mono ?_); (case side1 => exact Kd.C_below HR0_0.out (mb HB)); (case side2 => exact HC0_0.out); (case side3 => exact Kd.C_below HR0_2.out (mb HB)); (case side4 => exact HC0_2.out); rintro e w31 ⟨rfl, hb⟩; refine ⟨_, rfl, ?_⟩; have n0_ := Az (Kd.R_below (by (with_reducible repeat (first | apply Kd.R_alloc | apply Kd.R_drewN | apply Kd.R_drew)); exact (Kd.R_mono (Kd.R_far (Kd.R_far (Kd.R_far (Kd.R_types HO291.out BK296.out (by decide)) (fun _ hk => hk.2) _) (fun _ hk => hk.2) _) (fun _ hk => hk.2) _) (fun _ h_ => h_.1))) hb); have n1_ := Az (Kd.R_below (by (with_reducible repeat (first | apply Kd.R_alloc | apply Kd.R_drewN | apply Kd.R_drew)); exact (Kd.R_mono (Kd.R_far (Kd.R_far (Kd.R_far (Kd.R_types HO295.out BK296.out (by decide)) (fun _ hk => hk.2) _) (fun _ hk => hk.2) _) (fun _ hk => hk.2) _) (fun _ h_ => h_.1))) hb); have n2_ := Az (blk_below (g := gb287) (o := .cells #[.slice A0_0 l0_0.length c0_0, .int .i64 a0_1, .slice A0_2 l0_2.length c0_2] 26 (0, 0)) (by refine ms ?_; refine blk_far ?_ NB287_296.out _; refine ms ?_; refine blk_far ?_ NB287_296.out _; refine ms ?_; refine blk_far ?_ NB287_296.out _; refine ms ?_; exact BK287.out) hb); have n3_ := Az (blk_below (g := gb288) (o := .cells #[.slice none 0 0, .int .i64 0, .slice none 0 0] 26 (0, 0)) (by refine ms ?_; refine blk_far ?_ NB288_296.out _; refine ms ?_; refine blk_far ?_ NB288_296.out _; refine ms ?_; refine blk_far ?_ NB288_296.out _; refine ms ?_; exact BK288.out) hb); have n4_ := Az (blk_below (g := gb296) (o := .cells #[.slice Ao13 t289.length co13, .int .i64 t292, .slice Ao17 t293.length co17] 26 (0, 0)) (by refine ms ?_; refine blk_put (cs := #[.slice Ao13 t289.length co13, .int .i64 t292, .slice none 0 0]) ?_ 2 _ rfl; refine ms ?_; refine blk_put (cs := #[.slice Ao13 t289.length co13, .int .i64 0, .slice none 0 0]) ?_ 1 _ rfl; refine ms ?_; refine blk_put (cs := #[.slice none 0 0, .int .i64 0, .slice none 0 0]) ?_ 0 _ rfl; refine ms ?_; exact BK296.out) hb); have n5_ := Az (below_step (mb HB) hb); clear HO291 HO295 BK287 BK288 BK296 HB; have HO291 := n0_; have HO295 := n1_; have BK287 := n2_; have BK288 := n3_; have BK296 := n4_; have HB := n5_; clear n0_ n1_ n2_ n3_ n4_ n5_; (try clear hb); (try clear hb2); (try clear hk); (try clear hi)))
          go_meet
          case rel => exact ⟨_, (false), (by first | rfl | (simp; done) | (simp [*]; done)), H', ⟨by first | omega | exact Nat.le_refl _⟩, ⟨mr HO291⟩, ⟨Kd.Q_of_R (mr HO295)⟩, ⟨mz BK287⟩, ⟨mz BK288⟩, ⟨mz BK296⟩, ⟨mb HB⟩⟩
      · rw [if_neg c20] at H
        have c20b0 : ((Int.tmod a2 4) == 0) = false := beq_eq_false_iff_ne.mpr c20
        have c20b1 : ((Int.tmod a2 4) != 0) = true := bne_iff_ne.mpr c20
        (first | rw [c20b0] | (simp only [i64_w, i32_w]; rw [c20b0]) | skip)
        have H' := Aside0.mk H
        clear H
        have hnb32 := NB287_288.out
        have hnc32 := NB288_287.out
        have hnb33 := NB287_296.out
        have hnc33 := NB296_287.out
        have hcz34_0 := bz0 BK287
        have hcz34_1 := bz1 BK287
        have hcz34_2 := bz2 BK287
        have hfz34_0 := bf BK287 0
        have hfz34_1 := bf BK287 1
        have hfz34_2 := bf BK287 2
        go_wp2_with (first | ((with_reducible refine gate_callee (f := 36) rfl ?_); refine goesL_ (some 17) rfl rfl Try.func36 (by kernel_rfl) rfl #[.agg #[.slice A0_0 l0_0.length c0_0, .int .i64 a0_1, .slice A0_2 l0_2.length c0_2]] rfl ml ?_; (with_reducible refine (spec_DevOk.calls k _ _ l0_0 a0_1 _ _ l0_2 true _ ?side1 ?side2 ?side3 ?side4 A18.out).mono ?_); (case side1 => exact Kd.C_below HR0_0.out (mb HB)); (case side2 => exact HC0_0.out); (case side3 => exact Kd.C_below HR0_2.out (mb HB)); (case side4 => exact HC0_2.out); rintro e w35 ⟨rfl, hb⟩; refine ⟨_, rfl, ?_⟩; have n0_ := Az (Kd.R_below (by (with_reducible repeat (first | apply Kd.R_alloc | apply Kd.R_drewN | apply Kd.R_drew)); exact (Kd.R_mono (Kd.R_far (Kd.R_far (Kd.R_far (Kd.R_types HO291.out BK296.out (by decide)) (fun _ hk => hk.2) _) (fun _ hk => hk.2) _) (fun _ hk => hk.2) _) (fun _ h_ => h_.1))) hb); have n1_ := Az (Kd.R_below (by (with_reducible repeat (first | apply Kd.R_alloc | apply Kd.R_drewN | apply Kd.R_drew)); exact (Kd.R_mono (Kd.R_far (Kd.R_far (Kd.R_far (Kd.R_types HO295.out BK296.out (by decide)) (fun _ hk => hk.2) _) (fun _ hk => hk.2) _) (fun _ hk => hk.2) _) (fun _ h_ => h_.1))) hb); have n2_ := Az (blk_below (g := gb287) (o := .cells #[.slice A0_0 l0_0.length c0_0, .int .i64 a0_1, .slice A0_2 l0_2.length c0_2] 26 (0, 0)) (by refine ms ?_; refine blk_far ?_ NB287_296.out _; refine ms ?_; refine blk_far ?_ NB287_296.out _; refine ms ?_; refine blk_far ?_ NB287_296.out _; refine ms ?_; exact BK287.out) hb); have n3_ := Az (blk_below (g := gb288) (o := .cells #[.slice none 0 0, .int .i64 0, .slice none 0 0] 26 (0, 0)) (by refine ms ?_; refine blk_far ?_ NB288_296.out _; refine ms ?_; refine blk_far ?_ NB288_296.out _; refine ms ?_; refine blk_far ?_ NB288_296.out _; refine ms ?_; exact BK288.out) hb); have n4_ := Az (blk_below (g := gb296) (o := .cells #[.slice Ao13 t289.length co13, .int .i64 t292, .slice Ao17 t293.length co17] 26 (0, 0)) (by refine ms ?_; refine blk_put (cs := #[.slice Ao13 t289.length co13, .int .i64 t292, .slice none 0 0]) ?_ 2 _ rfl; refine ms ?_; refine blk_put (cs := #[.slice Ao13 t289.length co13, .int .i64 0, .slice none 0 0]) ?_ 1 _ rfl; refine ms ?_; refine blk_put (cs := #[.slice none 0 0, .int .i64 0, .slice none 0 0]) ?_ 0 _ rfl; refine ms ?_; exact BK296.out) hb); have n5_ := Az (below_step (mb HB) hb); clear HO291 HO295 BK287 BK288 BK296 HB; have HO291 := n0_; have HO295 := n1_; have BK287 := n2_; have BK288 := n3_; have BK296 := n4_; have HB := n5_; clear n0_ n1_ n2_ n3_ n4_ n5_; (try clear hb); (try clear hb2); (try clear hk); (try clear hi)))
        go_meet
        case rel => exact ⟨_, (true), (by first | rfl | (simp; done) | (simp [*]; done)), H', ⟨by first | omega | exact Nat.le_refl _⟩, ⟨mr HO291⟩, ⟨Kd.Q_of_R (mr HO295)⟩, ⟨mz BK287⟩, ⟨mz BK288⟩, ⟨mz BK296⟩, ⟨mb HB⟩⟩
    · replace c19 := Bool.eq_false_iff.mpr c19
      subst c19
      have H1 : (spec_DevDo.j0 k a1 a2 a3 true t289 t292 t293) = some (r1, r2, r3, r4, r5) := by rw [if_neg (show ¬ (false = true) by decide)] at H; exact H
      clear H
      have H := H1
      clear H1
      have H' := Aside0.mk H
      clear H
      have hnb36 := NB287_288.out
      have hnc36 := NB288_287.out
      have hnb37 := NB287_296.out
      have hnc37 := NB296_287.out
      have hcz38_0 := bz0 BK287
      have hcz38_1 := bz1 BK287
      have hcz38_2 := bz2 BK287
      have hfz38_0 := bf BK287 0
      have hfz38_1 := bf BK287 1
      have hfz38_2 := bf BK287 2
      go_wp2_with (first | ((with_reducible refine gate_callee (f := 36) rfl ?_); refine goesL_ (some 17) rfl rfl Try.func36 (by kernel_rfl) rfl #[.agg #[.slice A0_0 l0_0.length c0_0, .int .i64 a0_1, .slice A0_2 l0_2.length c0_2]] rfl ml ?_; (with_reducible refine (spec_DevOk.calls k _ _ l0_0 a0_1 _ _ l0_2 false _ ?side1 ?side2 ?side3 ?side4 A18.out).mono ?_); (case side1 => exact Kd.C_below HR0_0.out (mb HB)); (case side2 => exact HC0_0.out); (case side3 => exact Kd.C_below HR0_2.out (mb HB)); (case side4 => exact HC0_2.out); rintro e w39 ⟨rfl, hb⟩; refine ⟨_, rfl, ?_⟩; have n0_ := Az (Kd.R_below (by (with_reducible repeat (first | apply Kd.R_alloc | apply Kd.R_drewN | apply Kd.R_drew)); exact (Kd.R_mono (Kd.R_far (Kd.R_far (Kd.R_far (Kd.R_types HO291.out BK296.out (by decide)) (fun _ hk => hk.2) _) (fun _ hk => hk.2) _) (fun _ hk => hk.2) _) (fun _ h_ => h_.1))) hb); have n1_ := Az (Kd.R_below (by (with_reducible repeat (first | apply Kd.R_alloc | apply Kd.R_drewN | apply Kd.R_drew)); exact (Kd.R_mono (Kd.R_far (Kd.R_far (Kd.R_far (Kd.R_types HO295.out BK296.out (by decide)) (fun _ hk => hk.2) _) (fun _ hk => hk.2) _) (fun _ hk => hk.2) _) (fun _ h_ => h_.1))) hb); have n2_ := Az (blk_below (g := gb287) (o := .cells #[.slice A0_0 l0_0.length c0_0, .int .i64 a0_1, .slice A0_2 l0_2.length c0_2] 26 (0, 0)) (by refine ms ?_; refine blk_far ?_ NB287_296.out _; refine ms ?_; refine blk_far ?_ NB287_296.out _; refine ms ?_; refine blk_far ?_ NB287_296.out _; refine ms ?_; exact BK287.out) hb); have n3_ := Az (blk_below (g := gb288) (o := .cells #[.slice none 0 0, .int .i64 0, .slice none 0 0] 26 (0, 0)) (by refine ms ?_; refine blk_far ?_ NB288_296.out _; refine ms ?_; refine blk_far ?_ NB288_296.out _; refine ms ?_; refine blk_far ?_ NB288_296.out _; refine ms ?_; exact BK288.out) hb); have n4_ := Az (blk_below (g := gb296) (o := .cells #[.slice Ao13 t289.length co13, .int .i64 t292, .slice Ao17 t293.length co17] 26 (0, 0)) (by refine ms ?_; refine blk_put (cs := #[.slice Ao13 t289.length co13, .int .i64 t292, .slice none 0 0]) ?_ 2 _ rfl; refine ms ?_; refine blk_put (cs := #[.slice Ao13 t289.length co13, .int .i64 0, .slice none 0 0]) ?_ 1 _ rfl; refine ms ?_; refine blk_put (cs := #[.slice none 0 0, .int .i64 0, .slice none 0 0]) ?_ 0 _ rfl; refine ms ?_; exact BK296.out) hb); have n5_ := Az (below_step (mb HB) hb); clear HO291 HO295 BK287 BK288 BK296 HB; have HO291 := n0_; have HO295 := n1_; have BK287 := n2_; have BK288 := n3_; have BK296 := n4_; have HB := n5_; clear n0_ n1_ n2_ n3_ n4_ n5_; (try clear hb); (try clear hb2); (try clear hk); (try clear hi)))
      go_meet
      case rel => exact ⟨_, (true), (by first | rfl | (simp; done) | (simp [*]; done)), H', ⟨by first | omega | exact Nat.le_refl _⟩, ⟨mr HO291⟩, ⟨Kd.Q_of_R (mr HO295)⟩, ⟨mz BK287⟩, ⟨mz BK288⟩, ⟨mz BK296⟩, ⟨mb HB⟩⟩
  case rest =>
    clear HC6
    try clear hcz10_0
    try clear hcz10_1
    try clear hcz10_2
    try clear hcz16_0
    try clear hcz16_1
    try clear hcz16_2
    try clear hfz10_0
    try clear hfz10_1
    try clear hfz10_2
    try clear hfz16_0
    try clear hfz16_1
    try clear hfz16_2
    obtain ⟨kq, x33_5, rfl, HA, HJ5, HO_297000, HO_297002, BK287, BK288, BK296, HB⟩ := hcut
    cases kq with
    | zero => exact absurd HA.out (by simp [spec_DevDo.j0])
    | succ kj5 =>
      have H := HA.out
      clear HA
      simp only [spec_DevDo.j0] at H
      by_cases c40 : x33_5 = true
      · subst c40
        have H1 : (some (t289, t292, t293, 0, false)) = some (r1, r2, r3, r4, r5) := by rw [if_pos rfl] at H; exact H
        clear H
        have H := H1
        clear H1
        simp only [Option.some.injEq, Prod.mk.injEq] at H
        obtain ⟨rfl, rfl, rfl, rfl, rfl⟩ := H
        have hnb41 := NB296_287.out
        have hnc41 := NB287_296.out
        have hnb42 := NB296_288.out
        have hnc42 := NB288_296.out
        have hcz43_0 := bz0 BK296
        have hcz43_1 := bz1 BK296
        have hcz43_2 := bz2 BK296
        have hfz43_0 := bf BK296 0
        have hfz43_1 := bf BK296 1
        have hfz43_2 := bf BK296 2
        have hnb44 := NB288_287.out
        have hnc44 := NB287_288.out
        have hcz45_0 := bz0 BK288
        have hcz45_1 := bz1 BK288
        have hcz45_2 := bz2 BK288
        have hfz45_0 := bf BK288 0
        have hfz45_1 := bf BK288 1
        have hfz45_2 := bf BK288 2
        go_wp2
        refine bodyPost_ret (results_ctt rfl _ _ gb288 26 #[.slice Ao13 t289.length co13, .int .i64 t292, .slice Ao17 t293.length co17] (0, 0) _ rfl (by refine ms ?_; refine blk_put (cs := #[.slice Ao13 t289.length co13, .int .i64 t292, .slice none 0 0]) ?_ 2 _ rfl; refine ms ?_; refine blk_put (cs := #[.slice Ao13 t289.length co13, .int .i64 0, .slice none 0 0]) ?_ 1 _ rfl; refine ms ?_; refine blk_put (cs := #[.slice none 0 0, .int .i64 0, .slice none 0 0]) ?_ 0 _ rfl; refine ms ?_; exact BK288.out) Try.underlying26 rfl (by kernel_rfl)) rfl ?_
        exact ⟨_, _, by first | rfl | (simp [errW_none, errW_some] <;> rfl) | (simp [*, errW_none, errW_some] <;> rfl), by (with_reducible repeat (first | apply Kd.R_alloc | apply Kd.R_drewN | apply Kd.R_drew)); exact Kd.R_mono (Kd.R_far (Kd.R_far (Kd.R_far (Kd.R_types HO_297000.out BK288.out (by decide)) (fun _ hk => hk.2) _) (fun _ hk => hk.2) _) (fun _ hk => hk.2) _) (fun _ hk => hk.1), by (with_reducible repeat (first | apply Kd.Q_alloc | apply Kd.Q_drewN | apply Kd.Q_drew)); exact Kd.Q_mono (Kd.Q_far (Kd.Q_far (Kd.Q_far (Kd.Q_types HO_297002.out BK288.out (by decide)) (fun _ hk => hk.2) _) (fun _ hk => hk.2) _) (fun _ hk => hk.2) _) (fun _ hk => hk.1), mb HB⟩
      · replace c40 := Bool.eq_false_iff.mpr c40
        subst c40
        have H1 : ((spec_l1In.f a2 0 12).bind fun t300 => (if t300 = true then (spec_DevDo.j1 kj5 a1 a2 a3 a1 t289 t292 t293) else (spec_DevDo.j1 kj5 a1 a2 a3 false t289 t292 t293))) = some (r1, r2, r3, r4, r5) := by rw [if_neg (show ¬ (false = true) by decide)] at H; exact H
        clear H
        have H := H1
        clear H1
        have HC46 := Aside0.mk H
        clear H
        go_upto_region 4 with (fail)
        go_cut [35] (fun v35 wc => ∃ (kq : Nat) (x35_45 : Bool), v35 = .bool x35_45 ∧ Aside0 (spec_DevDo.j1 kq a1 a2 a3 x35_45 t289 t292 t293 = some (r1, r2, r3, r4, r5)) ∧ Aside0 (kq ≤ kj5) ∧ Aside0 (Kd.R (Kd.int .i64) 3 wc w.heap.size (fun k_ => some k_ ≠ ((.slice Ao17 t293.length co17) : Value).ownBlock) (.slice Ao13 t289.length co13) t289) ∧ Aside0 (Kd.Q (Kd.int .i64) 3 wc w.heap.size (fun k_ => some k_ ≠ ((.slice Ao13 t289.length co13) : Value).ownBlock) (.slice Ao17 t293.length co17) t293) ∧ Aside0 (wc.heap[gb287]? = some (.cells #[(.slice A0_0 l0_0.length c0_0), .int .i64 a0_1, (.slice A0_2 l0_2.length c0_2)] 26 (0, 0))) ∧ Aside0 (wc.heap[gb288]? = some (.cells #[(.slice none 0 0), .int .i64 0, (.slice none 0 0)] 26 (0, 0))) ∧ Aside0 (wc.heap[gb296]? = some (.cells #[(.slice Ao13 t289.length co13), .int .i64 t292, (.slice Ao17 t293.length co17)] 26 (0, 0))) ∧ Aside0 (Below w.heap.size w wc))
        case first =>
          have H := HC46.out
          clear HC46
          replace H := Option.bind_eq_some_iff.mp H
          obtain ⟨t300, A470, H⟩ := H
          replace H : (if t300 = true then (spec_DevDo.j1 kj5 a1 a2 a3 a1 t289 t292 t293) else (spec_DevDo.j1 kj5 a1 a2 a3 false t289 t292 t293)) = some (r1, r2, r3, r4, r5) := H
          have A47 := Aside0.mk A470
          clear A470
          by_cases c48 : t300 = true
          · subst c48
            have H1 : (spec_DevDo.j1 kj5 a1 a2 a3 a1 t289 t292 t293) = some (r1, r2, r3, r4, r5) := by rw [if_pos rfl] at H; exact H
            clear H
            have H := H1
            clear H1
            have H' := Aside0.mk H
            clear H
            go_wp2_with (first | ((with_reducible refine gate_callee (f := 57) rfl ?_); refine goesL_ (some 37) rfl rfl Try.func57 (by kernel_rfl) rfl #[.int .i64 a2, .int .i64 0, .int .i64 12] rfl ml ?_; (with_reducible refine (spec_l1In.calls a2 0 12 true _ A47.out).mono ?_); rintro e w' ⟨rfl, ⟨nd, rfl⟩⟩; refine ⟨_, rfl, ?_⟩))
            go_meet
            case rel => exact ⟨_, (a1), (by first | rfl | (simp; done) | (simp [*]; done)), H', ⟨by have := HJ5.out; first | omega | exact Nat.le_refl _⟩, ⟨mr HO_297000⟩, ⟨mq HO_297002⟩, ⟨mz BK287⟩, ⟨mz BK288⟩, ⟨mz BK296⟩, ⟨mb HB⟩⟩
          · replace c48 := Bool.eq_false_iff.mpr c48
            subst c48
            have H1 : (spec_DevDo.j1 kj5 a1 a2 a3 false t289 t292 t293) = some (r1, r2, r3, r4, r5) := by rw [if_neg (show ¬ (false = true) by decide)] at H; exact H
            clear H
            have H := H1
            clear H1
            have H' := Aside0.mk H
            clear H
            go_wp2_with (first | ((with_reducible refine gate_callee (f := 57) rfl ?_); refine goesL_ (some 37) rfl rfl Try.func57 (by kernel_rfl) rfl #[.int .i64 a2, .int .i64 0, .int .i64 12] rfl ml ?_; (with_reducible refine (spec_l1In.calls a2 0 12 false _ A47.out).mono ?_); rintro e w' ⟨rfl, ⟨nd, rfl⟩⟩; refine ⟨_, rfl, ?_⟩))
            go_meet
            case rel => exact ⟨_, (false), (by first | rfl | (simp; done) | (simp [*]; done)), H', ⟨by have := HJ5.out; first | omega | exact Nat.le_refl _⟩, ⟨mr HO_297000⟩, ⟨mq HO_297002⟩, ⟨mz BK287⟩, ⟨mz BK288⟩, ⟨mz BK296⟩, ⟨mb HB⟩⟩
        case rest =>
          clear HC46
          try clear c40
          try clear hcz10_0
          try clear hcz10_1
          try clear hcz10_2
          try clear hcz16_0
          try clear hcz16_1
          try clear hcz16_2
          try clear hfz10_0
          try clear hfz10_1
          try clear hfz10_2
          try clear hfz16_0
          try clear hfz16_1
          try clear hfz16_2
          obtain ⟨kq, x35_45, rfl, HA, HJ45, HO_297000, HO_297002, BK287, BK288, BK296, HB⟩ := hcut
          cases kq with
          | zero => exact absurd HA.out (by simp [spec_DevDo.j1])
          | succ kj45 =>
            have H := HA.out
            clear HA
            simp only [spec_DevDo.j1] at H
            by_cases c49 : x35_45 = true
            · subst c49
              have H1 : (if 0 ≤ (wrap64 (Int.tdiv a2 4)) then (if (wrap64 (Int.tdiv a2 4)) < (t289.length : Int) then (some ((t289.set ((wrap64 (Int.tdiv a2 4)) : Int).toNat a3), t292, t293, a3, true)) else (none)) else (none)) = some (r1, r2, r3, r4, r5) := by rw [if_pos rfl] at H; exact H
              clear H
              have H := H1
              clear H1
              obtain ⟨ji50, hji50⟩ : ∃ j_ : Int, (wrap64 (Int.tdiv a2 4)) = j_ := ⟨_, rfl⟩
              replace H : (if 0 ≤ (ji50) then (if (ji50) < (t289.length : Int) then (some ((t289.set ((ji50) : Int).toNat a3), t292, t293, a3, true)) else (none)) else (none)) = some (r1, r2, r3, r4, r5) := by first | (rw [hji50] at H; exact H) | (simp only [hji50] at H ⊢; exact H)
              have hji50w : (IntKind.i64.wrap (Int.tdiv a2 4)) = ji50 := (i64_w _).trans hji50
              by_cases c51 : 0 ≤ (ji50)
              · rw [if_pos c51] at H
                have c51b0 : decide (0 ≤ (ji50)) = true := decide_eq_true c51
                clear c51
                by_cases c52 : (ji50) < (t289.length : Int)
                · rw [if_pos c52] at H
                  have c52b0 : decide ((ji50) < (t289.length : Int)) = true := decide_eq_true c52
                  clear c52
                  obtain ⟨y301, hy301⟩ : ∃ y_ : List Int, y_ = (t289.set ((ji50) : Int).toNat a3) := ⟨_, rfl⟩
                  replace H : (some (y301, t292, t293, a3, true)) = some (r1, r2, r3, r4, r5) := by first | (rw [hy301]; with_reducible exact H) | (have H2_ := (Option.bind_some _ _).symm.trans H; rw [hy301]; with_reducible exact H2_) | (have H2_ := (Option.bind_some _ _).symm.trans H; with_reducible exact H2_) | with_reducible exact H | (rw [hy301]; exact H) | exact H
                  have Ny301 := Aside0.mk hy301
                  clear hy301
                  simp only [Option.some.injEq, Prod.mk.injEq] at H
                  obtain ⟨rfl, rfl, rfl, rfl, rfl⟩ := H
                  have hnb54 := NB296_287.out
                  have hnc54 := NB287_296.out
                  have hnb55 := NB296_288.out
                  have hnc55 := NB288_296.out
                  have hcz56_0 := bz0 BK296
                  have hcz56_1 := bz1 BK296
                  have hcz56_2 := bz2 BK296
                  have hfz56_0 := bf BK296 0
                  have hfz56_1 := bf BK296 1
                  have hfz56_2 := bf BK296 2
                  have p53 : 0 ≤ ((ji50) : Int) := of_decide_eq_true (by first | (with_reducible assumption) | assumption)
                  have q53 : ((ji50) : Int) < ((t289.length : Int) : Int) := of_decide_eq_true (by first | (with_reducible assumption) | assumption)
                  obtain ⟨go53, co53, eo53, gb53, gl53, cl53, HG53⟩ := Kd.R_form HO_297000.out (by omega)
                  (first | cases eo53 | (injection eo53 with ea_ en_ ec_; (first | subst ea_ | (injection ea_ with ea_; subst ea_)); subst ec_; clear en_))
                  have GB53 := Aside0.mk gb53
                  have GG53 := Aside0.mk HG53
                  clear gb53 gl53 HG53
                  obtain ⟨hx53_0, hf53_0⟩ := Kd.R_celln 0 HO_297000.out ((ji50) : Int) p53 q53
                  replace p53 := eq_true p53
                  replace q53 := eq_true q53
                  have HP57 := Kd.R_putg HO_297000.out ((ji50) : Int) a3
                  go_wp2_with (first | ((with_reducible refine gate_store (t := 3) (p := 46) rfl ?_); refine store_event (t := 3) (p := 46) (v := ?vo_w58) (w1 := (wc.setCell ⟨go53, ((ji50) : Int).toNat, none⟩ (.int .i64 a3))) ?hg ?ho ?hn ?hr ?_; (case ho => rfl); (case hg => rfl); (case hn => rfl); (case hr => first | (go_simp; done) | (go_simp; rfl)); intro w58 hw; have hg : wc.grownBy w58 (some go53) := (by rw [hw]; exact HP57.2); have hp_ : Kd.R (Kd.int .i64) 3 w58 w.heap.size (fun k_ => some k_ ≠ (.slice Ao17 t293.length co17 : Value).ownBlock) (.slice (some ⟨go53, 0, none⟩) t289.length co13) y301 := (by rw [hw, Ny301.out]; exact HP57.1); clear HP57; have n0_ := Az (hp_); have n1_ := Az (Kd.Q_after (v := (.slice (some ⟨go53, 0, none⟩) t289.length co13)) (v1 := (.slice (some ⟨go53, 0, none⟩) t289.length co13)) (ok := (fun _ => True)) (by (with_reducible repeat (first | apply Kd.Q_alloc | apply Kd.Q_drewN | apply Kd.Q_drew)); exact Kd.Q_mono HO_297002.out (fun _ hk => ⟨trivial, hk⟩)) hg (.inl rfl)); have n2_ := Az (blk_grown (mz BK287) hg (Kd.R_ne HO_297000.out BK287.out (by decide))); have n3_ := Az (blk_grown (mz BK288) hg (Kd.R_ne HO_297000.out BK288.out (by decide))); have n4_ := Az (blk_grown (mz BK296) hg (Kd.R_ne HO_297000.out BK296.out (by decide))); have n5_ := Az ((by rw [hw]; exact below_set (HB.out) GB53.out : Below w.heap.size w w58)); clear HO_297000 HO_297002 BK287 BK288 BK296 HB; have HO_297000 := n0_; have HO_297002 := n1_; have BK287 := n2_; have BK288 := n3_; have BK296 := n4_; have HB := n5_; clear n0_ n1_ n2_ n3_ n4_ n5_ hg hw hp_; have hcz59_0 := bz0 BK296; have hcz59_1 := bz1 BK296; have hcz59_2 := bz2 BK296; have hfz59_0 := bf BK296 0; have hfz59_1 := bf BK296 1; have hfz59_2 := bf BK296 2; have hnb60 := NB288_287.out; have hnc60 := NB287_288.out; have hcz61_0 := bz0 BK288; have hcz61_1 := bz1 BK288; have hcz61_2 := bz2 BK288; have hfz61_0 := bf BK288 0; have hfz61_1 := bf BK288 1; have hfz61_2 := bf BK288 2))
                  refine bodyPost_ret (results_ctt rfl _ _ gb288 26 #[.slice (some ⟨go53, 0, none⟩) t289.length co13, .int .i64 t292, .slice Ao17 t293.length co17] (0, 0) _ rfl (by refine ms ?_; refine blk_put (cs := #[.slice (some ⟨go53, 0, none⟩) t289.length co13, .int .i64 t292, .slice none 0 0]) ?_ 2 _ rfl; refine ms ?_; refine blk_put (cs := #[.slice (some ⟨go53, 0, none⟩) t289.length co13, .int .i64 0, .slice none 0 0]) ?_ 1 _ rfl; refine ms ?_; refine blk_put (cs := #[.slice none 0 0, .int .i64 0, .slice none 0 0]) ?_ 0 _ rfl; refine ms ?_; exact BK288.out) Try.underlying26 rfl (by kernel_rfl)) rfl ?_
                  exact ⟨_, _, by first | rfl | (simp [errW_none, errW_some] <;> rfl) | (simp only [← hji50]; first | rfl | (simp [errW_none, errW_some] <;> rfl)) | (simp [*, errW_none, errW_some] <;> rfl), by (with_reducible repeat (first | apply Kd.R_alloc | apply Kd.R_drewN | apply Kd.R_drew)); exact Kd.R_mono (Kd.R_far (Kd.R_far (Kd.R_far (Kd.R_types HO_297000.out BK288.out (by decide)) (fun _ hk => hk.2) (.slice (some ⟨go53, 0, none⟩) t289.length co13)) (fun _ hk => hk.2) _) (fun _ hk => hk.2) _) (fun _ hk => hk.1), by (with_reducible repeat (first | apply Kd.Q_alloc | apply Kd.Q_drewN | apply Kd.Q_drew)); exact Kd.Q_mono (Kd.Q_far (Kd.Q_far (Kd.Q_far (Kd.Q_types HO_297002.out BK288.out (by decide)) (fun _ hk => hk.2) (.slice (some ⟨go53, 0, none⟩) t289.length co13)) (fun _ hk => hk.2) _) (fun _ hk => hk.2) _) (fun _ hk => hk.1.2), mb HB⟩
                · rw [if_neg c52] at H
                  exact absurd H (by simp)
              · rw [if_neg c51] at H
                exact absurd H (by simp)
            · replace c49 := Bool.eq_false_iff.mpr c49
              subst c49
              have H1 : ((spec_l1In.f a2 0 12).bind fun t302 => (if t302 = true then (if 0 ≤ (wrap64 (Int.tdiv a2 4)) then (if (wrap64 (Int.tdiv a2 4)) < (t289.length : Int) then (some (t289, t292, t293, rd t289 (wrap64 (Int.tdiv a2 4)), true)) else (none)) else (none)) else (if a2 = 16 then (spec_DevDo.j2 kj45 a1 a2 a3 a1 t289 t292 t293) else (spec_DevDo.j2 kj45 a1 a2 a3 false t289 t292 t293)))) = some (r1, r2, r3, r4, r5) := by rw [if_neg (show ¬ (false = true) by decide)] at H; exact H
              clear H
              have H := H1
              clear H1
              replace H := Option.bind_eq_some_iff.mp H
              obtain ⟨t302, A620, H⟩ := H
              replace H : (if t302 = true then (if 0 ≤ (wrap64 (Int.tdiv a2 4)) then (if (wrap64 (Int.tdiv a2 4)) < (t289.length : Int) then (some (t289, t292, t293, rd t289 (wrap64 (Int.tdiv a2 4)), true)) else (none)) else (none)) else (if a2 = 16 then (spec_DevDo.j2 kj45 a1 a2 a3 a1 t289 t292 t293) else (spec_DevDo.j2 kj45 a1 a2 a3 false t289 t292 t293))) = some (r1, r2, r3, r4, r5) := H
              have A62 := Aside0.mk A620
              clear A620
              by_cases c63 : t302 = true
              · subst c63
                have H1 : (if 0 ≤ (wrap64 (Int.tdiv a2 4)) then (if (wrap64 (Int.tdiv a2 4)) < (t289.length : Int) then (some (t289, t292, t293, rd t289 (wrap64 (Int.tdiv a2 4)), true)) else (none)) else (none)) = some (r1, r2, r3, r4, r5) := by rw [if_pos rfl] at H; exact H
                clear H
                have H := H1
                clear H1
                obtain ⟨ji64, hji64⟩ : ∃ j_ : Int, (wrap64 (Int.tdiv a2 4)) = j_ := ⟨_, rfl⟩
                replace H : (if 0 ≤ (ji64) then (if (ji64) < (t289.length : Int) then (some (t289, t292, t293, rd t289 (ji64), true)) else (none)) else (none)) = some (r1, r2, r3, r4, r5) := by first | (rw [hji64] at H; exact H) | (simp only [hji64] at H ⊢; exact H)
                (try rw [hji64] at A62)
                have hji64w : (IntKind.i64.wrap (Int.tdiv a2 4)) = ji64 := (i64_w _).trans hji64
                by_cases c65 : 0 ≤ (ji64)
                · rw [if_pos c65] at H
                  have c65b0 : decide (0 ≤ (ji64)) = true := decide_eq_true c65
                  clear c65
                  by_cases c66 : (ji64) < (t289.length : Int)
                  · rw [if_pos c66] at H
                    have c66b0 : decide ((ji64) < (t289.length : Int)) = true := decide_eq_true c66
                    clear c66
                    simp only [Option.some.injEq, Prod.mk.injEq] at H
                    obtain ⟨rfl, rfl, rfl, rfl, rfl⟩ := H
                    try go_wp2_with (first | ((with_reducible refine gate_callee (f := 57) rfl ?_); refine goesL_ (some 51) rfl rfl Try.func57 (by kernel_rfl) rfl #[.int .i64 a2, .int .i64 0, .int .i64 12] rfl ml ?_; (with_reducible refine (spec_l1In.calls a2 0 12 true _ A62.out).mono ?_); rintro e w' ⟨rfl, ⟨nd, rfl⟩⟩; refine ⟨_, rfl, ?_⟩; (try (rw [drewN_self wc]; generalize hq_ : World.drewN wc _ = wc; have n0_ : Aside0 (Kd.R (Kd.int .i64) 3 wc w.heap.size (fun k_ => some k_ ≠ (.slice Ao17 t293.length co17 : Value).ownBlock) (.slice Ao13 t289.length co13) t289) := ⟨by rw [← hq_]; exact (mr HO_297000)⟩; have n1_ : Aside0 (Kd.Q (Kd.int .i64) 3 wc w.heap.size (fun k_ => some k_ ≠ (.slice Ao13 t289.length co13 : Value).ownBlock) (.slice Ao17 t293.length co17) t293) := ⟨by rw [← hq_]; exact (mq HO_297002)⟩; have n2_ : Aside0 (wc.heap[gb287]? = some (.cells #[.slice A0_0 l0_0.length c0_0, .int .i64 a0_1, .slice A0_2 l0_2.length c0_2] 26 (0, 0))) := ⟨by rw [← hq_]; exact (mz BK287)⟩; have n3_ : Aside0 (wc.heap[gb288]? = some (.cells #[.slice none 0 0, .int .i64 0, .slice none 0 0] 26 (0, 0))) := ⟨by rw [← hq_]; exact (mz BK288)⟩; have n4_ : Aside0 (wc.heap[gb296]? = some (.cells #[.slice Ao13 t289.length co13, .int .i64 t292, .slice Ao17 t293.length co17] 26 (0, 0))) := ⟨by rw [← hq_]; exact (mz BK296)⟩; have n5_ : Aside0 (Below w.heap.size w wc) := ⟨by rw [← hq_]; exact (mb HB)⟩; clear HO_297000 HO_297002 BK287 BK288 BK296 HB hq_; have HO_297000 := n0_; have HO_297002 := n1_; have BK287 := n2_; have BK288 := n3_; have BK296 := n4_; have HB := n5_; clear n0_ n1_ n2_ n3_ n4_ n5_))))
                    have n0_ := Az (Kd.R_drew HO_297000.out)
                    have n1_ := Az (Kd.Q_drew HO_297002.out)
                    have n2_ := Az (blk_drew BK287.out)
                    have n3_ := Az (blk_drew BK288.out)
                    have n4_ := Az (blk_drew BK296.out)
                    have n5_ := Az (below_drew1 HB.out)
                    clear HO_297000 HO_297002 BK287 BK288 BK296 HB
                    have HO_297000 := n0_
                    have HO_297002 := n1_
                    have BK287 := n2_
                    have BK288 := n3_
                    have BK296 := n4_
                    have HB := n5_
                    clear n0_ n1_ n2_ n3_ n4_ n5_
                    have p303 : 0 ≤ ((ji64) : Int) := of_decide_eq_true (by first | (with_reducible assumption) | assumption)
                    have q303 : (ji64) < (t289.length : Int) := of_decide_eq_true (by first | (with_reducible assumption) | assumption)
                    obtain ⟨ad303, e303, hx303_0⟩ := Kd.at_int (Kd.R_reads' HO_297000.out).2.2 (ji64) p303 q303
                    cases e303
                    replace p303 := eq_true p303
                    replace q303 := eq_true q303
                    refine start_ (n := 10) (S := fun w' => w'.cell? ⟨gb296, 0, none⟩ = some (.slice (some ad303) t289.length co13) ∧ w'.cell? ⟨gb296, 1, none⟩ = some (.int .i64 t292) ∧ w'.cell? ⟨gb296, 2, none⟩ = some (.slice Ao17 t293.length co17) ∧ w'.cell? (ad303.add ((ji64)).toNat) = some (.int .i64 (rd t289 (ji64)))) (ds := []) #[false, false, false, false, false, false, false, false, false, false] (by kernel_rfl) rfl rfl ⟨(blk_cell BK296.out 0).trans rfl, (blk_cell BK296.out 1).trans rfl, (blk_cell BK296.out 2).trans rfl, hx303_0⟩ (fun hHeld => ?_); refine with_tabW spec_DevDo.tab8 spec_DevDo.bits8 (fun HT_ HW_ => ?_)
                    generalize wc.drew = w67 at HO_297000 HO_297002 BK287 BK288 BK296 HB hx303_0 hHeld ⊢
                    refine pure_ (i := 1) (N := some 53) (v := ?_) (a' := ?_) #[false, true, false, false, false, false, false, false, false, false] rfl rfl (any_of HT_.out (by kernel_rfl)) (fun _ _ _ h => h) (Or.inl ⟨by rfl, ?_⟩) ?_ ?_
                    rotate_left
                    · intro w'
                      go_simp
                      with_reducible rfl
                    rotate_left
                    · simp only [Act.put, List.setIfInBounds_toArray, List.set_cons_zero, List.set_cons_succ, i64_w, i32_w]
                      rfl
                    refine pure_ (i := 3) (N := some 55) (v := ?_) (a' := ?_) #[false, true, false, true, false, false, false, false, false, false] rfl rfl (any_of HT_.out (by kernel_rfl)) (fun _ _ _ h => h) (Or.inl ⟨by rfl, ?_⟩) ?_ ?_
                    rotate_left
                    · intro w'
                      go_simp
                      with_reducible rfl
                    rotate_left
                    · simp only [Act.put, List.setIfInBounds_toArray, List.set_cons_zero, List.set_cons_succ, i64_w, i32_w]
                      rfl
                    refine pure_ (i := 4) (N := some 56) (v := ?_) (a' := ?_) #[false, true, false, true, true, false, false, false, false, false] rfl rfl (any_of HT_.out (by kernel_rfl)) (fun _ _ _ h => h) (Or.inl ⟨by rfl, ?_⟩) ?_ ?_
                    rotate_left
                    · intro w'
                      go_simp
                      with_reducible rfl
                    rotate_left
                    · simp only [Act.put, List.setIfInBounds_toArray, List.set_cons_zero, List.set_cons_succ, i64_w, i32_w]
                      rfl
                    refine take_ (i := 0) (N := some 52) (v := ?_) (a' := ?_) #[true, true, false, true, true, false, false, false, false, false] rfl rfl (take_ofW HT_.out HW_.out (by kernel_rfl)) (fun _ _ _ h => h) (Or.inl ⟨by rfl, ?_⟩) hHeld ?_ ?_
                    rotate_left
                    · rintro w' ⟨s0, s1, s2, s3⟩
                      go_simp
                      with_reducible rfl
                    rotate_left
                    · simp only [Act.put, List.setIfInBounds_toArray, List.set_cons_zero, List.set_cons_succ, i64_w, i32_w]
                      rfl
                    refine take_ (i := 2) (N := some 54) (v := ?_) (a' := ?_) #[true, true, true, true, true, false, false, false, false, false] rfl rfl (take_ofW HT_.out HW_.out (by kernel_rfl)) (fun _ _ _ h => h) (Or.inl ⟨by rfl, ?_⟩) hHeld ?_ ?_
                    rotate_left
                    · rintro w' ⟨s0, s1, s2, s3⟩
                      go_simp
                      with_reducible rfl
                    rotate_left
                    · simp only [Act.put, List.setIfInBounds_toArray, List.set_cons_zero, List.set_cons_succ, i64_w, i32_w]
                      rfl
                    refine pure_ (i := 5) (N := some 57) (v := ?_) (a' := ?_) #[true, true, true, true, true, true, false, false, false, false] rfl rfl (any_of HT_.out (by kernel_rfl)) (fun _ _ _ h => h) (Or.inl ⟨by rfl, ?_⟩) ?_ ?_
                    rotate_left
                    · intro w'
                      go_simp
                      with_reducible rfl
                    rotate_left
                    · simp only [Act.put, List.setIfInBounds_toArray, List.set_cons_zero, List.set_cons_succ, i64_w, i32_w]
                      rfl
                    refine take_ (i := 6) (N := some 58) (v := ?_) (a' := ?_) #[true, true, true, true, true, true, true, false, false, false] rfl rfl (take_ofW HT_.out HW_.out (by kernel_rfl)) (fun _ _ _ h => h) (Or.inl ⟨by rfl, ?_⟩) hHeld ?_ ?_
                    rotate_left
                    · rintro w' ⟨s0, s1, s2, s3⟩
                      go_simp
                      with_reducible rfl
                    rotate_left
                    · simp only [Act.put, List.setIfInBounds_toArray, List.set_cons_zero, List.set_cons_succ, i64_w, i32_w]
                      rfl
                    refine one_ (i := 7) (N := none) #[true, true, true, true, true, true, true, true, false, false] rfl rfl (one_of HT_.out (by kernel_rfl)) (by decide) (fun K hK => ?_)
                    have hs68 : w67.cell? ⟨gb288, 0, none⟩ = some (.slice none 0 0) := (blk_cell BK288.out 0).trans rfl
                    have hfs68 := blk_frozen BK288.out 0
                    have hns68_0 := NB287_288.out
                    have hns68_2 := NB296_288.out
                    have hms68_0 := NB288_287.out
                    have hms68_2 := NB288_296.out
                    have hs69 : w67.cell? ⟨gb288, 1, none⟩ = some (.int .i64 0) := (blk_cell BK288.out 1).trans rfl
                    have hfs69 := blk_frozen BK288.out 1
                    have hns69_0 := NB287_288.out
                    have hns69_2 := NB296_288.out
                    have hms69_0 := NB288_287.out
                    have hms69_2 := NB288_296.out
                    have hs70 : w67.cell? ⟨gb288, 2, none⟩ = some (.slice none 0 0) := (blk_cell BK288.out 2).trans rfl
                    have hfs70 := blk_frozen BK288.out 2
                    have hns70_0 := NB287_288.out
                    have hns70_2 := NB296_288.out
                    have hms70_0 := NB288_287.out
                    have hms70_2 := NB288_296.out
                    refine skip_ (w1 := ?_) (by rfl) rfl ?_ ?_
                    rotate_left
                    · go_simp
                      rfl
                    refine hK.out _ _ ⟨((cell_far (p := ⟨gb288, _, none⟩) NB296_288.out _).trans (((cell_far (p := ⟨gb288, _, none⟩) NB296_288.out _).trans (((cell_far (p := ⟨gb288, _, none⟩) NB296_288.out _).trans (hHeld.1)))))), ((cell_far (p := ⟨gb288, _, none⟩) NB296_288.out _).trans (((cell_far (p := ⟨gb288, _, none⟩) NB296_288.out _).trans (((cell_far (p := ⟨gb288, _, none⟩) NB296_288.out _).trans (hHeld.2.1)))))), ((cell_far (p := ⟨gb288, _, none⟩) NB296_288.out _).trans (((cell_far (p := ⟨gb288, _, none⟩) NB296_288.out _).trans (((cell_far (p := ⟨gb288, _, none⟩) NB296_288.out _).trans (hHeld.2.2.1)))))), ((cell_far (p := ⟨gb288, _, none⟩) (by first | exact Kd.own_blk (Kd.R_ne HO_297000.out BK288.out (by decide)) | (rw [add_block]; exact Kd.own_blk (Kd.R_ne HO_297000.out BK288.out (by decide))) | (show (Addr.add _ _).block ≠ _; rw [add_block]; exact Kd.own_blk (Kd.R_ne HO_297000.out BK288.out (by decide))) | (dsimp only; exact Kd.own_blk (Kd.R_ne HO_297000.out BK288.out (by decide)))) _).trans (((cell_far (p := ⟨gb288, _, none⟩) (by first | exact Kd.own_blk (Kd.R_ne HO_297000.out BK288.out (by decide)) | (rw [add_block]; exact Kd.own_blk (Kd.R_ne HO_297000.out BK288.out (by decide))) | (show (Addr.add _ _).block ≠ _; rw [add_block]; exact Kd.own_blk (Kd.R_ne HO_297000.out BK288.out (by decide))) | (dsimp only; exact Kd.own_blk (Kd.R_ne HO_297000.out BK288.out (by decide)))) _).trans (((cell_far (p := ⟨gb288, _, none⟩) (by first | exact Kd.own_blk (Kd.R_ne HO_297000.out BK288.out (by decide)) | (rw [add_block]; exact Kd.own_blk (Kd.R_ne HO_297000.out BK288.out (by decide))) | (show (Addr.add _ _).block ≠ _; rw [add_block]; exact Kd.own_blk (Kd.R_ne HO_297000.out BK288.out (by decide))) | (dsimp only; exact Kd.own_blk (Kd.R_ne HO_297000.out BK288.out (by decide)))) _).trans (hHeld.2.2.2))))))⟩ (fun hHeld => ?_)
                    clear hK K
                    refine pure_ (i := 8) (N := some 9) (v := ?_) (a' := ?_) #[true, true, true, true, true, true, true, true, true, false] rfl rfl (any_of HT_.out (by kernel_rfl)) (fun _ _ _ h => h) (Or.inl ⟨by rfl, ?_⟩) ?_ ?_
                    rotate_left
                    · intro w'
                      go_simp
                      with_reducible rfl
                    rotate_left
                    · simp only [Act.put, List.setIfInBounds_toArray, List.set_cons_zero, List.set_cons_succ, i64_w, i32_w]
                      rfl
                    refine pure_ (i := 9) (N := some 10) (v := ?_) (a' := ?_) #[true, true, true, true, true, true, true, true, true, true] rfl rfl (any_of HT_.out (by kernel_rfl)) (fun _ _ _ h => h) (Or.inl ⟨by rfl, ?_⟩) ?_ ?_
                    rotate_left
                    · intro w'
                      go_simp
                      with_reducible rfl
                    rotate_left
                    · simp only [Act.put, List.setIfInBounds_toArray, List.set_cons_zero, List.set_cons_succ, i64_w, i32_w]
                      rfl
                    refine done_ (done_of HT_.out (by kernel_rfl)) ?_
                    try go_wp2
                    refine bodyPost_ret (results_ctt rfl _ _ gb288 26 #[.slice (some ad303) t289.length co13, .int .i64 t292, .slice Ao17 t293.length co17] (0, 0) _ rfl (by refine ms ?_; refine blk_put (cs := #[.slice (some ad303) t289.length co13, .int .i64 t292, .slice none 0 0]) ?_ 2 _ rfl; refine ms ?_; refine blk_put (cs := #[.slice (some ad303) t289.length co13, .int .i64 0, .slice none 0 0]) ?_ 1 _ rfl; refine ms ?_; refine blk_put (cs := #[.slice none 0 0, .int .i64 0, .slice none 0 0]) ?_ 0 _ rfl; refine ms ?_; exact BK288.out) Try.underlying26 rfl (by kernel_rfl)) rfl ?_
                    exact ⟨_, _, by first | rfl | (simp [errW_none, errW_some] <;> rfl) | (simp only [← hji64]; first | rfl | (simp [errW_none, errW_some] <;> rfl)) | (simp [*, errW_none, errW_some] <;> rfl), by (with_reducible repeat (first | apply Kd.R_alloc | apply Kd.R_drewN | apply Kd.R_drew)); exact Kd.R_mono (Kd.R_far (Kd.R_far (Kd.R_far (Kd.R_types HO_297000.out BK288.out (by decide)) (fun _ hk => hk.2) (.slice (some ad303) t289.length co13)) (fun _ hk => hk.2) _) (fun _ hk => hk.2) _) (fun _ hk => hk.1), by (with_reducible repeat (first | apply Kd.Q_alloc | apply Kd.Q_drewN | apply Kd.Q_drew)); exact Kd.Q_mono (Kd.Q_far (Kd.Q_far (Kd.Q_far (Kd.Q_types HO_297002.out BK288.out (by decide)) (fun _ hk => hk.2) (.slice (some ad303) t289.length co13)) (fun _ hk => hk.2) _) (fun _ hk => hk.2) _) (fun _ hk => hk.1), mb HB⟩
                  · rw [if_neg c66] at H
                    exact absurd H (by simp)
                · rw [if_neg c65] at H
                  exact absurd H (by simp)
              · replace c63 := Bool.eq_false_iff.mpr c63
                subst c63
                have H1 : (if a2 = 16 then (spec_DevDo.j2 kj45 a1 a2 a3 a1 t289 t292 t293) else (spec_DevDo.j2 kj45 a1 a2 a3 false t289 t292 t293)) = some (r1, r2, r3, r4, r5) := by rw [if_neg (show ¬ (false = true) by decide)] at H; exact H
                clear H
                have H := H1
                clear H1
                have HC71 := Aside0.mk H
                clear H
                go_upto_region 9 with (first | ((with_reducible refine gate_callee (f := 57) rfl ?_); refine goesL_ (some 51) rfl rfl Try.func57 (by kernel_rfl) rfl #[.int .i64 a2, .int .i64 0, .int .i64 12] rfl ml ?_; (with_reducible refine (spec_l1In.calls a2 0 12 false _ A62.out).mono ?_); rintro e w' ⟨rfl, ⟨nd, rfl⟩⟩; refine ⟨_, rfl, ?_⟩))
                (try simp only [Act.put, List.setIfInBounds_toArray, List.set_cons_zero, List.set_cons_succ])
                go_cut [59] (fun v59 wc => ∃ (kq : Nat) (x59_70 : Bool), v59 = .bool x59_70 ∧ Aside0 (spec_DevDo.j2 kq a1 a2 a3 x59_70 t289 t292 t293 = some (r1, r2, r3, r4, r5)) ∧ Aside0 (kq ≤ kj45) ∧ Aside0 (Kd.R (Kd.int .i64) 3 wc w.heap.size (fun k_ => some k_ ≠ ((.slice Ao17 t293.length co17) : Value).ownBlock) (.slice Ao13 t289.length co13) t289) ∧ Aside0 (Kd.Q (Kd.int .i64) 3 wc w.heap.size (fun k_ => some k_ ≠ ((.slice Ao13 t289.length co13) : Value).ownBlock) (.slice Ao17 t293.length co17) t293) ∧ Aside0 (wc.heap[gb287]? = some (.cells #[(.slice A0_0 l0_0.length c0_0), .int .i64 a0_1, (.slice A0_2 l0_2.length c0_2)] 26 (0, 0))) ∧ Aside0 (wc.heap[gb288]? = some (.cells #[(.slice none 0 0), .int .i64 0, (.slice none 0 0)] 26 (0, 0))) ∧ Aside0 (wc.heap[gb296]? = some (.cells #[(.slice Ao13 t289.length co13), .int .i64 t292, (.slice Ao17 t293.length co17)] 26 (0, 0))) ∧ Aside0 (Below w.heap.size w wc))
                case first =>
                  have H := HC71.out
                  clear HC71
                  by_cases c72 : a2 = 16
                  · rw [if_pos c72] at H
                    have c72b0 : (a2 == 16) = true := beq_iff_eq.mpr c72
                    have c72b1 : (a2 != 16) = false := bne_eq_false_iff_eq.mpr c72
                    clear c72
                    (first | rw [c72b0] | (simp only [i64_w, i32_w]; rw [c72b0]) | skip)
                    have H' := Aside0.mk H
                    clear H
                    go_wp2
                    go_meet
                    case rel => exact ⟨_, (a1), (by first | rfl | (simp; done) | (simp [*]; done)), H', ⟨by have := HJ5.out; have := HJ45.out; first | omega | exact Nat.le_refl _⟩, ⟨mr HO_297000⟩, ⟨mq HO_297002⟩, ⟨mz BK287⟩, ⟨mz BK288⟩, ⟨mz BK296⟩, ⟨mb HB⟩⟩
                  · rw [if_neg c72] at H
                    have c72b0 : (a2 == 16) = false := beq_eq_false_iff_ne.mpr c72
                    have c72b1 : (a2 != 16) = true := bne_iff_ne.mpr c72
                    (first | rw [c72b0] | (simp only [i64_w, i32_w]; rw [c72b0]) | skip)
                    have H' := Aside0.mk H
                    clear H
                    go_wp2
                    go_meet
                    case rel => exact ⟨_, (false), (by first | rfl | (simp; done) | (simp [*]; done)), H', ⟨by have := HJ5.out; have := HJ45.out; first | omega | exact Nat.le_refl _⟩, ⟨mr HO_297000⟩, ⟨mq HO_297002⟩, ⟨mz BK287⟩, ⟨mz BK288⟩, ⟨mz BK296⟩, ⟨mb HB⟩⟩
                case rest =>
                  clear HC71
                  try clear c40
                  try clear c49
                  try clear c63
                  try clear hcz10_0
                  try clear hcz10_1
                  try clear hcz10_2
                  try clear hcz16_0
                  try clear hcz16_1
                  try clear hcz16_2
                  try clear hfz10_0
                  try clear hfz10_1
                  try clear hfz10_2
                  try clear hfz16_0
                  try clear hfz16_1
                  try clear hfz16_2
                  obtain ⟨kq, x59_70, rfl, HA, HJ70, HO_297000, HO_297002, BK287, BK288, BK296, HB⟩ := hcut
                  cases kq with
                  | zero => exact absurd HA.out (by simp [spec_DevDo.j2])
                  | succ kj70 =>
                    have H := HA.out
                    clear HA
                    simp only [spec_DevDo.j2] at H
                    by_cases c73 : x59_70 = true
                    · subst c73
                      have H1 : (some (t289, a3, t293, a3, true)) = some (r1, r2, r3, r4, r5) := by rw [if_pos rfl] at H; exact H
                      clear H
                      have H := H1
                      clear H1
                      simp only [Option.some.injEq, Prod.mk.injEq] at H
                      obtain ⟨rfl, rfl, rfl, rfl, rfl⟩ := H
                      have hnb74 := NB296_287.out
                      have hnc74 := NB287_296.out
                      have hnb75 := NB296_288.out
                      have hnc75 := NB288_296.out
                      have hcz76_0 := bz0 BK296
                      have hcz76_1 := bz1 BK296
                      have hcz76_2 := bz2 BK296
                      have hfz76_0 := bf BK296 0
                      have hfz76_1 := bf BK296 1
                      have hfz76_2 := bf BK296 2
                      have hnb77 := NB288_287.out
                      have hnc77 := NB287_288.out
                      have hcz78_0 := bz0 BK288
                      have hcz78_1 := bz1 BK288
                      have hcz78_2 := bz2 BK288
                      have hfz78_0 := bf BK288 0
                      have hfz78_1 := bf BK288 1
                      have hfz78_2 := bf BK288 2
                      go_wp2
                      refine bodyPost_ret (results_ctt rfl _ _ gb288 26 #[.slice Ao13 t289.length co13, .int .i64 a3, .slice Ao17 t293.length co17] (0, 0) _ rfl (by refine ms ?_; refine blk_put (cs := #[.slice Ao13 t289.length co13, .int .i64 a3, .slice none 0 0]) ?_ 2 _ rfl; refine ms ?_; refine blk_put (cs := #[.slice Ao13 t289.length co13, .int .i64 0, .slice none 0 0]) ?_ 1 _ rfl; refine ms ?_; refine blk_put (cs := #[.slice none 0 0, .int .i64 0, .slice none 0 0]) ?_ 0 _ rfl; refine ms ?_; refine blk_far ?_ NB288_296.out _; refine ms ?_; exact BK288.out) Try.underlying26 rfl (by kernel_rfl)) rfl ?_
                      exact ⟨_, _, by first | rfl | (simp [errW_none, errW_some] <;> rfl) | (simp [*, errW_none, errW_some] <;> rfl), by (with_reducible repeat (first | apply Kd.R_alloc | apply Kd.R_drewN | apply Kd.R_drew)); exact Kd.R_mono (Kd.R_far (Kd.R_far (Kd.R_far (Kd.R_far (Kd.R_types (Kd.R_types HO_297000.out BK296.out (by decide)) BK288.out (by decide)) (fun _ hk => hk.1.2) _) (fun _ hk => hk.2) _) (fun _ hk => hk.2) _) (fun _ hk => hk.2) _) (fun _ hk => hk.1.1), by (with_reducible repeat (first | apply Kd.Q_alloc | apply Kd.Q_drewN | apply Kd.Q_drew)); exact Kd.Q_mono (Kd.Q_far (Kd.Q_far (Kd.Q_far (Kd.Q_far (Kd.Q_types (Kd.Q_types HO_297002.out BK296.out (by decide)) BK288.out (by decide)) (fun _ hk => hk.1.2) _) (fun _ hk => hk.2) _) (fun _ hk => hk.2) _) (fun _ hk => hk.2) _) (fun _ hk => hk.1.1), mb HB⟩
                    · replace c73 := Bool.eq_false_iff.mpr c73
                      subst c73
                      have H1 : (if a2 = 16 then ((spec_LimitOf.f 2).bind fun t304 => (if t304 = 0 then (none) else (some (t289, Int.tmod (wrap64 (t292 + 1)) t304, t293, t292, true)))) else (if a2 = 20 then (if a1 = true then (spec_DevDo.j3 kj70 a1 a2 a3 (decide ((t293.length : Int) < 4)) t289 t292 t293) else (spec_DevDo.j3 kj70 a1 a2 a3 false t289 t292 t293)) else (spec_DevDo.j3 kj70 a1 a2 a3 false t289 t292 t293))) = some (r1, r2, r3, r4, r5) := by rw [if_neg (show ¬ (false = true) by decide)] at H; exact H
                      clear H
                      have H := H1
                      clear H1
                      by_cases c79 : a2 = 16
                      · rw [if_pos c79] at H
                        have c79b0 : (a2 == 16) = true := beq_iff_eq.mpr c79
                        have c79b1 : (a2 != 16) = false := bne_eq_false_iff_eq.mpr c79
                        clear c79
                        replace H := Option.bind_eq_some_iff.mp H
                        obtain ⟨t304, A800, H⟩ := H
                        replace H : (if t304 = 0 then (none) else (some (t289, Int.tmod (wrap64 (t292 + 1)) t304, t293, t292, true))) = some (r1, r2, r3, r4, r5) := H
                        have A80 := Aside0.mk A800
                        clear A800
                        by_cases c81 : t304 = 0
                        · rw [if_pos c81] at H
                          exact absurd H (by simp)
                        · rw [if_neg c81] at H
                          have c81b0 : (t304 == 0) = false := beq_eq_false_iff_ne.mpr c81
                          have c81b1 : (t304 != 0) = true := bne_iff_ne.mpr c81
                          simp only [Option.some.injEq, Prod.mk.injEq] at H
                          obtain ⟨rfl, rfl, rfl, rfl, rfl⟩ := H
                          have hnb82 := NB296_287.out
                          have hnc82 := NB287_296.out
                          have hnb83 := NB296_288.out
                          have hnc83 := NB288_296.out
                          have hcz84_0 := bz0 BK296
                          have hcz84_1 := bz1 BK296
                          have hcz84_2 := bz2 BK296
                          have hfz84_0 := bf BK296 0
                          have hfz84_1 := bf BK296 1
                          have hfz84_2 := bf BK296 2
                          go_wp2_with (first | ((with_reducible refine gate_callee (f := 58) rfl ?_); refine goesL_ (some 76) rfl rfl Try.func58 (by kernel_rfl) rfl #[.int .i64 2] rfl ml ?_; (with_reducible refine (spec_LimitOf.calls 2 t304 _ A80.out).mono ?_); rintro e w' ⟨rfl, ⟨nd, rfl⟩⟩; refine ⟨_, rfl, ?_⟩; (try (rw [drewN_self wc]; generalize hq_ : World.drewN wc _ = wc; have n0_ : Aside0 (Kd.R (Kd.int .i64) 3 wc w.heap.size (fun k_ => some k_ ≠ (.slice Ao17 t293.length co17 : Value).ownBlock) (.slice Ao13 t289.length co13) t289) := ⟨by rw [← hq_]; exact (mr HO_297000)⟩; have n1_ : Aside0 (Kd.Q (Kd.int .i64) 3 wc w.heap.size (fun k_ => some k_ ≠ (.slice Ao13 t289.length co13 : Value).ownBlock) (.slice Ao17 t293.length co17) t293) := ⟨by rw [← hq_]; exact (mq HO_297002)⟩; have n2_ : Aside0 (wc.heap[gb287]? = some (.cells #[.slice A0_0 l0_0.length c0_0, .int .i64 a0_1, .slice A0_2 l0_2.length c0_2] 26 (0, 0))) := ⟨by rw [← hq_]; exact (mz BK287)⟩; have n3_ : Aside0 (wc.heap[gb288]? = some (.cells #[.slice none 0 0, .int .i64 0, .slice none 0 0] 26 (0, 0))) := ⟨by rw [← hq_]; exact (mz BK288)⟩; have n4_ : Aside0 (wc.heap[gb296]? = some (.cells #[.slice Ao13 t289.length co13, .int .i64 t292, .slice Ao17 t293.length co17] 26 (0, 0))) := ⟨by rw [← hq_]; exact (mz BK296)⟩; have n5_ : Aside0 (Below w.heap.size w wc) := ⟨by rw [← hq_]; exact (mb HB)⟩; clear HO_297000 HO_297002 BK287 BK288 BK296 HB hq_; have HO_297000 := n0_; have HO_297002 := n1_; have BK287 := n2_; have BK288 := n3_; have BK296 := n4_; have HB := n5_; clear n0_ n1_ n2_ n3_ n4_ n5_)); have hnb85 := NB288_287.out; have hnc85 := NB287_288.out; have hcz86_0 := bz0 BK288; have hcz86_1 := bz1 BK288; have hcz86_2 := bz2 BK288; have hfz86_0 := bf BK288 0; have hfz86_1 := bf BK288 1; have hfz86_2 := bf BK288 2; have hcz84_0 := bz0 BK296; have hcz84_1 := bz1 BK296; have hcz84_2 := bz2 BK296; have hfz84_0 := bf BK296 0; have hfz84_1 := bf BK296 1; have hfz84_2 := bf BK296 2))
                          refine bodyPost_ret (results_ctt rfl _ _ gb288 26 #[.slice Ao13 t289.length co13, .int .i64 (Int.tmod (wrap64 (t292 + 1)) t304), .slice Ao17 t293.length co17] (0, 0) _ rfl (by refine ms ?_; refine blk_put (cs := #[.slice Ao13 t289.length co13, .int .i64 (Int.tmod (wrap64 (t292 + 1)) t304), .slice none 0 0]) ?_ 2 _ rfl; refine ms ?_; refine blk_put (cs := #[.slice Ao13 t289.length co13, .int .i64 0, .slice none 0 0]) ?_ 1 _ rfl; refine ms ?_; refine blk_put (cs := #[.slice none 0 0, .int .i64 0, .slice none 0 0]) ?_ 0 _ rfl; refine ms ?_; refine blk_far ?_ NB288_296.out _; refine ms ?_; exact BK288.out) Try.underlying26 rfl (by kernel_rfl)) rfl ?_
                          exact ⟨_, _, by first | rfl | (simp [errW_none, errW_some] <;> rfl) | (simp [*, errW_none, errW_some] <;> rfl), by (with_reducible repeat (first | apply Kd.R_alloc | apply Kd.R_drewN | apply Kd.R_drew)); exact Kd.R_mono (Kd.R_far (Kd.R_far (Kd.R_far (Kd.R_far (Kd.R_types (Kd.R_types HO_297000.out BK296.out (by decide)) BK288.out (by decide)) (fun _ hk => hk.1.2) (.int .i64 (Int.tmod (wrap64 (t292 + 1)) t304))) (fun _ hk => hk.2) _) (fun _ hk => hk.2) (.int .i64 (Int.tmod (wrap64 (t292 + 1)) t304))) (fun _ hk => hk.2) _) (fun _ hk => hk.1.1), by (with_reducible repeat (first | apply Kd.Q_alloc | apply Kd.Q_drewN | apply Kd.Q_drew)); exact Kd.Q_mono (Kd.Q_far (Kd.Q_far (Kd.Q_far (Kd.Q_far (Kd.Q_types (Kd.Q_types HO_297002.out BK296.out (by decide)) BK288.out (by decide)) (fun _ hk => hk.1.2) (.int .i64 (Int.tmod (wrap64 (t292 + 1)) t304))) (fun _ hk => hk.2) _) (fun _ hk => hk.2) (.int .i64 (Int.tmod (wrap64 (t292 + 1)) t304))) (fun _ hk => hk.2) _) (fun _ hk => hk.1.1), mb HB⟩
                      · rw [if_neg c79] at H
                        have c79b0 : (a2 == 16) = false := beq_eq_false_iff_ne.mpr c79
                        have c79b1 : (a2 != 16) = true := bne_iff_ne.mpr c79
                        have HC87 := Aside0.mk H
                        clear H
                        go_upto_region 16 with (fail)
                        go_cut [81] (fun v81 wc => ∃ (kq : Nat) (x81_86 : Bool), v81 = .bool x81_86 ∧ Aside0 (spec_DevDo.j3 kq a1 a2 a3 x81_86 t289 t292 t293 = some (r1, r2, r3, r4, r5)) ∧ Aside0 (kq ≤ kj70) ∧ Aside0 (Kd.R (Kd.int .i64) 3 wc w.heap.size (fun k_ => some k_ ≠ ((.slice Ao17 t293.length co17) : Value).ownBlock) (.slice Ao13 t289.length co13) t289) ∧ Aside0 (Kd.Q (Kd.int .i64) 3 wc w.heap.size (fun k_ => some k_ ≠ ((.slice Ao13 t289.length co13) : Value).ownBlock) (.slice Ao17 t293.length co17) t293) ∧ Aside0 (wc.heap[gb287]? = some (.cells #[(.slice A0_0 l0_0.length c0_0), .int .i64 a0_1, (.slice A0_2 l0_2.length c0_2)] 26 (0, 0))) ∧ Aside0 (wc.heap[gb288]? = some (.cells #[(.slice none 0 0), .int .i64 0, (.slice none 0 0)] 26 (0, 0))) ∧ Aside0 (wc.heap[gb296]? = some (.cells #[(.slice Ao13 t289.length co13), .int .i64 t292, (.slice Ao17 t293.length co17)] 26 (0, 0))) ∧ Aside0 (Below w.heap.size w wc))
                        case first =>
                          have H := HC87.out
                          clear HC87
                          by_cases c88 : a2 = 20
                          · rw [if_pos c88] at H
                            have c88b0 : (a2 == 20) = true := beq_iff_eq.mpr c88
                            have c88b1 : (a2 != 20) = false := bne_eq_false_iff_eq.mpr c88
                            clear c88
                            (first | rw [c88b0] | (simp only [i64_w, i32_w]; rw [c88b0]) | skip)
                            by_cases c89 : a1 = true
                            · subst c89
                              have H1 : (spec_DevDo.j3 kj70 true a2 a3 (decide ((t293.length : Int) < 4)) t289 t292 t293) = some (r1, r2, r3, r4, r5) := by rw [if_pos rfl] at H; exact H
                              clear H
                              have H := H1
                              clear H1
                              have H' := Aside0.mk H
                              clear H
                              have hnb90 := NB296_287.out
                              have hnc90 := NB287_296.out
                              have hnb91 := NB296_288.out
                              have hnc91 := NB288_296.out
                              have hcz92_0 := bz0 BK296
                              have hcz92_1 := bz1 BK296
                              have hcz92_2 := bz2 BK296
                              have hfz92_0 := bf BK296 0
                              have hfz92_1 := bf BK296 1
                              have hfz92_2 := bf BK296 2
                              go_wp2
                              go_meet
                              case rel => exact ⟨_, (decide ((t293.length : Int) < 4)), (by first | rfl | (simp; done) | (simp [*]; done)), H', ⟨by have := HJ5.out; have := HJ45.out; have := HJ70.out; first | omega | exact Nat.le_refl _⟩, ⟨mr HO_297000⟩, ⟨mq HO_297002⟩, ⟨mz BK287⟩, ⟨mz BK288⟩, ⟨mz BK296⟩, ⟨mb HB⟩⟩
                            · replace c89 := Bool.eq_false_iff.mpr c89
                              subst c89
                              have H1 : (spec_DevDo.j3 kj70 false a2 a3 false t289 t292 t293) = some (r1, r2, r3, r4, r5) := by rw [if_neg (show ¬ (false = true) by decide)] at H; exact H
                              clear H
                              have H := H1
                              clear H1
                              have H' := Aside0.mk H
                              clear H
                              go_wp2
                              go_meet
                              case rel => exact ⟨_, (false), (by first | rfl | (simp; done) | (simp [*]; done)), H', ⟨by have := HJ5.out; have := HJ45.out; have := HJ70.out; first | omega | exact Nat.le_refl _⟩, ⟨mr HO_297000⟩, ⟨mq HO_297002⟩, ⟨mz BK287⟩, ⟨mz BK288⟩, ⟨mz BK296⟩, ⟨mb HB⟩⟩
                          · rw [if_neg c88] at H
                            have c88b0 : (a2 == 20) = false := beq_eq_false_iff_ne.mpr c88
                            have c88b1 : (a2 != 20) = true := bne_iff_ne.mpr c88
                            (first | rw [c88b0] | (simp only [i64_w, i32_w]; rw [c88b0]) | skip)
                            have H' := Aside0.mk H
                            clear H
                            go_wp2
                            go_meet
                            case rel => exact ⟨_, (false), (by first | rfl | (simp; done) | (simp [*]; done)), H', ⟨by have := HJ5.out; have := HJ45.out; have := HJ70.out; first | omega | exact Nat.le_refl _⟩, ⟨mr HO_297000⟩, ⟨mq HO_297002⟩, ⟨mz BK287⟩, ⟨mz BK288⟩, ⟨mz BK296⟩, ⟨mb HB⟩⟩
                        case rest =>
                          clear HC87
                          try clear c40
                          try clear c49
                          try clear c63
                          try clear c73
                          try clear c79
                          try clear c79b0
                          try clear c79b1
                          try clear hcz10_0
                          try clear hcz10_1
                          try clear hcz10_2
                          try clear hcz16_0
                          try clear hcz16_1
                          try clear hcz16_2
                          try clear hfz10_0
                          try clear hfz10_1
                          try clear hfz10_2
                          try clear hfz16_0
                          try clear hfz16_1
                          try clear hfz16_2
                          obtain ⟨kq, x81_86, rfl, HA, HJ86, HO_297000, HO_297002, BK287, BK288, BK296, HB⟩ := hcut
                          cases kq with
                          | zero => exact absurd HA.out (by simp [spec_DevDo.j3])
                          | succ kj86 =>
                            have H := HA.out
                            clear HA
                            simp only [spec_DevDo.j3] at H
                            by_cases c93 : x81_86 = true
                            · subst c93
                              have H1 : (if t293.length < 17592186044416 then (some (t289, t292, (t293 ++ [a3]), a3, true)) else (none)) = some (r1, r2, r3, r4, r5) := by rw [if_pos rfl] at H; exact H
                              clear H
                              have H := H1
                              clear H1
                              by_cases c94 : t293.length < 17592186044416
                              · rw [if_pos c94] at H
                                have LMc94 := Aside0.mk c94
                                clear c94
                                obtain ⟨y305, hy305⟩ : ∃ y_ : List Int, y_ = (t293 ++ [a3]) := ⟨_, rfl⟩
                                replace H : (some (t289, t292, y305, a3, true)) = some (r1, r2, r3, r4, r5) := by first | (rw [hy305]; with_reducible exact H) | (have H2_ := (Option.bind_some _ _).symm.trans H; rw [hy305]; with_reducible exact H2_) | (have H2_ := (Option.bind_some _ _).symm.trans H; with_reducible exact H2_) | with_reducible exact H | (rw [hy305]; exact H) | exact H
                                have Ny305 := Aside0.mk hy305
                                clear hy305
                                simp only [Option.some.injEq, Prod.mk.injEq] at H
                                obtain ⟨rfl, rfl, rfl, rfl, rfl⟩ := H
                                have hnb95 := NB296_287.out
                                have hnc95 := NB287_296.out
                                have hnb96 := NB296_288.out
                                have hnc96 := NB288_296.out
                                have hcz97_0 := bz0 BK296
                                have hcz97_1 := bz1 BK296
                                have hcz97_2 := bz2 BK296
                                have hfz97_0 := bf BK296 0
                                have hfz97_1 := bf BK296 1
                                have hfz97_2 := bf BK296 2
                                go_wp2_with (first | ((with_reducible refine gate_builtin (b := .append) (xs := #[.tmp 94, .tmp 96]) rfl ?_); (try (refine gate_guard (by rfl) ?_; dsimp only)); at_builtin; refine Kd.Q_append (Kd.int .i64) (w0 := w) w.heap.size rfl (.tmp 94) (.tmp 96) 24 3 (.int .i64 0) 8 rfl Try.underlying24 info3 rfl (by decide) (by omega) (.slice Ao17 t293.length co17) t293 a3 [.int .i64 a3] (fun k_ => some k_ ≠ (.slice Ao13 t289.length co13 : Value).ownBlock) (fun _ => False) rfl rfl ?aP (fun _ hk => hk.elim) ?aF ?aO ?aB ?aS ?aL ?_; (case aP => exact rfl); (case aB => exact (mb HB)); (case aF => exact (fun k_ hk => Kd.fresh' (Kd.R_lt (mr HO_297000)) k_ hk)); (case aO => exact (mq HO_297002)); (case aS => exact (below_size (mb HB))); (case aL => have := LMc94.out; omega); intro v306 w98 ho hb hg hat; rw [← Ny305.out] at ho; have n0_ := Az (Kd.R_after (ok := (fun _ => True)) (by (with_reducible repeat (first | apply Kd.R_alloc | apply Kd.R_drewN | apply Kd.R_drew)); exact Kd.R_mono HO_297000.out (fun _ hk => ⟨trivial, hk⟩)) hg hat); have n1_ := Az (blk_grown (mz BK287) hg (Kd.Q_ne HO_297002.out BK287.out (by decide))); have n2_ := Az (blk_grown (mz BK288) hg (Kd.Q_ne HO_297002.out BK288.out (by decide))); have n3_ := Az (blk_grown (mz BK296) hg (Kd.Q_ne HO_297002.out BK296.out (by decide))); have n4_ := Az (hb); have n5_ := Az (ho); clear HO_297000 BK287 BK288 BK296 HB HO_297002; have HO_297000 := n0_; have BK287 := n1_; have BK288 := n2_; have BK296 := n3_; have HB := n4_; have HO307 := n5_; clear n0_ n1_ n2_ n3_ n4_ n5_ ho hb hg hat; obtain ⟨Ao99, co99, eo99, _⟩ := Kd.Q_slice HO307.out; subst eo99; have hcz100_0 := bz0 BK296; have hcz100_1 := bz1 BK296; have hcz100_2 := bz2 BK296; have hfz100_0 := bf BK296 0; have hfz100_1 := bf BK296 1; have hfz100_2 := bf BK296 2; have hnb101 := NB288_287.out; have hnc101 := NB287_288.out; have hcz102_0 := bz0 BK288; have hcz102_1 := bz1 BK288; have hcz102_2 := bz2 BK288; have hfz102_0 := bf BK288 0; have hfz102_1 := bf BK288 1; have hfz102_2 := bf BK288 2))
                                refine bodyPost_ret (results_ctt rfl _ _ gb288 26 #[.slice Ao13 t289.length co13, .int .i64 t292, .slice Ao99 y305.length co99] (0, 0) _ rfl (by refine ms ?_; refine blk_put (cs := #[.slice Ao13 t289.length co13, .int .i64 t292, .slice none 0 0]) ?_ 2 _ rfl; refine ms ?_; refine blk_put (cs := #[.slice Ao13 t289.length co13, .int .i64 0, .slice none 0 0]) ?_ 1 _ rfl; refine ms ?_; refine blk_put (cs := #[.slice none 0 0, .int .i64 0, .slice none 0 0]) ?_ 0 _ rfl; refine ms ?_; refine blk_far ?_ NB288_296.out _; refine ms ?_; exact BK288.out) Try.underlying26 rfl (by kernel_rfl)) rfl ?_
                                exact ⟨_, _, by first | rfl | (simp [errW_none, errW_some] <;> rfl) | (simp [*, errW_none, errW_some] <;> rfl), by (with_reducible repeat (first | apply Kd.R_alloc | apply Kd.R_drewN | apply Kd.R_drew)); exact Kd.R_mono (Kd.R_far (Kd.R_far (Kd.R_far (Kd.R_far (Kd.R_types (Kd.R_types HO_297000.out BK296.out (by decide)) BK288.out (by decide)) (fun _ hk => hk.1.2) _) (fun _ hk => hk.2) _) (fun _ hk => hk.2) _) (fun _ hk => hk.2) _) (fun _ hk => hk.1.1.2), by (with_reducible repeat (first | apply Kd.Q_alloc | apply Kd.Q_drewN | apply Kd.Q_drew)); exact Kd.Q_mono (Kd.Q_far (Kd.Q_far (Kd.Q_far (Kd.Q_far (Kd.Q_types (Kd.Q_types HO307.out BK296.out (by decide)) BK288.out (by decide)) (fun _ hk => hk.1.2) _) (fun _ hk => hk.2) _) (fun _ hk => hk.2) _) (fun _ hk => hk.2) _) (fun _ hk => hk.1.1), mb HB⟩
                              · rw [if_neg c94] at H
                                exact absurd H (by simp)
                            · replace c93 := Bool.eq_false_iff.mpr c93
                              subst c93
                              have H1 : (if a2 = 20 then (if a1 = true then (some (t289, t292, t293, 0, false)) else (if (t293.length : Int) > 0 then (if 0 < (t293.length : Int) then (if 1 ≤ (t293.length : Int) then (some (t289, t292, (t293.drop (1 : Int).toNat), rd t293 0, true)) else (none)) else (none)) else (some (t289, t292, t293, 0, false)))) else (some (t289, t292, t293, 0, false))) = some (r1, r2, r3, r4, r5) := by rw [if_neg (show ¬ (false = true) by decide)] at H; exact H
                              clear H
                              have H := H1
                              clear H1
                              by_cases c103 : a2 = 20
                              · rw [if_pos c103] at H
                                have c103b0 : (a2 == 20) = true := beq_iff_eq.mpr c103
                                have c103b1 : (a2 != 20) = false := bne_eq_false_iff_eq.mpr c103
                                clear c103
                                by_cases c104 : a1 = true
                                · subst c104
                                  have H1 : (some (t289, t292, t293, 0, false)) = some (r1, r2, r3, r4, r5) := by rw [if_pos rfl] at H; exact H
                                  clear H
                                  have H := H1
                                  clear H1
                                  simp only [Option.some.injEq, Prod.mk.injEq] at H
                                  obtain ⟨rfl, rfl, rfl, rfl, rfl⟩ := H
                                  have hnb105 := NB296_287.out
                                  have hnc105 := NB287_296.out
                                  have hnb106 := NB296_288.out
                                  have hnc106 := NB288_296.out
                                  have hcz107_0 := bz0 BK296
                                  have hcz107_1 := bz1 BK296
                                  have hcz107_2 := bz2 BK296
                                  have hfz107_0 := bf BK296 0
                                  have hfz107_1 := bf BK296 1
                                  have hfz107_2 := bf BK296 2
                                  have hnb108 := NB288_287.out
                                  have hnc108 := NB287_288.out
                                  have hcz109_0 := bz0 BK288
                                  have hcz109_1 := bz1 BK288
                                  have hcz109_2 := bz2 BK288
                                  have hfz109_0 := bf BK288 0
                                  have hfz109_1 := bf BK288 1
                                  have hfz109_2 := bf BK288 2
                                  go_wp2
                                  refine bodyPost_ret (results_ctt rfl _ _ gb288 26 #[.slice Ao13 t289.length co13, .int .i64 t292, .slice Ao17 t293.length co17] (0, 0) _ rfl (by refine ms ?_; refine blk_put (cs := #[.slice Ao13 t289.length co13, .int .i64 t292, .slice none 0 0]) ?_ 2 _ rfl; refine ms ?_; refine blk_put (cs := #[.slice Ao13 t289.length co13, .int .i64 0, .slice none 0 0]) ?_ 1 _ rfl; refine ms ?_; refine blk_put (cs := #[.slice none 0 0, .int .i64 0, .slice none 0 0]) ?_ 0 _ rfl; refine ms ?_; exact BK288.out) Try.underlying26 rfl (by kernel_rfl)) rfl ?_
                                  exact ⟨_, _, by first | rfl | (simp [errW_none, errW_some] <;> rfl) | (simp [*, errW_none, errW_some] <;> rfl), by (with_reducible repeat (first | apply Kd.R_alloc | apply Kd.R_drewN | apply Kd.R_drew)); exact Kd.R_mono (Kd.R_far (Kd.R_far (Kd.R_far (Kd.R_types HO_297000.out BK288.out (by decide)) (fun _ hk => hk.2) _) (fun _ hk => hk.2) _) (fun _ hk => hk.2) _) (fun _ hk => hk.1), by (with_reducible repeat (first | apply Kd.Q_alloc | apply Kd.Q_drewN | apply Kd.Q_drew)); exact Kd.Q_mono (Kd.Q_far (Kd.Q_far (Kd.Q_far (Kd.Q_types HO_297002.out BK288.out (by decide)) (fun _ hk => hk.2) _) (fun _ hk => hk.2) _) (fun _ hk => hk.2) _) (fun _ hk => hk.1), mb HB⟩
                                · replace c104 := Bool.eq_false_iff.mpr c104
                                  subst c104
                                  have H1 : (if (t293.length : Int) > 0 then (if 0 < (t293.length : Int) then (if 1 ≤ (t293.length : Int) then (some (t289, t292, (t293.drop (1 : Int).toNat), rd t293 0, true)) else (none)) else (none)) else (some (t289, t292, t293, 0, false))) = some (r1, r2, r3, r4, r5) := by rw [if_neg (show ¬ (false = true) by decide)] at H; exact H
                                  clear H
                                  have H := H1
                                  clear H1
                                  by_cases c110 : (t293.length : Int) > 0
                                  · rw [if_pos c110] at H
                                    have c110b0 : decide (0 < (t293.length : Int)) = true := decide_eq_true c110
                                    have c110b1 : decide (0 < t293.length) = true := decide_eq_true (by omega)
                                    clear c110
                                    by_cases c111 : 0 < (t293.length : Int)
                                    · rw [if_pos c111] at H
                                      have c111b0 : decide (0 < (t293.length : Int)) = true := decide_eq_true c111
                                      have c111b1 : decide (0 < t293.length) = true := decide_eq_true (by omega)
                                      clear c111
                                      by_cases c112 : 1 ≤ (t293.length : Int)
                                      · rw [if_pos c112] at H
                                        have c112b0 := eq_true c112
                                        have c112b1 : decide (1 ≤ (t293.length : Int)) = true := decide_eq_true c112
                                        clear c112
                                        obtain ⟨y309, hy309⟩ : ∃ y_ : List Int, y_ = (t293.drop (1 : Int).toNat) := ⟨_, rfl⟩
                                        replace H : (some (t289, t292, y309, rd t293 0, true)) = some (r1, r2, r3, r4, r5) := by first | (rw [hy309]; with_reducible exact H) | (have H2_ := (Option.bind_some _ _).symm.trans H; rw [hy309]; with_reducible exact H2_) | (have H2_ := (Option.bind_some _ _).symm.trans H; with_reducible exact H2_) | with_reducible exact H | (rw [hy309]; exact H) | exact H
                                        have Ny309 := Aside0.mk hy309
                                        clear hy309
                                        simp only [Option.some.injEq, Prod.mk.injEq] at H
                                        obtain ⟨rfl, rfl, rfl, rfl, rfl⟩ := H
                                        have hnb113 := NB296_287.out
                                        have hnc113 := NB287_296.out
                                        have hnb114 := NB296_288.out
                                        have hnc114 := NB288_296.out
                                        have hcz115_0 := bz0 BK296
                                        have hcz115_1 := bz1 BK296
                                        have hcz115_2 := bz2 BK296
                                        have hfz115_0 := bf BK296 0
                                        have hfz115_1 := bf BK296 1
                                        have hfz115_2 := bf BK296 2
                                        have p308 : 0 ≤ (0 : Int) := (by omega)
                                        have q308 : 0 < (t293.length : Int) := of_decide_eq_true (by first | (with_reducible assumption) | assumption)
                                        obtain ⟨ad308, e308, hx308_0⟩ := Kd.at_int (Kd.Q_reads' HO_297002.out).2.2 0 p308 q308
                                        cases e308
                                        have qi308 : (0 < t293.length) = True := eq_true (by omega)
                                        (try rw [show ((0 : Int)).toNat = 0 from rfl] at hx308_0)
                                        (try rw [Addr.add_zero'] at hx308_0)
                                        replace p308 := eq_true p308
                                        replace q308 := eq_true q308
                                        have q116 : (1 : Int) ≤ ((t293.length : Int) : Int) := of_decide_eq_true (by first | (with_reducible assumption) | assumption)
                                        obtain ⟨i0116, hi0116, _, hsz116, _⟩ := info_parts info3
                                        have hcut116 := cut_from (P := Try.prog) 24 3 .i64 Try.underlying24 hi0116 1 hsz116 (some ad308) t293.length co17 1 (by omega) q116
                                        have hr116 := Kd.Q_drop (k := (1 : Int).toNat) HO_297002.out (by omega)
                                        obtain ⟨A116, hA116⟩ : ∃ A1, A1 = (if co17 = (1 : Int).toNat then (some ad308) else ((some ad308) : Option Addr).map (·.add ((1 : Int).toNat * 1))) := ⟨_, rfl⟩
                                        obtain ⟨c116, hc116⟩ : ∃ c1, c1 = co17 - (1 : Int).toNat := ⟨_, rfl⟩
                                        have hy116 : y309.length = t293.length - (1 : Int).toNat := (by rw [Ny309.out, List.length_drop])
                                        rw [← Ny309.out] at hr116
                                        rw [← hy116, ← hA116, ← hc116] at hcut116
                                        replace hr116 : Kd.Q (Kd.int .i64) 3 wc w.heap.size (fun k_ => some k_ ≠ (.slice Ao13 t289.length co13 : Value).ownBlock) (.slice A116 y309.length c116) y309 := (by rw [hA116, hc116, hy116]; exact hr116)
                                        have HE116 : Aside0 ((Value.slice A116 y309.length c116).ownBlock = (.slice (some ad308) t293.length co17 : Value).ownBlock) := ⟨by rw [hA116]; split <;> (cases ((some ad308) : Option Addr) <;> rfl)⟩
                                        clear hy116 hi0116 hsz116 HO_297002 hA116 hc116
                                        have HO311 := Aside0.mk hr116
                                        clear hr116
                                        replace q116 := eq_true q116
                                        have n_ := Az (Kd.R_mono (ok' := fun k_ => some k_ ≠ (.slice A116 y309.length c116 : Value).ownBlock) HO_297000.out (fun k_ hk => (by rw [HE116.out]; exact hk)))
                                        clear HO_297000
                                        have HO_297000 := n_
                                        clear n_
                                        have hnb117 := NB288_287.out
                                        have hnc117 := NB287_288.out
                                        have hcz118_0 := bz0 BK288
                                        have hcz118_1 := bz1 BK288
                                        have hcz118_2 := bz2 BK288
                                        have hfz118_0 := bf BK288 0
                                        have hfz118_1 := bf BK288 1
                                        have hfz118_2 := bf BK288 2
                                        go_wp2
                                        refine bodyPost_ret (results_ctt rfl _ _ gb288 26 #[.slice Ao13 t289.length co13, .int .i64 t292, .slice A116 y309.length c116] (0, 0) _ rfl (by refine ms ?_; refine blk_put (cs := #[.slice Ao13 t289.length co13, .int .i64 t292, .slice none 0 0]) ?_ 2 _ rfl; refine ms ?_; refine blk_put (cs := #[.slice Ao13 t289.length co13, .int .i64 0, .slice none 0 0]) ?_ 1 _ rfl; refine ms ?_; refine blk_put (cs := #[.slice none 0 0, .int .i64 0, .slice none 0 0]) ?_ 0 _ rfl; refine ms ?_; refine blk_far ?_ NB288_296.out _; refine ms ?_; exact BK288.out) Try.underlying26 rfl (by kernel_rfl)) rfl ?_
                                        exact ⟨_, _, by first | rfl | (simp [errW_none, errW_some] <;> rfl) | (simp [*, errW_none, errW_some] <;> rfl), by (with_reducible repeat (first | apply Kd.R_alloc | apply Kd.R_drewN | apply Kd.R_drew)); exact Kd.R_mono (Kd.R_far (Kd.R_far (Kd.R_far (Kd.R_far (Kd.R_types (Kd.R_types HO_297000.out BK296.out (by decide)) BK288.out (by decide)) (fun _ hk => hk.1.2) _) (fun _ hk => hk.2) _) (fun _ hk => hk.2) _) (fun _ hk => hk.2) _) (fun _ hk => hk.1.1), by (with_reducible repeat (first | apply Kd.Q_alloc | apply Kd.Q_drewN | apply Kd.Q_drew)); exact Kd.Q_mono (Kd.Q_far (Kd.Q_far (Kd.Q_far (Kd.Q_far (Kd.Q_types (Kd.Q_types HO311.out BK296.out (by decide)) BK288.out (by decide)) (fun _ hk => hk.1.2) _) (fun _ hk => hk.2) _) (fun _ hk => hk.2) _) (fun _ hk => hk.2) _) (fun _ hk => hk.1.1), mb HB⟩
                                      · rw [if_neg c112] at H
                                        exact absurd H (by simp)
                                    · rw [if_neg c111] at H
                                      exact absurd H (by simp)
                                  · rw [if_neg c110] at H
                                    have c110b0 : decide (0 < (t293.length : Int)) = false := decide_eq_false c110
                                    have c110b1 : decide (0 < t293.length) = false := decide_eq_false (by omega)
                                    clear c110
                                    simp only [Option.some.injEq, Prod.mk.injEq] at H
                                    obtain ⟨rfl, rfl, rfl, rfl, rfl⟩ := H
                                    have hnb119 := NB296_287.out
                                    have hnc119 := NB287_296.out
                                    have hnb120 := NB296_288.out
                                    have hnc120 := NB288_296.out
                                    have hcz121_0 := bz0 BK296
                                    have hcz121_1 := bz1 BK296
                                    have hcz121_2 := bz2 BK296
                                    have hfz121_0 := bf BK296 0
                                    have hfz121_1 := bf BK296 1
                                    have hfz121_2 := bf BK296 2
                                    have hnb122 := NB288_287.out
                                    have hnc122 := NB287_288.out
                                    have hcz123_0 := bz0 BK288
                                    have hcz123_1 := bz1 BK288
                                    have hcz123_2 := bz2 BK288
                                    have hfz123_0 := bf BK288 0
                                    have hfz123_1 := bf BK288 1
                                    have hfz123_2 := bf BK288 2
                                    go_wp2
                                    refine bodyPost_ret (results_ctt rfl _ _ gb288 26 #[.slice Ao13 t289.length co13, .int .i64 t292, .slice Ao17 t293.length co17] (0, 0) _ rfl (by refine ms ?_; refine blk_put (cs := #[.slice Ao13 t289.length co13, .int .i64 t292, .slice none 0 0]) ?_ 2 _ rfl; refine ms ?_; refine blk_put (cs := #[.slice Ao13 t289.length co13, .int .i64 0, .slice none 0 0]) ?_ 1 _ rfl; refine ms ?_; refine blk_put (cs := #[.slice none 0 0, .int .i64 0, .slice none 0 0]) ?_ 0 _ rfl; refine ms ?_; exact BK288.out) Try.underlying26 rfl (by kernel_rfl)) rfl ?_
                                    exact ⟨_, _, by first | rfl | (simp [errW_none, errW_some] <;> rfl) | (simp [*, errW_none, errW_some] <;> rfl), by (with_reducible repeat (first | apply Kd.R_alloc | apply Kd.R_drewN | apply Kd.R_drew)); exact Kd.R_mono (Kd.R_far (Kd.R_far (Kd.R_far (Kd.R_types HO_297000.out BK288.out (by decide)) (fun _ hk => hk.2) _) (fun _ hk => hk.2) _) (fun _ hk => hk.2) _) (fun _ hk => hk.1), by (with_reducible repeat (first | apply Kd.Q_alloc | apply Kd.Q_drewN | apply Kd.Q_drew)); exact Kd.Q_mono (Kd.Q_far (Kd.Q_far (Kd.Q_far (Kd.Q_types HO_297002.out BK288.out (by decide)) (fun _ hk => hk.2) _) (fun _ hk => hk.2) _) (fun _ hk => hk.2) _) (fun _ hk => hk.1), mb HB⟩
                              · rw [if_neg c103] at H
                                have c103b0 : (a2 == 20) = false := beq_eq_false_iff_ne.mpr c103
                                have c103b1 : (a2 != 20) = true := bne_iff_ne.mpr c103
                                simp only [Option.some.injEq, Prod.mk.injEq] at H
                                obtain ⟨rfl, rfl, rfl, rfl, rfl⟩ := H
                                have hnb124 := NB296_287.out
                                have hnc124 := NB287_296.out
                                have hnb125 := NB296_288.out
                                have hnc125 := NB288_296.out
                                have hcz126_0 := bz0 BK296
                                have hcz126_1 := bz1 BK296
                                have hcz126_2 := bz2 BK296
                                have hfz126_0 := bf BK296 0
                                have hfz126_1 := bf BK296 1
                                have hfz126_2 := bf BK296 2
                                have hnb127 := NB288_287.out
                                have hnc127 := NB287_288.out
                                have hcz128_0 := bz0 BK288
                                have hcz128_1 := bz1 BK288
                                have hcz128_2 := bz2 BK288
                                have hfz128_0 := bf BK288 0
                                have hfz128_1 := bf BK288 1
                                have hfz128_2 := bf BK288 2
                                go_wp2
                                refine bodyPost_ret (results_ctt rfl _ _ gb288 26 #[.slice Ao13 t289.length co13, .int .i64 t292, .slice Ao17 t293.length co17] (0, 0) _ rfl (by refine ms ?_; refine blk_put (cs := #[.slice Ao13 t289.length co13, .int .i64 t292, .slice none 0 0]) ?_ 2 _ rfl; refine ms ?_; refine blk_put (cs := #[.slice Ao13 t289.length co13, .int .i64 0, .slice none 0 0]) ?_ 1 _ rfl; refine ms ?_; refine blk_put (cs := #[.slice none 0 0, .int .i64 0, .slice none 0 0]) ?_ 0 _ rfl; refine ms ?_; exact BK288.out) Try.underlying26 rfl (by kernel_rfl)) rfl ?_
                                exact ⟨_, _, by first | rfl | (simp [errW_none, errW_some] <;> rfl) | (simp [*, errW_none, errW_some] <;> rfl), by (with_reducible repeat (first | apply Kd.R_alloc | apply Kd.R_drewN | apply Kd.R_drew)); exact Kd.R_mono (Kd.R_far (Kd.R_far (Kd.R_far (Kd.R_types HO_297000.out BK288.out (by decide)) (fun _ hk => hk.2) _) (fun _ hk => hk.2) _) (fun _ hk => hk.2) _) (fun _ hk => hk.1), by (with_reducible repeat (first | apply Kd.Q_alloc | apply Kd.Q_drewN | apply Kd.Q_drew)); exact Kd.Q_mono (Kd.Q_far (Kd.Q_far (Kd.Q_far (Kd.Q_types HO_297002.out BK288.out (by decide)) (fun _ hk => hk.2) _) (fun _ hk => hk.2) _) (fun _ hk => hk.2) _) (fun _ hk => hk.1), mb HB⟩

end Go.Proofs.Ythikbgjlcdkoaaa.MFnExactModelDo
