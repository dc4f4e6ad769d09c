-- Written for this claim by a program of the session (wip/mk.py) over the kit's print.
import Derived.Test.YthikbgjlcdkoaaaMFnExactModelDox0
import Derived.Test.YthikbgjlcdkoaaaMFnExactModelDox1
import Derived.Test.YthikbgjlcdkoaaaMFnExactModelDox3
import Derived.Test.YthikbgjlcdkoaaaMFnExactModelDox4
namespace Go.Proofs.Ythikbgjlcdkoaaa.MFnExactModelDo
open Go.RowKit Go.Proofs.YthikbgjlcdkoaaaW.PrintWords Go.Proofs.YthikbgjlcdkoaaaW.PrintLast Go.Proofs.YthikbgjlcdkoaaaW.PrintMore
attribute [local go_sem] max2_int min2_int max_two min_two max_three min_three max_four min_four   -- for this text's walks alone
set_option linter.unusedVariables false
set_option linter.unusedSimpArgs false

/-! ### impl_ModelDo: function 15 -/
mutual
def impl_ModelDo.j0 : Nat → Bool → Int → Int → Int → Bool → List Int → List Int → Int → List Int → List Int → List Int → Int → List Int → Option (List Int × List Int × Int × List Int × Int × Int)
  | 0, _, _, _, _, _, _, _, _, _, _, _, _, _ => none
  | k + 1, x1, x2, x3, x4, x35, x186000, x186001, x186002, x186003, x198000, x198001, x198002, x198003 => if x35 = true then (some (x198000, x198001, x198002, x198003, 0, 1)) else ((impl_SlaveOf.f k x2).bind fun t201 => (if t201 = 3 then (impl_ModelDo.j1 k x1 x2 x3 x4 false t201 (x3 == 2) x186000 x186001 x186002 x186003 x198000 x198001 x198002 x198003) else (impl_ModelDo.j1 k x1 x2 x3 x4 false t201 false x186000 x186001 x186002 x186003 x198000 x198001 x198002 x198003)))
def impl_ModelDo.j1 : Nat → Bool → Int → Int → Int → Bool → Int → Bool → List Int → List Int → Int → List Int → List Int → List Int → Int → List Int → Option (List Int × List Int × Int × List Int × Int × Int)
  | 0, _, _, _, _, _, _, _, _, _, _, _, _, _, _, _ => none
  | k + 1, x1, x2, x3, x4, x14, x15, x39, x186000, x186001, x186002, x186003, x198000, x198001, x198002, x198003 => if x39 = true then ((impl_DevDo.f k x186001 x186002 x186003 x1 (wrap64 (x2 - 192)) x4).bind fun bt202 => (if bt202.2.2.2.2 = true then (some (x198000, bt202.1, bt202.2.1, bt202.2.2.1, bt202.2.2.2.1, 0)) else ((impl_ownModel.f x186000 x186001 x186002 x186003).bind fun bt211 => (some (bt211.1, bt211.2.1, bt211.2.2.1, bt211.2.2.2, 0, 1))))) else (if x15 = 1 then (impl_ModelDo.j2 k x1 x2 x3 x4 x14 true x186000 x186001 x186002 x186003 x198000 x198001 x198002 x198003) else (impl_ModelDo.j2 k x1 x2 x3 x4 x14 (x15 == 2) x186000 x186001 x186002 x186003 x198000 x198001 x198002 x198003))
def impl_ModelDo.j2 : Nat → Bool → Int → Int → Int → Bool → Bool → List Int → List Int → Int → List Int → List Int → List Int → Int → List Int → Option (List Int × List Int × Int × List Int × Int × Int)
  | 0, _, _, _, _, _, _, _, _, _, _, _, _, _, _ => none
  | k + 1, x1, x2, x3, x4, x14, x58, x186000, x186001, x186002, x186003, x198000, x198001, x198002, x198003 => if x58 = true then (if x1 = true then ((impl_PutNum.f k x186000 x2 x3 x4).bind fun bt221 => (if bt221.2 = true then (some (bt221.1, x198001, x198002, x198003, x4, 0)) else ((impl_ownModel.f x186000 x186001 x186002 x186003).bind fun bt225 => (some (bt225.1, bt225.2.1, bt225.2.2.1, bt225.2.2.2, 0, 1))))) else ((impl_GetNum.f k x186000 x2 x3).bind fun bt235 => (if bt235.2 = true then (some (x198000, x198001, x198002, x198003, bt235.1, 0)) else ((impl_ownModel.f x186000 x186001 x186002 x186003).bind fun bt237 => (some (bt237.1, bt237.2.1, bt237.2.2.1, bt237.2.2.2, 0, 1)))))) else (if x14 = true then (some (x198000, x198001, x198002, x198003, x4, 0)) else ((impl_ownModel.f x186000 x186001 x186002 x186003).bind fun bt247 => (some (bt247.1, bt247.2.1, bt247.2.2.1, bt247.2.2.2, 0, 1))))
end
def impl_ModelDo.f (k : Nat) (l0_0 : List Int) (l0_1 : List Int) (a0_2 : Int) (l0_3 : List Int) (a1 : Bool) (a2 : Int) (a3 : Int) (a4 : Int) : Option (List Int × List Int × Int × List Int × Int × Int) := (impl_ownModel.f l0_0 l0_1 a0_2 l0_3).bind fun bt187 => ((impl_ModelOk.f k l0_0 l0_1 a0_2 l0_3).bind fun t198 => (if t198 = true then ((impl_Aligned.f a2 a3).bind fun t199 => (if t199 = true then (if a1 = true then ((impl_isNum.f a4 a3).bind fun t200 => (impl_ModelDo.j0 k a1 a2 a3 a4 (!t200) l0_0 l0_1 a0_2 l0_3 bt187.1 bt187.2.1 bt187.2.2.1 bt187.2.2.2)) else (impl_ModelDo.j0 k a1 a2 a3 a4 false l0_0 l0_1 a0_2 l0_3 bt187.1 bt187.2.1 bt187.2.2.1 bt187.2.2.2)) else (impl_ModelDo.j0 k a1 a2 a3 a4 true l0_0 l0_1 a0_2 l0_3 bt187.1 bt187.2.1 bt187.2.2.1 bt187.2.2.2))) else (impl_ModelDo.j0 k a1 a2 a3 a4 true l0_0 l0_1 a0_2 l0_3 bt187.1 bt187.2.1 bt187.2.2.1 bt187.2.2.2)))
theorem impl_ModelDo.mono_l : ∀ k, (∀ y0 y1 y2 y3 y4 y5 y6 y7 y8 y9 y10 y11 y12, LeO (impl_ModelDo.j0 k y0 y1 y2 y3 y4 y5 y6 y7 y8 y9 y10 y11 y12) (impl_ModelDo.j0 (k + 1) y0 y1 y2 y3 y4 y5 y6 y7 y8 y9 y10 y11 y12)) ∧ (∀ y0 y1 y2 y3 y4 y5 y6 y7 y8 y9 y10 y11 y12 y13 y14, LeO (impl_ModelDo.j1 k y0 y1 y2 y3 y4 y5 y6 y7 y8 y9 y10 y11 y12 y13 y14) (impl_ModelDo.j1 (k + 1) y0 y1 y2 y3 y4 y5 y6 y7 y8 y9 y10 y11 y12 y13 y14)) ∧ (∀ y0 y1 y2 y3 y4 y5 y6 y7 y8 y9 y10 y11 y12 y13, LeO (impl_ModelDo.j2 k y0 y1 y2 y3 y4 y5 y6 y7 y8 y9 y10 y11 y12 y13) (impl_ModelDo.j2 (k + 1) y0 y1 y2 y3 y4 y5 y6 y7 y8 y9 y10 y11 y12 y13))
  | 0 => ⟨fun _ _ _ _ _ _ _ _ _ _ _ _ _ r h => by simp [impl_ModelDo.j0] at h, fun _ _ _ _ _ _ _ _ _ _ _ _ _ _ _ r h => by simp [impl_ModelDo.j1] at h, fun _ _ _ _ _ _ _ _ _ _ _ _ _ _ r h => by simp [impl_ModelDo.j2] at h⟩
  | k + 1 => by
    obtain ⟨ih0, ih1, ih2⟩ := impl_ModelDo.mono_l k
    refine ⟨?_, ?_, ?_⟩
    · intro y0 y1 y2 y3 y4 y5 y6 y7 y8 y9 y10 y11 y12
      unfold impl_ModelDo.j0
      repeat' first
      | (with_reducible exact ih0 _ _ _ _ _ _ _ _ _ _ _ _ _)
      | (with_reducible exact ih1 _ _ _ _ _ _ _ _ _ _ _ _ _ _ _)
      | (with_reducible exact ih2 _ _ _ _ _ _ _ _ _ _ _ _ _ _)
      | (with_reducible exact impl_DevDo.mono _ _ _ _ _ _ _)
      | (with_reducible exact impl_GetNum.mono _ _ _ _)
      | (with_reducible exact impl_ModelOk.mono _ _ _ _ _)
      | (with_reducible exact impl_PutNum.mono _ _ _ _ _)
      | (with_reducible exact impl_SlaveOf.mono _ _)
      | (with_reducible exact LeO.refl _)
      | (with_reducible exact LeO.none _)
      | (with_reducible refine LeO.ite ?_ ?_)
      | (with_reducible refine LeO.bind ?_ (fun _ => ?_))
      | exact ih0 _ _ _ _ _ _ _ _ _ _ _ _ _
      | exact ih1 _ _ _ _ _ _ _ _ _ _ _ _ _ _ _
      | exact ih2 _ _ _ _ _ _ _ _ _ _ _ _ _ _
      | exact impl_DevDo.mono _ _ _ _ _ _ _
      | exact impl_GetNum.mono _ _ _ _
      | exact impl_ModelOk.mono _ _ _ _ _
      | exact impl_PutNum.mono _ _ _ _ _
      | exact impl_SlaveOf.mono _ _
      | exact LeO.none _
      | refine LeO.ite ?_ ?_
      | refine LeO.bind ?_ (fun _ => ?_)
    · intro y0 y1 y2 y3 y4 y5 y6 y7 y8 y9 y10 y11 y12 y13 y14
      unfold impl_ModelDo.j1
      repeat' first
      | (with_reducible exact ih0 _ _ _ _ _ _ _ _ _ _ _ _ _)
      | (with_reducible exact ih1 _ _ _ _ _ _ _ _ _ _ _ _ _ _ _)
      | (with_reducible exact ih2 _ _ _ _ _ _ _ _ _ _ _ _ _ _)
      | (with_reducible exact impl_DevDo.mono _ _ _ _ _ _ _)
      | (with_reducible exact impl_GetNum.mono _ _ _ _)
      | (with_reducible exact impl_ModelOk.mono _ _ _ _ _)
      | (with_reducible exact impl_PutNum.mono _ _ _ _ _)
      | (with_reducible exact impl_SlaveOf.mono _ _)
      | (with_reducible exact LeO.refl _)
      | (with_reducible exact LeO.none _)
      | (with_reducible refine LeO.ite ?_ ?_)
      | (with_reducible refine LeO.bind ?_ (fun _ => ?_))
      | exact ih0 _ _ _ _ _ _ _ _ _ _ _ _ _
      | exact ih1 _ _ _ _ _ _ _ _ _ _ _ _ _ _ _
      | exact ih2 _ _ _ _ _ _ _ _ _ _ _ _ _ _
      | exact impl_DevDo.mono _ _ _ _ _ _ _
      | exact impl_GetNum.mono _ _ _ _
      | exact impl_ModelOk.mono _ _ _ _ _
      | exact impl_PutNum.mono _ _ _ _ _
      | exact impl_SlaveOf.mono _ _
      | exact LeO.none _
      | refine LeO.ite ?_ ?_
      | refine LeO.bind ?_ (fun _ => ?_)
    · intro y0 y1 y2 y3 y4 y5 y6 y7 y8 y9 y10 y11 y12 y13
      unfold impl_ModelDo.j2
      repeat' first
      | (with_reducible exact ih0 _ _ _ _ _ _ _ _ _ _ _ _ _)
      | (with_reducible exact ih1 _ _ _ _ _ _ _ _ _ _ _ _ _ _ _)
      | (with_reducible exact ih2 _ _ _ _ _ _ _ _ _ _ _ _ _ _)
      | (with_reducible exact impl_DevDo.mono _ _ _ _ _ _ _)
      | (with_reducible exact impl_GetNum.mono _ _ _ _)
      | (with_reducible exact impl_ModelOk.mono _ _ _ _ _)
      | (with_reducible exact impl_PutNum.mono _ _ _ _ _)
      | (with_reducible exact impl_SlaveOf.mono _ _)
      | (with_reducible exact LeO.refl _)
      | (with_reducible exact LeO.none _)
      | (with_reducible refine LeO.ite ?_ ?_)
      | (with_reducible refine LeO.bind ?_ (fun _ => ?_))
      | exact ih0 _ _ _ _ _ _ _ _ _ _ _ _ _
      | exact ih1 _ _ _ _ _ _ _ _ _ _ _ _ _ _ _
      | exact ih2 _ _ _ _ _ _ _ _ _ _ _ _ _ _
      | exact impl_DevDo.mono _ _ _ _ _ _ _
      | exact impl_GetNum.mono _ _ _ _
      | exact impl_ModelOk.mono _ _ _ _ _
      | exact impl_PutNum.mono _ _ _ _ _
      | exact impl_SlaveOf.mono _ _
      | exact LeO.none _
      | refine LeO.ite ?_ ?_
      | refine LeO.bind ?_ (fun _ => ?_)
theorem impl_ModelDo.mono : ∀ a0 a1 a2 a3 a4 a5 a6 a7 k, LeO (impl_ModelDo.f k a0 a1 a2 a3 a4 a5 a6 a7) (impl_ModelDo.f (k + 1) a0 a1 a2 a3 a4 a5 a6 a7) := by
  intro a0 a1 a2 a3 a4 a5 a6 a7 k
  obtain ⟨ih0, ih1, ih2⟩ := impl_ModelDo.mono_l k
  unfold impl_ModelDo.f
  repeat' first
      | (with_reducible exact ih0 _ _ _ _ _ _ _ _ _ _ _ _ _)
      | (with_reducible exact ih1 _ _ _ _ _ _ _ _ _ _ _ _ _ _ _)
      | (with_reducible exact ih2 _ _ _ _ _ _ _ _ _ _ _ _ _ _)
      | (with_reducible exact impl_DevDo.mono _ _ _ _ _ _ _)
      | (with_reducible exact impl_GetNum.mono _ _ _ _)
      | (with_reducible exact impl_ModelOk.mono _ _ _ _ _)
      | (with_reducible exact impl_PutNum.mono _ _ _ _ _)
      | (with_reducible exact impl_SlaveOf.mono _ _)
      | (with_reducible exact LeO.refl _)
      | (with_reducible exact LeO.none _)
      | (with_reducible refine LeO.ite ?_ ?_)
      | (with_reducible refine LeO.bind ?_ (fun _ => ?_))
      | exact ih0 _ _ _ _ _ _ _ _ _ _ _ _ _
      | exact ih1 _ _ _ _ _ _ _ _ _ _ _ _ _ _ _
      | exact ih2 _ _ _ _ _ _ _ _ _ _ _ _ _ _
      | exact impl_DevDo.mono _ _ _ _ _ _ _
      | exact impl_GetNum.mono _ _ _ _
      | exact impl_ModelOk.mono _ _ _ _ _
      | exact impl_PutNum.mono _ _ _ _ _
      | exact impl_SlaveOf.mono _ _
      | exact LeO.none _
      | refine LeO.ite ?_ ?_
      | refine LeO.bind ?_ (fun _ => ?_)
set_option maxHeartbeats 8000000 in
set_option maxRecDepth 100000 in
theorem impl_ModelDo.calls (k : Nat) (A0_0 : Option Addr) (c0_0 : Nat) (l0_0 : List Int) (A0_1 : Option Addr) (c0_1 : Nat) (l0_1 : List Int) (a0_2 : Int) (A0_3 : Option Addr) (c0_3 : Nat) (l0_3 : List Int) (a1 : Bool) (a2 : Int) (a3 : Int) (a4 : Int) (r1 : List Int) (r2 : List Int) (r3 : Int) (r4 : List Int) (r5 : Int) (r6 : Int) (w : World) (hr0_0 : Kd.C (Kd.int .i64) w A0_0 l0_0.length l0_0) (hc0_0 : l0_0.length ≤ c0_0) (hr0_1 : Kd.C (Kd.int .i64) w A0_1 l0_1.length l0_1) (hc0_1 : l0_1.length ≤ c0_1) (hr0_3 : Kd.C (Kd.int .i64) w A0_3 l0_3.length l0_3) (hc0_3 : l0_3.length ≤ c0_3) (h : impl_ModelDo.f k l0_0 l0_1 a0_2 l0_3 a1 a2 a3 a4 = some (r1, r2, r3, r4, r5, r6)) :
    Calls Try.prog 15 #[.agg #[.slice A0_0 l0_0.length c0_0, .slice A0_1 l0_1.length c0_1, .int .i64 a0_2, .slice A0_3 l0_3.length c0_3], .bool a1, .int .i64 a2, .int .i64 a3, .int .i64 a4] w fun e w' => ∃ v0_ v1_ v3_ : Value, e = .returned (.tuple #[.agg #[v0_, v1_, .int .i64 r3, v3_], .int .i64 r5, .int .i64 r6]) ∧ Kd.R (Kd.int .i64) 3 w' w.heap.size (fun k_ => some k_ ≠ (v1_ : Value).ownBlock ∧ some k_ ≠ (v3_ : Value).ownBlock) v0_ r1 ∧ Kd.R (Kd.int .i64) 3 w' w.heap.size (fun k_ => some k_ ≠ (v0_ : Value).ownBlock ∧ some k_ ≠ (v3_ : Value).ownBlock) v1_ r2 ∧ Kd.R (Kd.int .i64) 3 w' w.heap.size (fun k_ => some k_ ≠ (v0_ : Value).ownBlock ∧ some k_ ≠ (v1_ : Value).ownBlock) v3_ r4 ∧ Below w.heap.size w w' := by
  have hu28 := Try.underlying28
  have hu26 := Try.underlying26
  have HR0_0 := Aside0.mk hr0_0
  have HC0_0 := Aside0.mk hc0_0
  clear hr0_0 hc0_0
  have HR0_1 := Aside0.mk hr0_1
  have HC0_1 := Aside0.mk hc0_1
  clear hr0_1 hc0_1
  have HR0_3 := Aside0.mk hr0_3
  have HC0_3 := Aside0.mk hc0_3
  clear hr0_3 hc0_3
  have HB := Az (Below.refl w.heap.size w)
  have H : ((impl_ownModel.f l0_0 l0_1 a0_2 l0_3).bind fun bt187 => ((impl_ModelOk.f k l0_0 l0_1 a0_2 l0_3).bind fun t198 => (if t198 = true then ((impl_Aligned.f a2 a3).bind fun t199 => (if t199 = true then (if a1 = true then ((impl_isNum.f a4 a3).bind fun t200 => (impl_ModelDo.j0 k a1 a2 a3 a4 (!t200) l0_0 l0_1 a0_2 l0_3 bt187.1 bt187.2.1 bt187.2.2.1 bt187.2.2.2)) else (impl_ModelDo.j0 k a1 a2 a3 a4 false l0_0 l0_1 a0_2 l0_3 bt187.1 bt187.2.1 bt187.2.2.1 bt187.2.2.2)) else (impl_ModelDo.j0 k a1 a2 a3 a4 true l0_0 l0_1 a0_2 l0_3 bt187.1 bt187.2.1 bt187.2.2.1 bt187.2.2.2))) else (impl_ModelDo.j0 k a1 a2 a3 a4 true l0_0 l0_1 a0_2 l0_3 bt187.1 bt187.2.1 bt187.2.2.1 bt187.2.2.2)))) = some (r1, r2, r3, r4, r5, r6) := h
  clear h
  replace H := Option.bind_eq_some_iff.mp H
  obtain ⟨⟨t187, t190, t193, t194⟩, A60, H⟩ := H
  replace H : ((impl_ModelOk.f k l0_0 l0_1 a0_2 l0_3).bind fun t198 => (if t198 = true then ((impl_Aligned.f a2 a3).bind fun t199 => (if t199 = true then (if a1 = true then ((impl_isNum.f a4 a3).bind fun t200 => (impl_ModelDo.j0 k a1 a2 a3 a4 (!t200) l0_0 l0_1 a0_2 l0_3 t187 t190 t193 t194)) else (impl_ModelDo.j0 k a1 a2 a3 a4 false l0_0 l0_1 a0_2 l0_3 t187 t190 t193 t194)) else (impl_ModelDo.j0 k a1 a2 a3 a4 true l0_0 l0_1 a0_2 l0_3 t187 t190 t193 t194))) else (impl_ModelDo.j0 k a1 a2 a3 a4 true l0_0 l0_1 a0_2 l0_3 t187 t190 t193 t194))) = some (r1, r2, r3, r4, r5, r6) := H
  have A6 := Aside0.mk A60
  clear A60
  have HC7 := Aside0.mk H
  clear H
  go_enter Try.func15, Try.ntmps15
  go_upto_region 2 with (first | ((with_reducible refine gate_dst (N := 5) rfl ?_); refine box_event ?hg (N := 5) ?hd (cs := #[.slice A0_0 l0_0.length c0_0, .slice A0_1 l0_1.length c0_1, .int .i64 a0_2, .slice A0_3 l0_3.length c0_3]) (t := 28) ?hr ?_; (case hd => rfl); (case hg => rfl); (case hr => first | (go_simp; done) | (go_simp; rfl)); intro gb185 hg w8 hbox hb; have n0_ := Az (below_step (mb HB) hb); have n1_ := Az (hbox); have n2_ := Az ((by rw [hg]; exact (below_size (mb HB)) : w.heap.size ≤ gb185)); have n3_ := Az ((by rw [hg]; exact (below_size (mb HB)) : w.heap.size ≤ gb185)); clear HB; have HB := n0_; have BK185 := n1_; have GW185 := n2_; have GE185 := n3_; clear n0_ n1_ n2_ n3_; clear hb hbox hg) | ((with_reducible refine gate_dst (N := 10) rfl ?_); refine box_event ?hg (N := 10) ?hd (cs := #[.slice none 0 0, .slice none 0 0, .int .i64 0, .slice none 0 0]) (t := 28) ?hr ?_; (case hd => rfl); (case hg => rfl); (case hr => first | (go_simp; done) | (go_simp; rfl)); intro gb186 hg w9 hbox hb; have n0_ := Az (blk_below (mz BK185) hb); have n1_ := Az (below_step (mb HB) hb); have n2_ := Az (hbox); have n3_ := Az ((by rw [hg]; exact (below_size (mb HB)) : w.heap.size ≤ gb186)); have n4_ := Az ((by rw [hg]; exact (below_size (mb HB)) : w.heap.size ≤ gb186)); have n5_ := Az ((by rw [hg]; exact Nat.ne_of_lt (blk_lt (mz BK185)) : gb185 ≠ gb186)); have n6_ := Az ((by rw [hg]; exact Nat.ne_of_gt (blk_lt (mz BK185)) : gb186 ≠ gb185)); clear BK185 HB; have BK185 := n0_; have HB := n1_; have BK186 := n2_; have GW186 := n3_; have GE186 := n4_; have NB185_186 := n5_; have NB186_185 := n6_; clear n0_ n1_ n2_ n3_ n4_ n5_ n6_ hb hbox hg; have hnb10 := NB185_186.out; have hnc10 := NB186_185.out; have hcz11_0 := bz0 BK185; have hcz11_1 := bz1 BK185; have hcz11_2 := bz2 BK185; have hcz11_3 := bz3 BK185; have hfz11_0 := bf BK185 0; have hfz11_1 := bf BK185 1; have hfz11_2 := bf BK185 2; have hfz11_3 := bf BK185 3) | ((with_reducible refine gate_callee (f := 49) rfl ?_); refine goesL_ (some 17) rfl rfl Try.func49 (by kernel_rfl) rfl #[.agg #[.slice A0_0 l0_0.length c0_0, .slice A0_1 l0_1.length c0_1, .int .i64 a0_2, .slice A0_3 l0_3.length c0_3]] rfl ml ?_; (with_reducible refine (impl_ownModel.calls _ _ l0_0 _ _ l0_1 a0_2 _ _ l0_3 t187 t190 t193 t194 _ ?side1 ?side2 ?side3 ?side4 ?side5 ?side6 A6.out).mono ?_); (case side1 => exact mc (Kd.C_below HR0_0.out HB.out)); (case side2 => exact HC0_0.out); (case side3 => exact mc (Kd.C_below HR0_1.out HB.out)); (case side4 => exact HC0_1.out); (case side5 => exact mc (Kd.C_below HR0_3.out HB.out)); (case side6 => exact HC0_3.out); rintro e w12 ⟨v188, v191, v195, rfl, ho0, ho1, ho2, hb⟩; refine ⟨_, rfl, ?_⟩; have n0_ := Az (Kd.R_lower ho0 (below_size (mb HB))); have n1_ := Az (Kd.R_lower ho1 (below_size (mb HB))); have n2_ := Az (Kd.R_lower ho2 (below_size (mb HB))); have n3_ := Az (blk_below (mz BK185) hb); have n4_ := Az (blk_below (mz BK186) hb); have n5_ := Az (below_step (mb HB) hb); clear BK185 BK186 HB; have HO189 := n0_; have HO192 := n1_; have HO196 := n2_; have BK185 := n3_; have BK186 := n4_; have HB := n5_; clear n0_ n1_ n2_ n3_ n4_ n5_; (try clear hb); (try clear hb2); (try clear hk); (try clear hi); (try clear ho0); (try clear ho1); (try clear ho2)) | ((with_reducible refine gate_dst (N := 13) rfl ?_); refine box_event ?hg (N := 13) ?hd (cs := #[.slice none 0 0, .slice none 0 0, .int .i64 0, .slice none 0 0]) (t := 28) ?hr ?_; (case hd => rfl); (case hg => rfl); (case hr => first | (go_simp; done) | (go_simp; rfl)); intro gb197 hg w13 hbox hb; have n0_ := Az (Kd.R_below (mr HO189) hb); have n1_ := Az (Kd.R_below (mr HO192) hb); have n2_ := Az (Kd.R_below (mr HO196) hb); have n3_ := Az (blk_below (mz BK185) hb); have n4_ := Az (blk_below (mz BK186) hb); have n5_ := Az (below_step (mb HB) hb); have n6_ := Az (hbox); have n7_ := Az ((by rw [hg]; exact (below_size (mb HB)) : w.heap.size ≤ gb197)); have n8_ := Az ((by rw [hg]; exact (below_size (mb HB)) : w.heap.size ≤ gb197)); have n9_ := Az ((by rw [hg]; exact Nat.ne_of_lt (blk_lt (mz BK185)) : gb185 ≠ gb197)); have n10_ := Az ((by rw [hg]; exact Nat.ne_of_gt (blk_lt (mz BK185)) : gb197 ≠ gb185)); have n11_ := Az ((by rw [hg]; exact Nat.ne_of_lt (blk_lt (mz BK186)) : gb186 ≠ gb197)); have n12_ := Az ((by rw [hg]; exact Nat.ne_of_gt (blk_lt (mz BK186)) : gb197 ≠ gb186)); clear HO189 HO192 HO196 BK185 BK186 HB; have HO189 := n0_; have HO192 := n1_; have HO196 := n2_; have BK185 := n3_; have BK186 := n4_; have HB := n5_; have BK197 := n6_; have GW197 := n7_; have GE197 := n8_; have NB185_197 := n9_; have NB197_185 := n10_; have NB186_197 := n11_; have NB197_186 := n12_; clear n0_ n1_ n2_ n3_ n4_ n5_ n6_ n7_ n8_ n9_ n10_ n11_ n12_ hb hbox hg; obtain ⟨Ao14, co14, eo14⟩ := Kd.R_slice HO189.out; subst eo14; have hnb15 := NB197_185.out; have hnc15 := NB185_197.out; have hnb16 := NB197_186.out; have hnc16 := NB186_197.out; have hcz17_0 := bz0 BK197; have hcz17_1 := bz1 BK197; have hcz17_2 := bz2 BK197; have hcz17_3 := bz3 BK197; have hfz17_0 := bf BK197 0; have hfz17_1 := bf BK197 1; have hfz17_2 := bf BK197 2; have hfz17_3 := bf BK197 3; obtain ⟨Ao18, co18, eo18⟩ := Kd.R_slice HO192.out; subst eo18; obtain ⟨Ao19, co19, eo19⟩ := Kd.R_slice HO196.out; subst eo19))
  (try simp only [Act.put, List.setIfInBounds_toArray, List.set_cons_zero, List.set_cons_succ])
  go_cut [35] (fun v35 wc => ∃ (kq : Nat) (x35_6 : Bool), v35 = .bool x35_6 ∧ Aside0 (impl_ModelDo.j0 kq a1 a2 a3 a4 x35_6 l0_0 l0_1 a0_2 l0_3 t187 t190 t193 t194 = some (r1, r2, r3, r4, r5, r6)) ∧ Aside0 (kq ≤ k) ∧ Aside0 (Kd.R (Kd.int .i64) 3 wc w.heap.size (fun k_ => some k_ ≠ ((.slice Ao18 t190.length co18) : Value).ownBlock ∧ some k_ ≠ ((.slice Ao19 t194.length co19) : Value).ownBlock) (.slice Ao14 t187.length co14) t187) ∧ Aside0 (Kd.R (Kd.int .i64) 3 wc w.heap.size (fun k_ => some k_ ≠ ((.slice Ao14 t187.length co14) : Value).ownBlock ∧ some k_ ≠ ((.slice Ao19 t194.length co19) : Value).ownBlock) (.slice Ao18 t190.length co18) t190) ∧ Aside0 (Kd.R (Kd.int .i64) 3 wc w.heap.size (fun k_ => some k_ ≠ ((.slice Ao14 t187.length co14) : Value).ownBlock ∧ some k_ ≠ ((.slice Ao18 t190.length co18) : Value).ownBlock) (.slice Ao19 t194.length co19) t194) ∧ Aside0 (wc.heap[gb185]? = some (.cells #[(.slice A0_0 l0_0.length c0_0), (.slice A0_1 l0_1.length c0_1), .int .i64 a0_2, (.slice A0_3 l0_3.length c0_3)] 28 (0, 0))) ∧ Aside0 (wc.heap[gb186]? = some (.cells #[(.slice none 0 0), (.slice none 0 0), .int .i64 0, (.slice none 0 0)] 28 (0, 0))) ∧ Aside0 (wc.heap[gb197]? = some (.cells #[(.slice Ao14 t187.length co14), (.slice Ao18 t190.length co18), .int .i64 t193, (.slice Ao19 t194.length co19)] 28 (0, 0))) ∧ Aside0 (Below w.heap.size w wc))
  case first =>
    have H := HC7.out
    clear HC7
    replace H := Option.bind_eq_some_iff.mp H
    obtain ⟨t198, A200, H⟩ := H
    replace H : (if t198 = true then ((impl_Aligned.f a2 a3).bind fun t199 => (if t199 = true then (if a1 = true then ((impl_isNum.f a4 a3).bind fun t200 => (impl_ModelDo.j0 k a1 a2 a3 a4 (!t200) l0_0 l0_1 a0_2 l0_3 t187 t190 t193 t194)) else (impl_ModelDo.j0 k a1 a2 a3 a4 false l0_0 l0_1 a0_2 l0_3 t187 t190 t193 t194)) else (impl_ModelDo.j0 k a1 a2 a3 a4 true l0_0 l0_1 a0_2 l0_3 t187 t190 t193 t194))) else (impl_ModelDo.j0 k a1 a2 a3 a4 true l0_0 l0_1 a0_2 l0_3 t187 t190 t193 t194)) = some (r1, r2, r3, r4, r5, r6) := H
    have A20 := Aside0.mk A200
    clear A200
    by_cases c21 : t198 = true
    · subst c21
      have H1 : ((impl_Aligned.f a2 a3).bind fun t199 => (if t199 = true then (if a1 = true then ((impl_isNum.f a4 a3).bind fun t200 => (impl_ModelDo.j0 k a1 a2 a3 a4 (!t200) l0_0 l0_1 a0_2 l0_3 t187 t190 t193 t194)) else (impl_ModelDo.j0 k a1 a2 a3 a4 false l0_0 l0_1 a0_2 l0_3 t187 t190 t193 t194)) else (impl_ModelDo.j0 k a1 a2 a3 a4 true l0_0 l0_1 a0_2 l0_3 t187 t190 t193 t194))) = some (r1, r2, r3, r4, r5, r6) := by rw [if_pos rfl] at H; exact H
      clear H
      have H := H1
      clear H1
      replace H := Option.bind_eq_some_iff.mp H
      obtain ⟨t199, A220, H⟩ := H
      replace H : (if t199 = true then (if a1 = true then ((impl_isNum.f a4 a3).bind fun t200 => (impl_ModelDo.j0 k a1 a2 a3 a4 (!t200) l0_0 l0_1 a0_2 l0_3 t187 t190 t193 t194)) else (impl_ModelDo.j0 k a1 a2 a3 a4 false l0_0 l0_1 a0_2 l0_3 t187 t190 t193 t194)) else (impl_ModelDo.j0 k a1 a2 a3 a4 true l0_0 l0_1 a0_2 l0_3 t187 t190 t193 t194)) = some (r1, r2, r3, r4, r5, r6) := H
      have A22 := Aside0.mk A220
      clear A220
      by_cases c23 : t199 = true
      · subst c23
        have H1 : (if a1 = true then ((impl_isNum.f a4 a3).bind fun t200 => (impl_ModelDo.j0 k a1 a2 a3 a4 (!t200) l0_0 l0_1 a0_2 l0_3 t187 t190 t193 t194)) else (impl_ModelDo.j0 k a1 a2 a3 a4 false l0_0 l0_1 a0_2 l0_3 t187 t190 t193 t194)) = some (r1, r2, r3, r4, r5, r6) := by rw [if_pos rfl] at H; exact H
        clear H
        have H := H1
        clear H1
        by_cases c24 : a1 = true
        · subst c24
          have H1 : ((impl_isNum.f a4 a3).bind fun t200 => (impl_ModelDo.j0 k true a2 a3 a4 (!t200) l0_0 l0_1 a0_2 l0_3 t187 t190 t193 t194)) = some (r1, r2, r3, r4, r5, r6) := by rw [if_pos rfl] at H; exact H
          clear H
          have H := H1
          clear H1
          replace H := Option.bind_eq_some_iff.mp H
          obtain ⟨t200, A250, H⟩ := H
          replace H : (impl_ModelDo.j0 k true a2 a3 a4 (!t200) l0_0 l0_1 a0_2 l0_3 t187 t190 t193 t194) = some (r1, r2, r3, r4, r5, r6) := H
          have A25 := Aside0.mk A250
          clear A250
          have H' := Aside0.mk H
          clear H
          have hnb26 := NB185_186.out
          have hnc26 := NB186_185.out
          have hnb27 := NB185_197.out
          have hnc27 := NB197_185.out
          have hcz28_0 := bz0 BK185
          have hcz28_1 := bz1 BK185
          have hcz28_2 := bz2 BK185
          have hcz28_3 := bz3 BK185
          have hfz28_0 := bf BK185 0
          have hfz28_1 := bf BK185 1
          have hfz28_2 := bf BK185 2
          have hfz28_3 := bf BK185 3
          go_wp2_with (first | ((with_reducible refine gate_callee (f := 18) rfl ?_); refine goesL_ (some 19) rfl rfl Try.func18 (by kernel_rfl) rfl #[.agg #[.slice A0_0 l0_0.length c0_0, .slice A0_1 l0_1.length c0_1, .int .i64 a0_2, .slice A0_3 l0_3.length c0_3]] rfl ml ?_; (with_reducible refine (impl_ModelOk.calls k _ _ l0_0 _ _ l0_1 a0_2 _ _ l0_3 true _ ?side1 ?side2 ?side3 ?side4 ?side5 ?side6 A20.out).mono ?_); (case side1 => exact Kd.C_below HR0_0.out (mb HB)); (case side2 => exact HC0_0.out); (case side3 => exact Kd.C_below HR0_1.out (mb HB)); (case side4 => exact HC0_1.out); (case side5 => exact Kd.C_below HR0_3.out (mb HB)); (case side6 => exact HC0_3.out); rintro e w29 ⟨rfl, hb⟩; refine ⟨_, rfl, ?_⟩; have n0_ := Az (Kd.R_below (by (with_reducible repeat (first | apply Kd.R_alloc | apply Kd.R_drewN | apply Kd.R_drew)); exact (Kd.R_mono (Kd.R_far (Kd.R_far (Kd.R_far (Kd.R_far (Kd.R_types HO189.out BK197.out (by decide)) (fun _ hk => hk.2) _) (fun _ hk => hk.2) _) (fun _ hk => hk.2) _) (fun _ hk => hk.2) _) (fun _ h_ => h_.1))) hb); have n1_ := Az (Kd.R_below (by (with_reducible repeat (first | apply Kd.R_alloc | apply Kd.R_drewN | apply Kd.R_drew)); exact (Kd.R_mono (Kd.R_far (Kd.R_far (Kd.R_far (Kd.R_far (Kd.R_types HO192.out BK197.out (by decide)) (fun _ hk => hk.2) _) (fun _ hk => hk.2) _) (fun _ hk => hk.2) _) (fun _ hk => hk.2) _) (fun _ h_ => h_.1))) hb); have n2_ := Az (Kd.R_below (by (with_reducible repeat (first | apply Kd.R_alloc | apply Kd.R_drewN | apply Kd.R_drew)); exact (Kd.R_mono (Kd.R_far (Kd.R_far (Kd.R_far (Kd.R_far (Kd.R_types HO196.out BK197.out (by decide)) (fun _ hk => hk.2) _) (fun _ hk => hk.2) _) (fun _ hk => hk.2) _) (fun _ hk => hk.2) _) (fun _ h_ => h_.1))) hb); have n3_ := Az (blk_below (g := gb185) (o := .cells #[.slice A0_0 l0_0.length c0_0, .slice A0_1 l0_1.length c0_1, .int .i64 a0_2, .slice A0_3 l0_3.length c0_3] 28 (0, 0)) (by refine ms ?_; refine blk_far ?_ NB185_197.out _; refine ms ?_; refine blk_far ?_ NB185_197.out _; refine ms ?_; refine blk_far ?_ NB185_197.out _; refine ms ?_; refine blk_far ?_ NB185_197.out _; refine ms ?_; exact BK185.out) hb); have n4_ := Az (blk_below (g := gb186) (o := .cells #[.slice none 0 0, .slice none 0 0, .int .i64 0, .slice none 0 0] 28 (0, 0)) (by refine ms ?_; refine blk_far ?_ NB186_197.out _; refine ms ?_; refine blk_far ?_ NB186_197.out _; refine ms ?_; refine blk_far ?_ NB186_197.out _; refine ms ?_; refine blk_far ?_ NB186_197.out _; refine ms ?_; exact BK186.out) hb); have n5_ := Az (blk_below (g := gb197) (o := .cells #[.slice Ao14 t187.length co14, .slice Ao18 t190.length co18, .int .i64 t193, .slice Ao19 t194.length co19] 28 (0, 0)) (by refine ms ?_; refine blk_put (cs := #[.slice Ao14 t187.length co14, .slice Ao18 t190.length co18, .int .i64 t193, .slice none 0 0]) ?_ 3 _ rfl; refine ms ?_; refine blk_put (cs := #[.slice Ao14 t187.length co14, .slice Ao18 t190.length co18, .int .i64 0, .slice none 0 0]) ?_ 2 _ rfl; refine ms ?_; refine blk_put (cs := #[.slice Ao14 t187.length co14, .slice none 0 0, .int .i64 0, .slice none 0 0]) ?_ 1 _ rfl; refine ms ?_; refine blk_put (cs := #[.slice none 0 0, .slice none 0 0, .int .i64 0, .slice none 0 0]) ?_ 0 _ rfl; refine ms ?_; exact BK197.out) hb); have n6_ := Az (below_step (mb HB) hb); clear HO189 HO192 HO196 BK185 BK186 BK197 HB; have HO189 := n0_; have HO192 := n1_; have HO196 := n2_; have BK185 := n3_; have BK186 := n4_; have BK197 := n5_; have HB := n6_; clear n0_ n1_ n2_ n3_ n4_ n5_ n6_; (try clear hb); (try clear hb2); (try clear hk); (try clear hi)) | (go_at_call 50; (with_reducible refine (impl_Aligned.calls a2 a3 true _ A22.out).mono ?_); rintro e w' ⟨rfl, ⟨nd, rfl⟩⟩) | (go_at_call 51; (with_reducible refine (impl_isNum.calls a4 a3 t200 _ A25.out).mono ?_); rintro e w' ⟨rfl, ⟨nd, rfl⟩⟩))
          go_meet
          case rel => exact ⟨_, (!t200), (by first | rfl | (simp; done) | (simp [*]; done)), H', ⟨by first | omega | exact Nat.le_refl _⟩, ⟨mr HO189⟩, ⟨mr HO192⟩, ⟨mr HO196⟩, ⟨mz BK185⟩, ⟨mz BK186⟩, ⟨mz BK197⟩, ⟨mb HB⟩⟩
        · replace c24 := Bool.eq_false_iff.mpr c24
          subst c24
          have H1 : (impl_ModelDo.j0 k false a2 a3 a4 false l0_0 l0_1 a0_2 l0_3 t187 t190 t193 t194) = some (r1, r2, r3, r4, r5, r6) := by rw [if_neg (show ¬ (false = true) by decide)] at H; exact H
          clear H
          have H := H1
          clear H1
          have H' := Aside0.mk H
          clear H
          have hnb30 := NB185_186.out
          have hnc30 := NB186_185.out
          have hnb31 := NB185_197.out
          have hnc31 := NB197_185.out
          have hcz32_0 := bz0 BK185
          have hcz32_1 := bz1 BK185
          have hcz32_2 := bz2 BK185
          have hcz32_3 := bz3 BK185
          have hfz32_0 := bf BK185 0
          have hfz32_1 := bf BK185 1
          have hfz32_2 := bf BK185 2
          have hfz32_3 := bf BK185 3
          go_wp2_with (first | ((with_reducible refine gate_callee (f := 18) rfl ?_); refine goesL_ (some 19) rfl rfl Try.func18 (by kernel_rfl) rfl #[.agg #[.slice A0_0 l0_0.length c0_0, .slice A0_1 l0_1.length c0_1, .int .i64 a0_2, .slice A0_3 l0_3.length c0_3]] rfl ml ?_; (with_reducible refine (impl_ModelOk.calls k _ _ l0_0 _ _ l0_1 a0_2 _ _ l0_3 true _ ?side1 ?side2 ?side3 ?side4 ?side5 ?side6 A20.out).mono ?_); (case side1 => exact Kd.C_below HR0_0.out (mb HB)); (case side2 => exact HC0_0.out); (case side3 => exact Kd.C_below HR0_1.out (mb HB)); (case side4 => exact HC0_1.out); (case side5 => exact Kd.C_below HR0_3.out (mb HB)); (case side6 => exact HC0_3.out); rintro e w33 ⟨rfl, hb⟩; refine ⟨_, rfl, ?_⟩; have n0_ := Az (Kd.R_below (by (with_reducible repeat (first | apply Kd.R_alloc | apply Kd.R_drewN | apply Kd.R_drew)); exact (Kd.R_mono (Kd.R_far (Kd.R_far (Kd.R_far (Kd.R_far (Kd.R_types HO189.out BK197.out (by decide)) (fun _ hk => hk.2) _) (fun _ hk => hk.2) _) (fun _ hk => hk.2) _) (fun _ hk => hk.2) _) (fun _ h_ => h_.1))) hb); have n1_ := Az (Kd.R_below (by (with_reducible repeat (first | apply Kd.R_alloc | apply Kd.R_drewN | apply Kd.R_drew)); exact (Kd.R_mono (Kd.R_far (Kd.R_far (Kd.R_far (Kd.R_far (Kd.R_types HO192.out BK197.out (by decide)) (fun _ hk => hk.2) _) (fun _ hk => hk.2) _) (fun _ hk => hk.2) _) (fun _ hk => hk.2) _) (fun _ h_ => h_.1))) hb); have n2_ := Az (Kd.R_below (by (with_reducible repeat (first | apply Kd.R_alloc | apply Kd.R_drewN | apply Kd.R_drew)); exact (Kd.R_mono (Kd.R_far (Kd.R_far (Kd.R_far (Kd.R_far (Kd.R_types HO196.out BK197.out (by decide)) (fun _ hk => hk.2) _) (fun _ hk => hk.2) _) (fun _ hk => hk.2) _) (fun _ hk => hk.2) _) (fun _ h_ => h_.1))) hb); have n3_ := Az (blk_below (g := gb185) (o := .cells #[.slice A0_0 l0_0.length c0_0, .slice A0_1 l0_1.length c0_1, .int .i64 a0_2, .slice A0_3 l0_3.length c0_3] 28 (0, 0)) (by refine ms ?_; refine blk_far ?_ NB185_197.out _; refine ms ?_; refine blk_far ?_ NB185_197.out _; refine ms ?_; refine blk_far ?_ NB185_197.out _; refine ms ?_; refine blk_far ?_ NB185_197.out _; refine ms ?_; exact BK185.out) hb); have n4_ := Az (blk_below (g := gb186) (o := .cells #[.slice none 0 0, .slice none 0 0, .int .i64 0, .slice none 0 0] 28 (0, 0)) (by refine ms ?_; refine blk_far ?_ NB186_197.out _; refine ms ?_; refine blk_far ?_ NB186_197.out _; refine ms ?_; refine blk_far ?_ NB186_197.out _; refine ms ?_; refine blk_far ?_ NB186_197.out _; refine ms ?_; exact BK186.out) hb); have n5_ := Az (blk_below (g := gb197) (o := .cells #[.slice Ao14 t187.length co14, .slice Ao18 t190.length co18, .int .i64 t193, .slice Ao19 t194.length co19] 28 (0, 0)) (by refine ms ?_; refine blk_put (cs := #[.slice Ao14 t187.length co14, .slice Ao18 t190.length co18, .int .i64 t193, .slice none 0 0]) ?_ 3 _ rfl; refine ms ?_; refine blk_put (cs := #[.slice Ao14 t187.length co14, .slice Ao18 t190.length co18, .int .i64 0, .slice none 0 0]) ?_ 2 _ rfl; refine ms ?_; refine blk_put (cs := #[.slice Ao14 t187.length co14, .slice none 0 0, .int .i64 0, .slice none 0 0]) ?_ 1 _ rfl; refine ms ?_; refine blk_put (cs := #[.slice none 0 0, .slice none 0 0, .int .i64 0, .slice none 0 0]) ?_ 0 _ rfl; refine ms ?_; exact BK197.out) hb); have n6_ := Az (below_step (mb HB) hb); clear HO189 HO192 HO196 BK185 BK186 BK197 HB; have HO189 := n0_; have HO192 := n1_; have HO196 := n2_; have BK185 := n3_; have BK186 := n4_; have BK197 := n5_; have HB := n6_; clear n0_ n1_ n2_ n3_ n4_ n5_ n6_; (try clear hb); (try clear hb2); (try clear hk); (try clear hi)) | (go_at_call 50; (with_reducible refine (impl_Aligned.calls a2 a3 true _ A22.out).mono ?_); rintro e w' ⟨rfl, ⟨nd, rfl⟩⟩))
          go_meet
          case rel => exact ⟨_, (false), (by first | rfl | (simp; done) | (simp [*]; done)), H', ⟨by first | omega | exact Nat.le_refl _⟩, ⟨mr HO189⟩, ⟨mr HO192⟩, ⟨mr HO196⟩, ⟨mz BK185⟩, ⟨mz BK186⟩, ⟨mz BK197⟩, ⟨mb HB⟩⟩
      · replace c23 := Bool.eq_false_iff.mpr c23
        subst c23
        have H1 : (impl_ModelDo.j0 k a1 a2 a3 a4 true l0_0 l0_1 a0_2 l0_3 t187 t190 t193 t194) = some (r1, r2, r3, r4, r5, r6) := by rw [if_neg (show ¬ (false = true) by decide)] at H; exact H
        clear H
        have H := H1
        clear H1
        have H' := Aside0.mk H
        clear H
        have hnb34 := NB185_186.out
        have hnc34 := NB186_185.out
        have hnb35 := NB185_197.out
        have hnc35 := NB197_185.out
        have hcz36_0 := bz0 BK185
        have hcz36_1 := bz1 BK185
        have hcz36_2 := bz2 BK185
        have hcz36_3 := bz3 BK185
        have hfz36_0 := bf BK185 0
        have hfz36_1 := bf BK185 1
        have hfz36_2 := bf BK185 2
        have hfz36_3 := bf BK185 3
        go_wp2_with (first | ((with_reducible refine gate_callee (f := 18) rfl ?_); refine goesL_ (some 19) rfl rfl Try.func18 (by kernel_rfl) rfl #[.agg #[.slice A0_0 l0_0.length c0_0, .slice A0_1 l0_1.length c0_1, .int .i64 a0_2, .slice A0_3 l0_3.length c0_3]] rfl ml ?_; (with_reducible refine (impl_ModelOk.calls k _ _ l0_0 _ _ l0_1 a0_2 _ _ l0_3 true _ ?side1 ?side2 ?side3 ?side4 ?side5 ?side6 A20.out).mono ?_); (case side1 => exact Kd.C_below HR0_0.out (mb HB)); (case side2 => exact HC0_0.out); (case side3 => exact Kd.C_below HR0_1.out (mb HB)); (case side4 => exact HC0_1.out); (case side5 => exact Kd.C_below HR0_3.out (mb HB)); (case side6 => exact HC0_3.out); rintro e w37 ⟨rfl, hb⟩; refine ⟨_, rfl, ?_⟩; have n0_ := Az (Kd.R_below (by (with_reducible repeat (first | apply Kd.R_alloc | apply Kd.R_drewN | apply Kd.R_drew)); exact (Kd.R_mono (Kd.R_far (Kd.R_far (Kd.R_far (Kd.R_far (Kd.R_types HO189.out BK197.out (by decide)) (fun _ hk => hk.2) _) (fun _ hk => hk.2) _) (fun _ hk => hk.2) _) (fun _ hk => hk.2) _) (fun _ h_ => h_.1))) hb); have n1_ := Az (Kd.R_below (by (with_reducible repeat (first | apply Kd.R_alloc | apply Kd.R_drewN | apply Kd.R_drew)); exact (Kd.R_mono (Kd.R_far (Kd.R_far (Kd.R_far (Kd.R_far (Kd.R_types HO192.out BK197.out (by decide)) (fun _ hk => hk.2) _) (fun _ hk => hk.2) _) (fun _ hk => hk.2) _) (fun _ hk => hk.2) _) (fun _ h_ => h_.1))) hb); have n2_ := Az (Kd.R_below (by (with_reducible repeat (first | apply Kd.R_alloc | apply Kd.R_drewN | apply Kd.R_drew)); exact (Kd.R_mono (Kd.R_far (Kd.R_far (Kd.R_far (Kd.R_far (Kd.R_types HO196.out BK197.out (by decide)) (fun _ hk => hk.2) _) (fun _ hk => hk.2) _) (fun _ hk => hk.2) _) (fun _ hk => hk.2) _) (fun _ h_ => h_.1))) hb); have n3_ := Az (blk_below (g := gb185) (o := .cells #[.slice A0_0 l0_0.length c0_0, .slice A0_1 l0_1.length c0_1, .int .i64 a0_2, .slice A0_3 l0_3.length c0_3] 28 (0, 0)) (by refine ms ?_; refine blk_far ?_ NB185_197.out _; refine ms ?_; refine blk_far ?_ NB185_197.out _; refine ms ?_; refine blk_far ?_ NB185_197.out _; refine ms ?_; refine blk_far ?_ NB185_197.out _; refine ms ?_; exact BK185.out) hb); have n4_ := Az (blk_below (g := gb186) (o := .cells #[.slice none 0 0, .slice none 0 0, .int .i64 0, .slice none 0 0] 28 (0, 0)) (by refine ms ?_; refine blk_far ?_ NB186_197.out _; refine ms ?_; refine blk_far ?_ NB186_197.out _; refine ms ?_; refine blk_far ?_ NB186_197.out _; refine ms ?_; refine blk_far ?_ NB186_197.out _; refine ms ?_; exact BK186.out) hb); have n5_ := Az (blk_below (g := gb197) (o := .cells #[.slice Ao14 t187.length co14, .slice Ao18 t190.length co18, .int .i64 t193, .slice Ao19 t194.length co19] 28 (0, 0)) (by refine ms ?_; refine blk_put (cs := #[.slice Ao14 t187.length co14, .slice Ao18 t190.length co18, .int .i64 t193, .slice none 0 0]) ?_ 3 _ rfl; refine ms ?_; refine blk_put (cs := #[.slice Ao14 t187.length co14, .slice Ao18 t190.length co18, .int .i64 0, .slice none 0 0]) ?_ 2 _ rfl; refine ms ?_; refine blk_put (cs := #[.slice Ao14 t187.length co14, .slice none 0 0, .int .i64 0, .slice none 0 0]) ?_ 1 _ rfl; refine ms ?_; refine blk_put (cs := #[.slice none 0 0, .slice none 0 0, .int .i64 0, .slice none 0 0]) ?_ 0 _ rfl; refine ms ?_; exact BK197.out) hb); have n6_ := Az (below_step (mb HB) hb); clear HO189 HO192 HO196 BK185 BK186 BK197 HB; have HO189 := n0_; have HO192 := n1_; have HO196 := n2_; have BK185 := n3_; have BK186 := n4_; have BK197 := n5_; have HB := n6_; clear n0_ n1_ n2_ n3_ n4_ n5_ n6_; (try clear hb); (try clear hb2); (try clear hk); (try clear hi)) | (go_at_call 50; (with_reducible refine (impl_Aligned.calls a2 a3 false _ A22.out).mono ?_); rintro e w' ⟨rfl, ⟨nd, rfl⟩⟩))
        go_meet
        case rel => exact ⟨_, (true), (by first | rfl | (simp; done) | (simp [*]; done)), H', ⟨by first | omega | exact Nat.le_refl _⟩, ⟨mr HO189⟩, ⟨mr HO192⟩, ⟨mr HO196⟩, ⟨mz BK185⟩, ⟨mz BK186⟩, ⟨mz BK197⟩, ⟨mb HB⟩⟩
    · replace c21 := Bool.eq_false_iff.mpr c21
      subst c21
      have H1 : (impl_ModelDo.j0 k a1 a2 a3 a4 true l0_0 l0_1 a0_2 l0_3 t187 t190 t193 t194) = some (r1, r2, r3, r4, r5, r6) := by rw [if_neg (show ¬ (false = true) by decide)] at H; exact H
      clear H
      have H := H1
      clear H1
      have H' := Aside0.mk H
      clear H
      have hnb38 := NB185_186.out
      have hnc38 := NB186_185.out
      have hnb39 := NB185_197.out
      have hnc39 := NB197_185.out
      have hcz40_0 := bz0 BK185
      have hcz40_1 := bz1 BK185
      have hcz40_2 := bz2 BK185
      have hcz40_3 := bz3 BK185
      have hfz40_0 := bf BK185 0
      have hfz40_1 := bf BK185 1
      have hfz40_2 := bf BK185 2
      have hfz40_3 := bf BK185 3
      go_wp2_with (first | ((with_reducible refine gate_callee (f := 18) rfl ?_); refine goesL_ (some 19) rfl rfl Try.func18 (by kernel_rfl) rfl #[.agg #[.slice A0_0 l0_0.length c0_0, .slice A0_1 l0_1.length c0_1, .int .i64 a0_2, .slice A0_3 l0_3.length c0_3]] rfl ml ?_; (with_reducible refine (impl_ModelOk.calls k _ _ l0_0 _ _ l0_1 a0_2 _ _ l0_3 false _ ?side1 ?side2 ?side3 ?side4 ?side5 ?side6 A20.out).mono ?_); (case side1 => exact Kd.C_below HR0_0.out (mb HB)); (case side2 => exact HC0_0.out); (case side3 => exact Kd.C_below HR0_1.out (mb HB)); (case side4 => exact HC0_1.out); (case side5 => exact Kd.C_below HR0_3.out (mb HB)); (case side6 => exact HC0_3.out); rintro e w41 ⟨rfl, hb⟩; refine ⟨_, rfl, ?_⟩; have n0_ := Az (Kd.R_below (by (with_reducible repeat (first | apply Kd.R_alloc | apply Kd.R_drewN | apply Kd.R_drew)); exact (Kd.R_mono (Kd.R_far (Kd.R_far (Kd.R_far (Kd.R_far (Kd.R_types HO189.out BK197.out (by decide)) (fun _ hk => hk.2) _) (fun _ hk => hk.2) _) (fun _ hk => hk.2) _) (fun _ hk => hk.2) _) (fun _ h_ => h_.1))) hb); have n1_ := Az (Kd.R_below (by (with_reducible repeat (first | apply Kd.R_alloc | apply Kd.R_drewN | apply Kd.R_drew)); exact (Kd.R_mono (Kd.R_far (Kd.R_far (Kd.R_far (Kd.R_far (Kd.R_types HO192.out BK197.out (by decide)) (fun _ hk => hk.2) _) (fun _ hk => hk.2) _) (fun _ hk => hk.2) _) (fun _ hk => hk.2) _) (fun _ h_ => h_.1))) hb); have n2_ := Az (Kd.R_below (by (with_reducible repeat (first | apply Kd.R_alloc | apply Kd.R_drewN | apply Kd.R_drew)); exact (Kd.R_mono (Kd.R_far (Kd.R_far (Kd.R_far (Kd.R_far (Kd.R_types HO196.out BK197.out (by decide)) (fun _ hk => hk.2) _) (fun _ hk => hk.2) _) (fun _ hk => hk.2) _) (fun _ hk => hk.2) _) (fun _ h_ => h_.1))) hb); have n3_ := Az (blk_below (g := gb185) (o := .cells #[.slice A0_0 l0_0.length c0_0, .slice A0_1 l0_1.length c0_1, .int .i64 a0_2, .slice A0_3 l0_3.length c0_3] 28 (0, 0)) (by refine ms ?_; refine blk_far ?_ NB185_197.out _; refine ms ?_; refine blk_far ?_ NB185_197.out _; refine ms ?_; refine blk_far ?_ NB185_197.out _; refine ms ?_; refine blk_far ?_ NB185_197.out _; refine ms ?_; exact BK185.out) hb); have n4_ := Az (blk_below (g := gb186) (o := .cells #[.slice none 0 0, .slice none 0 0, .int .i64 0, .slice none 0 0] 28 (0, 0)) (by refine ms ?_; refine blk_far ?_ NB186_197.out _; refine ms ?_; refine blk_far ?_ NB186_197.out _; refine ms ?_; refine blk_far ?_ NB186_197.out _; refine ms ?_; refine blk_far ?_ NB186_197.out _; refine ms ?_; exact BK186.out) hb); have n5_ := Az (blk_below (g := gb197) (o := .cells #[.slice Ao14 t187.length co14, .slice Ao18 t190.length co18, .int .i64 t193, .slice Ao19 t194.length co19] 28 (0, 0)) (by refine ms ?_; refine blk_put (cs := #[.slice Ao14 t187.length co14, .slice Ao18 t190.length co18, .int .i64 t193, .slice none 0 0]) ?_ 3 _ rfl; refine ms ?_; refine blk_put (cs := #[.slice Ao14 t187.length co14, .slice Ao18 t190.length co18, .int .i64 0, .slice none 0 0]) ?_ 2 _ rfl; refine ms ?_; refine blk_put (cs := #[.slice Ao14 t187.length co14, .slice none 0 0, .int .i64 0, .slice none 0 0]) ?_ 1 _ rfl; refine ms ?_; refine blk_put (cs := #[.slice none 0 0, .slice none 0 0, .int .i64 0, .slice none 0 0]) ?_ 0 _ rfl; refine ms ?_; exact BK197.out) hb); have n6_ := Az (below_step (mb HB) hb); clear HO189 HO192 HO196 BK185 BK186 BK197 HB; have HO189 := n0_; have HO192 := n1_; have HO196 := n2_; have BK185 := n3_; have BK186 := n4_; have BK197 := n5_; have HB := n6_; clear n0_ n1_ n2_ n3_ n4_ n5_ n6_; (try clear hb); (try clear hb2); (try clear hk); (try clear hi)))
      go_meet
      case rel => exact ⟨_, (true), (by first | rfl | (simp; done) | (simp [*]; done)), H', ⟨by first | omega | exact Nat.le_refl _⟩, ⟨mr HO189⟩, ⟨mr HO192⟩, ⟨mr HO196⟩, ⟨mz BK185⟩, ⟨mz BK186⟩, ⟨mz BK197⟩, ⟨mb HB⟩⟩
  case rest =>
    clear HC7
    try clear hcz11_0
    try clear hcz11_1
    try clear hcz11_2
    try clear hcz11_3
    try clear hcz17_0
    try clear hcz17_1
    try clear hcz17_2
    try clear hcz17_3
    try clear hfz11_0
    try clear hfz11_1
    try clear hfz11_2
    try clear hfz11_3
    try clear hfz17_0
    try clear hfz17_1
    try clear hfz17_2
    try clear hfz17_3
    obtain ⟨kq, x35_6, rfl, HA, HJ6, HO_198000, HO_198001, HO_198003, BK185, BK186, BK197, HB⟩ := hcut
    cases kq with
    | zero => exact absurd HA.out (by simp [impl_ModelDo.j0])
    | succ kj6 =>
      have H := HA.out
      clear HA
      simp only [impl_ModelDo.j0] at H
      by_cases c42 : x35_6 = true
      · subst c42
        have H1 : (some (t187, t190, t193, t194, 0, 1)) = some (r1, r2, r3, r4, r5, r6) := by rw [if_pos rfl] at H; exact H
        clear H
        have H := H1
        clear H1
        simp only [Option.some.injEq, Prod.mk.injEq] at H
        obtain ⟨rfl, rfl, rfl, rfl, rfl, rfl⟩ := H
        have hnb43 := NB197_185.out
        have hnc43 := NB185_197.out
        have hnb44 := NB197_186.out
        have hnc44 := NB186_197.out
        have hcz45_0 := bz0 BK197
        have hcz45_1 := bz1 BK197
        have hcz45_2 := bz2 BK197
        have hcz45_3 := bz3 BK197
        have hfz45_0 := bf BK197 0
        have hfz45_1 := bf BK197 1
        have hfz45_2 := bf BK197 2
        have hfz45_3 := bf BK197 3
        have hnb46 := NB186_185.out
        have hnc46 := NB185_186.out
        have hcz47_0 := bz0 BK186
        have hcz47_1 := bz1 BK186
        have hcz47_2 := bz2 BK186
        have hcz47_3 := bz3 BK186
        have hfz47_0 := bf BK186 0
        have hfz47_1 := bf BK186 1
        have hfz47_2 := bf BK186 2
        have hfz47_3 := bf BK186 3
        go_wp2
        refine bodyPost_ret (results_ctt rfl _ _ gb186 28 #[.slice Ao14 t187.length co14, .slice Ao18 t190.length co18, .int .i64 t193, .slice Ao19 t194.length co19] (0, 0) _ rfl (by refine ms ?_; refine blk_put (cs := #[.slice Ao14 t187.length co14, .slice Ao18 t190.length co18, .int .i64 t193, .slice none 0 0]) ?_ 3 _ rfl; refine ms ?_; refine blk_put (cs := #[.slice Ao14 t187.length co14, .slice Ao18 t190.length co18, .int .i64 0, .slice none 0 0]) ?_ 2 _ rfl; refine ms ?_; refine blk_put (cs := #[.slice Ao14 t187.length co14, .slice none 0 0, .int .i64 0, .slice none 0 0]) ?_ 1 _ rfl; refine ms ?_; refine blk_put (cs := #[.slice none 0 0, .slice none 0 0, .int .i64 0, .slice none 0 0]) ?_ 0 _ rfl; refine ms ?_; exact BK186.out) Try.underlying28 rfl (by kernel_rfl)) rfl ?_
        exact ⟨_, _, _, by first | rfl | (simp [errW_none, errW_some] <;> rfl) | (simp [*, errW_none, errW_some] <;> rfl), by (with_reducible repeat (first | apply Kd.R_alloc | apply Kd.R_drewN | apply Kd.R_drew)); exact Kd.R_mono (Kd.R_far (Kd.R_far (Kd.R_far (Kd.R_far (Kd.R_types HO_198000.out BK186.out (by decide)) (fun _ hk => hk.2) _) (fun _ hk => hk.2) _) (fun _ hk => hk.2) _) (fun _ hk => hk.2) _) (fun _ hk => ⟨hk.1.1, hk.1.2⟩), by (with_reducible repeat (first | apply Kd.R_alloc | apply Kd.R_drewN | apply Kd.R_drew)); exact Kd.R_mono (Kd.R_far (Kd.R_far (Kd.R_far (Kd.R_far (Kd.R_types HO_198001.out BK186.out (by decide)) (fun _ hk => hk.2) _) (fun _ hk => hk.2) _) (fun _ hk => hk.2) _) (fun _ hk => hk.2) _) (fun _ hk => ⟨hk.1.1, hk.1.2⟩), by (with_reducible repeat (first | apply Kd.R_alloc | apply Kd.R_drewN | apply Kd.R_drew)); exact Kd.R_mono (Kd.R_far (Kd.R_far (Kd.R_far (Kd.R_far (Kd.R_types HO_198003.out BK186.out (by decide)) (fun _ hk => hk.2) _) (fun _ hk => hk.2) _) (fun _ hk => hk.2) _) (fun _ hk => hk.2) _) (fun _ hk => ⟨hk.1.1, hk.1.2⟩), mb HB⟩
      · replace c42 := Bool.eq_false_iff.mpr c42
        subst c42
        have H1 : ((impl_SlaveOf.f kj6 a2).bind fun t201 => (if t201 = 3 then (impl_ModelDo.j1 kj6 a1 a2 a3 a4 false t201 (a3 == 2) l0_0 l0_1 a0_2 l0_3 t187 t190 t193 t194) else (impl_ModelDo.j1 kj6 a1 a2 a3 a4 false t201 false l0_0 l0_1 a0_2 l0_3 t187 t190 t193 t194))) = some (r1, r2, r3, r4, r5, r6) := by rw [if_neg (show ¬ (false = true) by decide)] at H; exact H
        clear H
        have H := H1
        clear H1
        replace H := Option.bind_eq_some_iff.mp H
        obtain ⟨t201, A480, H⟩ := H
        replace H : (if t201 = 3 then (impl_ModelDo.j1 kj6 a1 a2 a3 a4 false t201 (a3 == 2) l0_0 l0_1 a0_2 l0_3 t187 t190 t193 t194) else (impl_ModelDo.j1 kj6 a1 a2 a3 a4 false t201 false l0_0 l0_1 a0_2 l0_3 t187 t190 t193 t194)) = some (r1, r2, r3, r4, r5, r6) := H
        have A48 := Aside0.mk A480
        clear A480
        have HC49 := Aside0.mk H
        clear H
        go_upto_region 6 with (first | ((with_reducible refine gate_callee (f := 52) rfl ?_); refine goesL_ (some 38) rfl rfl Try.func52 (by kernel_rfl) rfl #[.int .i64 a2] rfl ml ?_; (with_reducible refine (impl_SlaveOf.calls kj6 a2 t201 _ A48.out).mono ?_); rintro e w' ⟨rfl, ⟨nd, rfl⟩⟩; refine ⟨_, rfl, ?_⟩))
        (try simp only [Act.put, List.setIfInBounds_toArray, List.set_cons_zero, List.set_cons_succ])
        go_cut [39] (fun v39 wc => ∃ (kq : Nat) (x39_48 : Bool), v39 = .bool x39_48 ∧ Aside0 (impl_ModelDo.j1 kq a1 a2 a3 a4 false t201 x39_48 l0_0 l0_1 a0_2 l0_3 t187 t190 t193 t194 = some (r1, r2, r3, r4, r5, r6)) ∧ Aside0 (kq ≤ kj6) ∧ Aside0 (Kd.R (Kd.int .i64) 3 wc w.heap.size (fun k_ => some k_ ≠ ((.slice Ao18 t190.length co18) : Value).ownBlock ∧ some k_ ≠ ((.slice Ao19 t194.length co19) : Value).ownBlock) (.slice Ao14 t187.length co14) t187) ∧ Aside0 (Kd.R (Kd.int .i64) 3 wc w.heap.size (fun k_ => some k_ ≠ ((.slice Ao14 t187.length co14) : Value).ownBlock ∧ some k_ ≠ ((.slice Ao19 t194.length co19) : Value).ownBlock) (.slice Ao18 t190.length co18) t190) ∧ Aside0 (Kd.R (Kd.int .i64) 3 wc w.heap.size (fun k_ => some k_ ≠ ((.slice Ao14 t187.length co14) : Value).ownBlock ∧ some k_ ≠ ((.slice Ao18 t190.length co18) : Value).ownBlock) (.slice Ao19 t194.length co19) t194) ∧ Aside0 (wc.heap[gb185]? = some (.cells #[(.slice A0_0 l0_0.length c0_0), (.slice A0_1 l0_1.length c0_1), .int .i64 a0_2, (.slice A0_3 l0_3.length c0_3)] 28 (0, 0))) ∧ Aside0 (wc.heap[gb186]? = some (.cells #[(.slice none 0 0), (.slice none 0 0), .int .i64 0, (.slice none 0 0)] 28 (0, 0))) ∧ Aside0 (wc.heap[gb197]? = some (.cells #[(.slice Ao14 t187.length co14), (.slice Ao18 t190.length co18), .int .i64 t193, (.slice Ao19 t194.length co19)] 28 (0, 0))) ∧ Aside0 (Below w.heap.size w wc))
        case first =>
          have H := HC49.out
          clear HC49
          by_cases c50 : t201 = 3
          · rw [if_pos c50] at H
            have c50b0 : (t201 == 3) = true := beq_iff_eq.mpr c50
            have c50b1 : (t201 != 3) = false := bne_eq_false_iff_eq.mpr c50
            clear c50
            (first | rw [c50b0] | (simp only [i64_w, i32_w]; rw [c50b0]) | skip)
            have H' := Aside0.mk H
            clear H
            go_wp2
            go_meet
            case rel => exact ⟨_, ((a3 == 2)), (by first | rfl | (simp; done) | (simp [*]; done)), H', ⟨by have := HJ6.out; first | omega | exact Nat.le_refl _⟩, ⟨mr HO_198000⟩, ⟨mr HO_198001⟩, ⟨mr HO_198003⟩, ⟨mz BK185⟩, ⟨mz BK186⟩, ⟨mz BK197⟩, ⟨mb HB⟩⟩
          · rw [if_neg c50] at H
            have c50b0 : (t201 == 3) = false := beq_eq_false_iff_ne.mpr c50
            have c50b1 : (t201 != 3) = true := bne_iff_ne.mpr c50
            (first | rw [c50b0] | (simp only [i64_w, i32_w]; rw [c50b0]) | skip)
            have H' := Aside0.mk H
            clear H
            go_wp2
            go_meet
            case rel => exact ⟨_, (false), (by first | rfl | (simp; done) | (simp [*]; done)), H', ⟨by have := HJ6.out; first | omega | exact Nat.le_refl _⟩, ⟨mr HO_198000⟩, ⟨mr HO_198001⟩, ⟨mr HO_198003⟩, ⟨mz BK185⟩, ⟨mz BK186⟩, ⟨mz BK197⟩, ⟨mb HB⟩⟩
        case rest =>
          clear HC49
          try clear c42
          try clear hcz11_0
          try clear hcz11_1
          try clear hcz11_2
          try clear hcz11_3
          try clear hcz17_0
          try clear hcz17_1
          try clear hcz17_2
          try clear hcz17_3
          try clear hfz11_0
          try clear hfz11_1
          try clear hfz11_2
          try clear hfz11_3
          try clear hfz17_0
          try clear hfz17_1
          try clear hfz17_2
          try clear hfz17_3
          obtain ⟨kq, x39_48, rfl, HA, HJ48, HO_198000, HO_198001, HO_198003, BK185, BK186, BK197, HB⟩ := hcut
          cases kq with
          | zero => exact absurd HA.out (by simp [impl_ModelDo.j1])
          | succ kj48 =>
            have H := HA.out
            clear HA
            simp only [impl_ModelDo.j1] at H
            by_cases c51 : x39_48 = true
            · subst c51
              have H1 : ((impl_DevDo.f kj48 l0_1 a0_2 l0_3 a1 (wrap64 (a2 - 192)) a4).bind fun bt202 => (if bt202.2.2.2.2 = true then (some (t187, bt202.1, bt202.2.1, bt202.2.2.1, bt202.2.2.2.1, 0)) else ((impl_ownModel.f l0_0 l0_1 a0_2 l0_3).bind fun bt211 => (some (bt211.1, bt211.2.1, bt211.2.2.1, bt211.2.2.2, 0, 1))))) = some (r1, r2, r3, r4, r5, r6) := by rw [if_pos rfl] at H; exact H
              clear H
              have H := H1
              clear H1
              replace H := Option.bind_eq_some_iff.mp H
              obtain ⟨⟨t202, t205, t206, t209, t210⟩, A520, H⟩ := H
              replace H : (if t210 = true then (some (t187, t202, t205, t206, t209, 0)) else ((impl_ownModel.f l0_0 l0_1 a0_2 l0_3).bind fun bt211 => (some (bt211.1, bt211.2.1, bt211.2.2.1, bt211.2.2.2, 0, 1)))) = some (r1, r2, r3, r4, r5, r6) := H
              have A52 := Aside0.mk A520
              clear A520
              by_cases c53 : t210 = true
              · subst c53
                have H1 : (some (t187, t202, t205, t206, t209, 0)) = some (r1, r2, r3, r4, r5, r6) := by rw [if_pos rfl] at H; exact H
                clear H
                have H := H1
                clear H1
                simp only [Option.some.injEq, Prod.mk.injEq] at H
                obtain ⟨rfl, rfl, rfl, rfl, rfl, rfl⟩ := H
                have hnb54 := NB185_186.out
                have hnc54 := NB186_185.out
                have hnb55 := NB185_197.out
                have hnc55 := NB197_185.out
                have hcz56_0 := bz0 BK185
                have hcz56_1 := bz1 BK185
                have hcz56_2 := bz2 BK185
                have hcz56_3 := bz3 BK185
                have hfz56_0 := bf BK185 0
                have hfz56_1 := bf BK185 1
                have hfz56_2 := bf BK185 2
                have hfz56_3 := bf BK185 3
                go_wp2_with (first | ((with_reducible refine gate_callee (f := 41) rfl ?_); refine goesL_ (some 53) rfl rfl Try.func41 (by kernel_rfl) rfl #[.agg #[.slice A0_1 l0_1.length c0_1, .int .i64 a0_2, .slice A0_3 l0_3.length c0_3], .bool a1, .int .i64 (wrap64 (a2 - 192)), .int .i64 a4] rfl ml ?_; (with_reducible refine (impl_DevDo.calls kj48 _ _ l0_1 a0_2 _ _ l0_3 a1 (wrap64 (a2 - 192)) a4 t202 t205 t206 t209 true _ ?side1 ?side2 ?side3 ?side4 A52.out).mono ?_); (case side1 => exact mc (Kd.C_below HR0_1.out HB.out)); (case side2 => exact HC0_1.out); (case side3 => exact mc (Kd.C_below HR0_3.out HB.out)); (case side4 => exact HC0_3.out); rintro e w57 ⟨v203, v207, rfl, ho0, ho1, hb⟩; refine ⟨_, rfl, ?_⟩; have n0_ := Az (Kd.R_mono (Kd.R_told (Kd.R_told (Kd.R_old (mr HO_198000) hb) (Kd.R_base ho0)) (Kd.R_base ho1)) (fun _ h_ => h_.1)); have n1_ := Az (Kd.R_mono (Kd.R_told (Kd.R_told (Kd.R_old (mr HO_198001) hb) (Kd.R_base ho0)) (Kd.R_base ho1)) (fun _ h_ => h_.1)); have n2_ := Az (Kd.R_mono (Kd.R_told (Kd.R_told (Kd.R_old (mr HO_198003) hb) (Kd.R_base ho0)) (Kd.R_base ho1)) (fun _ h_ => h_.1)); have n3_ := Az (Kd.R_lower (Kd.R_new' (Kd.R_new' (Kd.R_new' ho0 (Kd.R_lt (mr HO_198000))) (Kd.R_lt (mr HO_198001))) (Kd.R_lt (mr HO_198003))) (below_size (mb HB))); have n4_ := Az (Kd.R_lower (Kd.R_new' (Kd.R_new' (Kd.R_new' ho1 (Kd.R_lt (mr HO_198000))) (Kd.R_lt (mr HO_198001))) (Kd.R_lt (mr HO_198003))) (below_size (mb HB))); have n5_ := Az (blk_below (mz BK185) hb); have n6_ := Az (blk_below (mz BK186) hb); have n7_ := Az (blk_below (mz BK197) hb); have n8_ := Az (below_step (mb HB) hb); clear HO_198000 HO_198001 HO_198003 BK185 BK186 BK197 HB; have HO_198000 := n0_; have HO_198001 := n1_; have HO_198003 := n2_; have HO204 := n3_; have HO208 := n4_; have BK185 := n5_; have BK186 := n6_; have BK197 := n7_; have HB := n8_; clear n0_ n1_ n2_ n3_ n4_ n5_ n6_ n7_ n8_; (try clear hb); (try clear hb2); (try clear hk); (try clear hi); (try clear ho0); (try clear ho1); obtain ⟨Ao58, co58, eo58⟩ := Kd.R_slice HO204.out; subst eo58; have hnb59 := NB197_186.out; have hnc59 := NB186_197.out; have hcz60_0 := bz0 BK197; have hcz60_1 := bz1 BK197; have hcz60_2 := bz2 BK197; have hcz60_3 := bz3 BK197; have hfz60_0 := bf BK197 0; have hfz60_1 := bf BK197 1; have hfz60_2 := bf BK197 2; have hfz60_3 := bf BK197 3; obtain ⟨Ao61, co61, eo61⟩ := Kd.R_slice HO208.out; subst eo61; have hcz62_0 := bz0 BK186; have hcz62_1 := bz1 BK186; have hcz62_2 := bz2 BK186; have hcz62_3 := bz3 BK186; have hfz62_0 := bf BK186 0; have hfz62_1 := bf BK186 1; have hfz62_2 := bf BK186 2; have hfz62_3 := bf BK186 3))
                refine bodyPost_ret (results_ctt rfl _ _ gb186 28 #[.slice Ao14 t187.length co14, .slice Ao58 t202.length co58, .int .i64 t205, .slice Ao61 t206.length co61] (0, 0) _ rfl (by refine ms ?_; refine blk_put (cs := #[.slice Ao14 t187.length co14, .slice Ao58 t202.length co58, .int .i64 t205, .slice none 0 0]) ?_ 3 _ rfl; refine ms ?_; refine blk_put (cs := #[.slice Ao14 t187.length co14, .slice Ao58 t202.length co58, .int .i64 0, .slice none 0 0]) ?_ 2 _ rfl; refine ms ?_; refine blk_put (cs := #[.slice Ao14 t187.length co14, .slice none 0 0, .int .i64 0, .slice none 0 0]) ?_ 1 _ rfl; refine ms ?_; refine blk_put (cs := #[.slice none 0 0, .slice none 0 0, .int .i64 0, .slice none 0 0]) ?_ 0 _ rfl; refine ms ?_; refine blk_far ?_ NB186_197.out _; refine ms ?_; refine blk_far ?_ NB186_197.out _; refine ms ?_; refine blk_far ?_ NB186_197.out _; refine ms ?_; exact BK186.out) Try.underlying28 rfl (by kernel_rfl)) rfl ?_
                exact ⟨_, _, _, by first | rfl | (simp [errW_none, errW_some] <;> rfl) | (simp [*, errW_none, errW_some] <;> rfl), by (with_reducible repeat (first | apply Kd.R_alloc | apply Kd.R_drewN | apply Kd.R_drew)); exact Kd.R_mono (Kd.R_far (Kd.R_far (Kd.R_far (Kd.R_far (Kd.R_far (Kd.R_far (Kd.R_far (Kd.R_types (Kd.R_types HO_198000.out BK197.out (by decide)) BK186.out (by decide)) (fun _ hk => hk.1.2) _) (fun _ hk => hk.1.2) _) (fun _ hk => hk.1.2) _) (fun _ hk => hk.2) _) (fun _ hk => hk.2) _) (fun _ hk => hk.2) _) (fun _ hk => hk.2) _) (fun _ hk => ⟨hk.1.1.1.2, hk.1.1.2⟩), by (with_reducible repeat (first | apply Kd.R_alloc | apply Kd.R_drewN | apply Kd.R_drew)); exact Kd.R_mono (Kd.R_far (Kd.R_far (Kd.R_far (Kd.R_far (Kd.R_far (Kd.R_far (Kd.R_far (Kd.R_types (Kd.R_types HO204.out BK197.out (by decide)) BK186.out (by decide)) (fun _ hk => hk.1.2) _) (fun _ hk => hk.1.2) _) (fun _ hk => hk.1.2) _) (fun _ hk => hk.2) _) (fun _ hk => hk.2) _) (fun _ hk => hk.2) _) (fun _ hk => hk.2) _) (fun _ hk => ⟨hk.1.1.1.1.2, hk.1.1.1.1.1⟩), by (with_reducible repeat (first | apply Kd.R_alloc | apply Kd.R_drewN | apply Kd.R_drew)); exact Kd.R_mono (Kd.R_far (Kd.R_far (Kd.R_far (Kd.R_far (Kd.R_far (Kd.R_far (Kd.R_far (Kd.R_types (Kd.R_types HO208.out BK197.out (by decide)) BK186.out (by decide)) (fun _ hk => hk.1.2) _) (fun _ hk => hk.1.2) _) (fun _ hk => hk.1.2) _) (fun _ hk => hk.2) _) (fun _ hk => hk.2) _) (fun _ hk => hk.2) _) (fun _ hk => hk.2) _) (fun _ hk => ⟨hk.1.1.1.1.2, hk.1.1.1.1.1⟩), mb HB⟩
              · replace c53 := Bool.eq_false_iff.mpr c53
                subst c53
                have H1 : ((impl_ownModel.f l0_0 l0_1 a0_2 l0_3).bind fun bt211 => (some (bt211.1, bt211.2.1, bt211.2.2.1, bt211.2.2.2, 0, 1))) = some (r1, r2, r3, r4, r5, r6) := by rw [if_neg (show ¬ (false = true) by decide)] at H; exact H
                clear H
                have H := H1
                clear H1
                replace H := Option.bind_eq_some_iff.mp H
                obtain ⟨⟨t211, t214, t217, t218⟩, A630, H⟩ := H
                replace H : (some (t211, t214, t217, t218, 0, 1)) = some (r1, r2, r3, r4, r5, r6) := H
                have A63 := Aside0.mk A630
                clear A630
                simp only [Option.some.injEq, Prod.mk.injEq] at H
                obtain ⟨rfl, rfl, rfl, rfl, rfl, rfl⟩ := H
                have hnb64 := NB185_186.out
                have hnc64 := NB186_185.out
                have hnb65 := NB185_197.out
                have hnc65 := NB197_185.out
                have hcz66_0 := bz0 BK185
                have hcz66_1 := bz1 BK185
                have hcz66_2 := bz2 BK185
                have hcz66_3 := bz3 BK185
                have hfz66_0 := bf BK185 0
                have hfz66_1 := bf BK185 1
                have hfz66_2 := bf BK185 2
                have hfz66_3 := bf BK185 3
                go_wp2_with (first | ((with_reducible refine gate_callee (f := 41) rfl ?_); refine goesL_ (some 53) rfl rfl Try.func41 (by kernel_rfl) rfl #[.agg #[.slice A0_1 l0_1.length c0_1, .int .i64 a0_2, .slice A0_3 l0_3.length c0_3], .bool a1, .int .i64 (wrap64 (a2 - 192)), .int .i64 a4] rfl ml ?_; (with_reducible refine (impl_DevDo.calls kj48 _ _ l0_1 a0_2 _ _ l0_3 a1 (wrap64 (a2 - 192)) a4 t202 t205 t206 t209 false _ ?side1 ?side2 ?side3 ?side4 A52.out).mono ?_); (case side1 => exact mc (Kd.C_below HR0_1.out HB.out)); (case side2 => exact HC0_1.out); (case side3 => exact mc (Kd.C_below HR0_3.out HB.out)); (case side4 => exact HC0_3.out); rintro e w67 ⟨v203, v207, rfl, ho0, ho1, hb⟩; refine ⟨_, rfl, ?_⟩; have n0_ := Az (Kd.R_mono (Kd.R_told (Kd.R_told (Kd.R_old (mr HO_198000) hb) (Kd.R_base ho0)) (Kd.R_base ho1)) (fun _ h_ => h_.1)); have n1_ := Az (Kd.R_mono (Kd.R_told (Kd.R_told (Kd.R_old (mr HO_198001) hb) (Kd.R_base ho0)) (Kd.R_base ho1)) (fun _ h_ => h_.1)); have n2_ := Az (Kd.R_mono (Kd.R_told (Kd.R_told (Kd.R_old (mr HO_198003) hb) (Kd.R_base ho0)) (Kd.R_base ho1)) (fun _ h_ => h_.1)); have n3_ := Az (Kd.R_lower (Kd.R_new' (Kd.R_new' (Kd.R_new' ho0 (Kd.R_lt (mr HO_198000))) (Kd.R_lt (mr HO_198001))) (Kd.R_lt (mr HO_198003))) (below_size (mb HB))); have n4_ := Az (Kd.R_lower (Kd.R_new' (Kd.R_new' (Kd.R_new' ho1 (Kd.R_lt (mr HO_198000))) (Kd.R_lt (mr HO_198001))) (Kd.R_lt (mr HO_198003))) (below_size (mb HB))); have n5_ := Az (blk_below (mz BK185) hb); have n6_ := Az (blk_below (mz BK186) hb); have n7_ := Az (blk_below (mz BK197) hb); have n8_ := Az (below_step (mb HB) hb); clear HO_198000 HO_198001 HO_198003 BK185 BK186 BK197 HB; have HO_198000 := n0_; have HO_198001 := n1_; have HO_198003 := n2_; have HO204 := n3_; have HO208 := n4_; have BK185 := n5_; have BK186 := n6_; have BK197 := n7_; have HB := n8_; clear n0_ n1_ n2_ n3_ n4_ n5_ n6_ n7_ n8_; (try clear hb); (try clear hb2); (try clear hk); (try clear hi); (try clear ho0); (try clear ho1); obtain ⟨Ao68, co68, eo68⟩ := Kd.R_slice HO204.out; subst eo68; have hnb69 := NB197_186.out; have hnc69 := NB186_197.out; have hcz70_0 := bz0 BK197; have hcz70_1 := bz1 BK197; have hcz70_2 := bz2 BK197; have hcz70_3 := bz3 BK197; have hfz70_0 := bf BK197 0; have hfz70_1 := bf BK197 1; have hfz70_2 := bf BK197 2; have hfz70_3 := bf BK197 3; obtain ⟨Ao71, co71, eo71⟩ := Kd.R_slice HO208.out; subst eo71; have hcz72_0 := bz0 BK185; have hcz72_1 := bz1 BK185; have hcz72_2 := bz2 BK185; have hcz72_3 := bz3 BK185; have hfz72_0 := bf BK185 0; have hfz72_1 := bf BK185 1; have hfz72_2 := bf BK185 2; have hfz72_3 := bf BK185 3) | ((with_reducible refine gate_callee (f := 49) rfl ?_); refine goesL_ (some 87) rfl rfl Try.func49 (by kernel_rfl) rfl #[.agg #[.slice A0_0 l0_0.length c0_0, .slice A0_1 l0_1.length c0_1, .int .i64 a0_2, .slice A0_3 l0_3.length c0_3]] rfl ml ?_; (with_reducible refine (impl_ownModel.calls _ _ l0_0 _ _ l0_1 a0_2 _ _ l0_3 t211 t214 t217 t218 _ ?side1 ?side2 ?side3 ?side4 ?side5 ?side6 A63.out).mono ?_); (case side1 => exact Kd.C_below HR0_0.out (mb HB)); (case side2 => exact HC0_0.out); (case side3 => exact Kd.C_below HR0_1.out (mb HB)); (case side4 => exact HC0_1.out); (case side5 => exact Kd.C_below HR0_3.out (mb HB)); (case side6 => exact HC0_3.out); rintro e w73 ⟨v212, v215, v219, rfl, ho0, ho1, ho2, hb⟩; refine ⟨_, rfl, ?_⟩; have n0_ := Az (Kd.R_mono (Kd.R_told (Kd.R_told (Kd.R_told (Kd.R_old (by (with_reducible repeat (first | apply Kd.R_alloc | apply Kd.R_drewN | apply Kd.R_drew)); exact (Kd.R_mono (Kd.R_far (Kd.R_far (Kd.R_far (Kd.R_types HO_198000.out BK197.out (by decide)) (fun _ hk => hk.2) _) (fun _ hk => hk.2) _) (fun _ hk => hk.2) _) (fun _ h_ => h_.1))) hb) (Kd.R_base ho0)) (Kd.R_base ho1)) (Kd.R_base ho2)) (fun _ h_ => h_.1)); have n1_ := Az (Kd.R_mono (Kd.R_told (Kd.R_told (Kd.R_told (Kd.R_old (by (with_reducible repeat (first | apply Kd.R_alloc | apply Kd.R_drewN | apply Kd.R_drew)); exact (Kd.R_mono (Kd.R_far (Kd.R_far (Kd.R_far (Kd.R_types HO_198001.out BK197.out (by decide)) (fun _ hk => hk.2) _) (fun _ hk => hk.2) _) (fun _ hk => hk.2) _) (fun _ h_ => h_.1))) hb) (Kd.R_base ho0)) (Kd.R_base ho1)) (Kd.R_base ho2)) (fun _ h_ => h_.1)); have n2_ := Az (Kd.R_mono (Kd.R_told (Kd.R_told (Kd.R_told (Kd.R_old (by (with_reducible repeat (first | apply Kd.R_alloc | apply Kd.R_drewN | apply Kd.R_drew)); exact (Kd.R_mono (Kd.R_far (Kd.R_far (Kd.R_far (Kd.R_types HO_198003.out BK197.out (by decide)) (fun _ hk => hk.2) _) (fun _ hk => hk.2) _) (fun _ hk => hk.2) _) (fun _ h_ => h_.1))) hb) (Kd.R_base ho0)) (Kd.R_base ho1)) (Kd.R_base ho2)) (fun _ h_ => h_.1)); have n3_ := Az (Kd.R_mono (Kd.R_told (Kd.R_told (Kd.R_told (Kd.R_old (by (with_reducible repeat (first | apply Kd.R_alloc | apply Kd.R_drewN | apply Kd.R_drew)); exact (Kd.R_mono (Kd.R_far (Kd.R_far (Kd.R_far (Kd.R_types HO204.out BK197.out (by decide)) (fun _ hk => hk.2) _) (fun _ hk => hk.2) _) (fun _ hk => hk.2) _) (fun _ h_ => h_.1))) hb) (Kd.R_base ho0)) (Kd.R_base ho1)) (Kd.R_base ho2)) (fun _ h_ => h_.1)); have n4_ := Az (Kd.R_mono (Kd.R_told (Kd.R_told (Kd.R_told (Kd.R_old (by (with_reducible repeat (first | apply Kd.R_alloc | apply Kd.R_drewN | apply Kd.R_drew)); exact (Kd.R_mono (Kd.R_far (Kd.R_far (Kd.R_far (Kd.R_types HO208.out BK197.out (by decide)) (fun _ hk => hk.2) _) (fun _ hk => hk.2) _) (fun _ hk => hk.2) _) (fun _ h_ => h_.1))) hb) (Kd.R_base ho0)) (Kd.R_base ho1)) (Kd.R_base ho2)) (fun _ h_ => h_.1)); have n5_ := Az (Kd.R_lower (Kd.R_new' (Kd.R_new' (Kd.R_new' (Kd.R_new' (Kd.R_new' ho0 (Kd.R_lt (by (with_reducible repeat (first | apply Kd.R_alloc | apply Kd.R_drewN | apply Kd.R_drew)); exact (Kd.R_mono (Kd.R_far (Kd.R_far (Kd.R_far (Kd.R_types HO_198000.out BK197.out (by decide)) (fun _ hk => hk.2) _) (fun _ hk => hk.2) _) (fun _ hk => hk.2) _) (fun _ h_ => h_.1))))) (Kd.R_lt (by (with_reducible repeat (first | apply Kd.R_alloc | apply Kd.R_drewN | apply Kd.R_drew)); exact (Kd.R_mono (Kd.R_far (Kd.R_far (Kd.R_far (Kd.R_types HO_198001.out BK197.out (by decide)) (fun _ hk => hk.2) _) (fun _ hk => hk.2) _) (fun _ hk => hk.2) _) (fun _ h_ => h_.1))))) (Kd.R_lt (by (with_reducible repeat (first | apply Kd.R_alloc | apply Kd.R_drewN | apply Kd.R_drew)); exact (Kd.R_mono (Kd.R_far (Kd.R_far (Kd.R_far (Kd.R_types HO_198003.out BK197.out (by decide)) (fun _ hk => hk.2) _) (fun _ hk => hk.2) _) (fun _ hk => hk.2) _) (fun _ h_ => h_.1))))) (Kd.R_lt (by (with_reducible repeat (first | apply Kd.R_alloc | apply Kd.R_drewN | apply Kd.R_drew)); exact (Kd.R_mono (Kd.R_far (Kd.R_far (Kd.R_far (Kd.R_types HO204.out BK197.out (by decide)) (fun _ hk => hk.2) _) (fun _ hk => hk.2) _) (fun _ hk => hk.2) _) (fun _ h_ => h_.1))))) (Kd.R_lt (by (with_reducible repeat (first | apply Kd.R_alloc | apply Kd.R_drewN | apply Kd.R_drew)); exact (Kd.R_mono (Kd.R_far (Kd.R_far (Kd.R_far (Kd.R_types HO208.out BK197.out (by decide)) (fun _ hk => hk.2) _) (fun _ hk => hk.2) _) (fun _ hk => hk.2) _) (fun _ h_ => h_.1))))) (below_size (mb HB))); have n6_ := Az (Kd.R_lower (Kd.R_new' (Kd.R_new' (Kd.R_new' (Kd.R_new' (Kd.R_new' ho1 (Kd.R_lt (by (with_reducible repeat (first | apply Kd.R_alloc | apply Kd.R_drewN | apply Kd.R_drew)); exact (Kd.R_mono (Kd.R_far (Kd.R_far (Kd.R_far (Kd.R_types HO_198000.out BK197.out (by decide)) (fun _ hk => hk.2) _) (fun _ hk => hk.2) _) (fun _ hk => hk.2) _) (fun _ h_ => h_.1))))) (Kd.R_lt (by (with_reducible repeat (first | apply Kd.R_alloc | apply Kd.R_drewN | apply Kd.R_drew)); exact (Kd.R_mono (Kd.R_far (Kd.R_far (Kd.R_far (Kd.R_types HO_198001.out BK197.out (by decide)) (fun _ hk => hk.2) _) (fun _ hk => hk.2) _) (fun _ hk => hk.2) _) (fun _ h_ => h_.1))))) (Kd.R_lt (by (with_reducible repeat (first | apply Kd.R_alloc | apply Kd.R_drewN | apply Kd.R_drew)); exact (Kd.R_mono (Kd.R_far (Kd.R_far (Kd.R_far (Kd.R_types HO_198003.out BK197.out (by decide)) (fun _ hk => hk.2) _) (fun _ hk => hk.2) _) (fun _ hk => hk.2) _) (fun _ h_ => h_.1))))) (Kd.R_lt (by (with_reducible repeat (first | apply Kd.R_alloc | apply Kd.R_drewN | apply Kd.R_drew)); exact (Kd.R_mono (Kd.R_far (Kd.R_far (Kd.R_far (Kd.R_types HO204.out BK197.out (by decide)) (fun _ hk => hk.2) _) (fun _ hk => hk.2) _) (fun _ hk => hk.2) _) (fun _ h_ => h_.1))))) (Kd.R_lt (by (with_reducible repeat (first | apply Kd.R_alloc | apply Kd.R_drewN | apply Kd.R_drew)); exact (Kd.R_mono (Kd.R_far (Kd.R_far (Kd.R_far (Kd.R_types HO208.out BK197.out (by decide)) (fun _ hk => hk.2) _) (fun _ hk => hk.2) _) (fun _ hk => hk.2) _) (fun _ h_ => h_.1))))) (below_size (mb HB))); have n7_ := Az (Kd.R_lower (Kd.R_new' (Kd.R_new' (Kd.R_new' (Kd.R_new' (Kd.R_new' ho2 (Kd.R_lt (by (with_reducible repeat (first | apply Kd.R_alloc | apply Kd.R_drewN | apply Kd.R_drew)); exact (Kd.R_mono (Kd.R_far (Kd.R_far (Kd.R_far (Kd.R_types HO_198000.out BK197.out (by decide)) (fun _ hk => hk.2) _) (fun _ hk => hk.2) _) (fun _ hk => hk.2) _) (fun _ h_ => h_.1))))) (Kd.R_lt (by (with_reducible repeat (first | apply Kd.R_alloc | apply Kd.R_drewN | apply Kd.R_drew)); exact (Kd.R_mono (Kd.R_far (Kd.R_far (Kd.R_far (Kd.R_types HO_198001.out BK197.out (by decide)) (fun _ hk => hk.2) _) (fun _ hk => hk.2) _) (fun _ hk => hk.2) _) (fun _ h_ => h_.1))))) (Kd.R_lt (by (with_reducible repeat (first | apply Kd.R_alloc | apply Kd.R_drewN | apply Kd.R_drew)); exact (Kd.R_mono (Kd.R_far (Kd.R_far (Kd.R_far (Kd.R_types HO_198003.out BK197.out (by decide)) (fun _ hk => hk.2) _) (fun _ hk => hk.2) _) (fun _ hk => hk.2) _) (fun _ h_ => h_.1))))) (Kd.R_lt (by (with_reducible repeat (first | apply Kd.R_alloc | apply Kd.R_drewN | apply Kd.R_drew)); exact (Kd.R_mono (Kd.R_far (Kd.R_far (Kd.R_far (Kd.R_types HO204.out BK197.out (by decide)) (fun _ hk => hk.2) _) (fun _ hk => hk.2) _) (fun _ hk => hk.2) _) (fun _ h_ => h_.1))))) (Kd.R_lt (by (with_reducible repeat (first | apply Kd.R_alloc | apply Kd.R_drewN | apply Kd.R_drew)); exact (Kd.R_mono (Kd.R_far (Kd.R_far (Kd.R_far (Kd.R_types HO208.out BK197.out (by decide)) (fun _ hk => hk.2) _) (fun _ hk => hk.2) _) (fun _ hk => hk.2) _) (fun _ h_ => h_.1))))) (below_size (mb HB))); have n8_ := Az (blk_below (g := gb185) (o := .cells #[.slice A0_0 l0_0.length c0_0, .slice A0_1 l0_1.length c0_1, .int .i64 a0_2, .slice A0_3 l0_3.length c0_3] 28 (0, 0)) (by refine ms ?_; refine blk_far ?_ NB185_197.out _; refine ms ?_; refine blk_far ?_ NB185_197.out _; refine ms ?_; refine blk_far ?_ NB185_197.out _; refine ms ?_; exact BK185.out) hb); have n9_ := Az (blk_below (g := gb186) (o := .cells #[.slice none 0 0, .slice none 0 0, .int .i64 0, .slice none 0 0] 28 (0, 0)) (by refine ms ?_; refine blk_far ?_ NB186_197.out _; refine ms ?_; refine blk_far ?_ NB186_197.out _; refine ms ?_; refine blk_far ?_ NB186_197.out _; refine ms ?_; exact BK186.out) hb); have n10_ := Az (blk_below (g := gb197) (o := .cells #[.slice Ao14 t187.length co14, .slice Ao68 t202.length co68, .int .i64 t205, .slice Ao71 t206.length co71] 28 (0, 0)) (by refine ms ?_; refine blk_put (cs := #[.slice Ao14 t187.length co14, .slice Ao68 t202.length co68, .int .i64 t205, .slice Ao19 t194.length co19]) ?_ 3 _ rfl; refine ms ?_; refine blk_put (cs := #[.slice Ao14 t187.length co14, .slice Ao68 t202.length co68, .int .i64 t193, .slice Ao19 t194.length co19]) ?_ 2 _ rfl; refine ms ?_; refine blk_put (cs := #[.slice Ao14 t187.length co14, .slice Ao18 t190.length co18, .int .i64 t193, .slice Ao19 t194.length co19]) ?_ 1 _ rfl; refine ms ?_; exact BK197.out) hb); have n11_ := Az (below_step (mb HB) hb); clear HO_198000 HO_198001 HO_198003 HO204 HO208 BK185 BK186 BK197 HB; have HO_198000 := n0_; have HO_198001 := n1_; have HO_198003 := n2_; have HO204 := n3_; have HO208 := n4_; have HO213 := n5_; have HO216 := n6_; have HO220 := n7_; have BK185 := n8_; have BK186 := n9_; have BK197 := n10_; have HB := n11_; clear n0_ n1_ n2_ n3_ n4_ n5_ n6_ n7_ n8_ n9_ n10_ n11_; (try clear hb); (try clear hb2); (try clear hk); (try clear hi); (try clear ho0); (try clear ho1); (try clear ho2); obtain ⟨Ao74, co74, eo74⟩ := Kd.R_slice HO213.out; subst eo74; have hcz75_0 := bz0 BK186; have hcz75_1 := bz1 BK186; have hcz75_2 := bz2 BK186; have hcz75_3 := bz3 BK186; have hfz75_0 := bf BK186 0; have hfz75_1 := bf BK186 1; have hfz75_2 := bf BK186 2; have hfz75_3 := bf BK186 3; obtain ⟨Ao76, co76, eo76⟩ := Kd.R_slice HO216.out; subst eo76; obtain ⟨Ao77, co77, eo77⟩ := Kd.R_slice HO220.out; subst eo77))
                refine bodyPost_ret (results_ctt rfl _ _ gb186 28 #[.slice Ao74 t211.length co74, .slice Ao76 t214.length co76, .int .i64 t217, .slice Ao77 t218.length co77] (0, 0) _ rfl (by refine ms ?_; refine blk_put (cs := #[.slice Ao74 t211.length co74, .slice Ao76 t214.length co76, .int .i64 t217, .slice none 0 0]) ?_ 3 _ rfl; refine ms ?_; refine blk_put (cs := #[.slice Ao74 t211.length co74, .slice Ao76 t214.length co76, .int .i64 0, .slice none 0 0]) ?_ 2 _ rfl; refine ms ?_; refine blk_put (cs := #[.slice Ao74 t211.length co74, .slice none 0 0, .int .i64 0, .slice none 0 0]) ?_ 1 _ rfl; refine ms ?_; refine blk_put (cs := #[.slice none 0 0, .slice none 0 0, .int .i64 0, .slice none 0 0]) ?_ 0 _ rfl; refine ms ?_; exact BK186.out) Try.underlying28 rfl (by kernel_rfl)) rfl ?_
                exact ⟨_, _, _, by first | rfl | (simp [errW_none, errW_some] <;> rfl) | (simp [*, errW_none, errW_some] <;> rfl), by (with_reducible repeat (first | apply Kd.R_alloc | apply Kd.R_drewN | apply Kd.R_drew)); exact Kd.R_mono (Kd.R_far (Kd.R_far (Kd.R_far (Kd.R_far (Kd.R_types HO213.out BK186.out (by decide)) (fun _ hk => hk.2) _) (fun _ hk => hk.2) _) (fun _ hk => hk.2) _) (fun _ hk => hk.2) _) (fun _ hk => ⟨hk.1.1.1.1.1.1.1, hk.1.1.1.1.1.1.2⟩), by (with_reducible repeat (first | apply Kd.R_alloc | apply Kd.R_drewN | apply Kd.R_drew)); exact Kd.R_mono (Kd.R_far (Kd.R_far (Kd.R_far (Kd.R_far (Kd.R_types HO216.out BK186.out (by decide)) (fun _ hk => hk.2) _) (fun _ hk => hk.2) _) (fun _ hk => hk.2) _) (fun _ hk => hk.2) _) (fun _ hk => ⟨hk.1.1.1.1.1.1.1, hk.1.1.1.1.1.1.2⟩), by (with_reducible repeat (first | apply Kd.R_alloc | apply Kd.R_drewN | apply Kd.R_drew)); exact Kd.R_mono (Kd.R_far (Kd.R_far (Kd.R_far (Kd.R_far (Kd.R_types HO220.out BK186.out (by decide)) (fun _ hk => hk.2) _) (fun _ hk => hk.2) _) (fun _ hk => hk.2) _) (fun _ hk => hk.2) _) (fun _ hk => ⟨hk.1.1.1.1.1.1.1, hk.1.1.1.1.1.1.2⟩), mb HB⟩
            · replace c51 := Bool.eq_false_iff.mpr c51
              subst c51
              have H1 : (if t201 = 1 then (impl_ModelDo.j2 kj48 a1 a2 a3 a4 false true l0_0 l0_1 a0_2 l0_3 t187 t190 t193 t194) else (impl_ModelDo.j2 kj48 a1 a2 a3 a4 false (t201 == 2) l0_0 l0_1 a0_2 l0_3 t187 t190 t193 t194)) = some (r1, r2, r3, r4, r5, r6) := by rw [if_neg (show ¬ (false = true) by decide)] at H; exact H
              clear H
              have H := H1
              clear H1
              have HC78 := Aside0.mk H
              clear H
              go_upto_region 8 with (fail)
              go_cut [58] (fun v58 wc => ∃ (kq : Nat) (x58_77 : Bool), v58 = .bool x58_77 ∧ Aside0 (impl_ModelDo.j2 kq a1 a2 a3 a4 false x58_77 l0_0 l0_1 a0_2 l0_3 t187 t190 t193 t194 = some (r1, r2, r3, r4, r5, r6)) ∧ Aside0 (kq ≤ kj48) ∧ Aside0 (Kd.R (Kd.int .i64) 3 wc w.heap.size (fun k_ => some k_ ≠ ((.slice Ao18 t190.length co18) : Value).ownBlock ∧ some k_ ≠ ((.slice Ao19 t194.length co19) : Value).ownBlock) (.slice Ao14 t187.length co14) t187) ∧ Aside0 (Kd.R (Kd.int .i64) 3 wc w.heap.size (fun k_ => some k_ ≠ ((.slice Ao14 t187.length co14) : Value).ownBlock ∧ some k_ ≠ ((.slice Ao19 t194.length co19) : Value).ownBlock) (.slice Ao18 t190.length co18) t190) ∧ Aside0 (Kd.R (Kd.int .i64) 3 wc w.heap.size (fun k_ => some k_ ≠ ((.slice Ao14 t187.length co14) : Value).ownBlock ∧ some k_ ≠ ((.slice Ao18 t190.length co18) : Value).ownBlock) (.slice Ao19 t194.length co19) t194) ∧ Aside0 (wc.heap[gb185]? = some (.cells #[(.slice A0_0 l0_0.length c0_0), (.slice A0_1 l0_1.length c0_1), .int .i64 a0_2, (.slice A0_3 l0_3.length c0_3)] 28 (0, 0))) ∧ Aside0 (wc.heap[gb186]? = some (.cells #[(.slice none 0 0), (.slice none 0 0), .int .i64 0, (.slice none 0 0)] 28 (0, 0))) ∧ Aside0 (wc.heap[gb197]? = some (.cells #[(.slice Ao14 t187.length co14), (.slice Ao18 t190.length co18), .int .i64 t193, (.slice Ao19 t194.length co19)] 28 (0, 0))) ∧ Aside0 (Below w.heap.size w wc))
              case first =>
                have H := HC78.out
                clear HC78
                by_cases c79 : t201 = 1
                · rw [if_pos c79] at H
                  have c79b0 : (t201 == 1) = true := beq_iff_eq.mpr c79
                  have c79b1 : (t201 != 1) = false := bne_eq_false_iff_eq.mpr c79
                  clear c79
                  (first | rw [c79b0] | (simp only [i64_w, i32_w]; rw [c79b0]) | skip)
                  have H' := Aside0.mk H
                  clear H
                  go_wp2
                  go_meet
                  case rel => exact ⟨_, (true), (by first | rfl | (simp; done) | (simp [*]; done)), H', ⟨by have := HJ6.out; have := HJ48.out; first | omega | exact Nat.le_refl _⟩, ⟨mr HO_198000⟩, ⟨mr HO_198001⟩, ⟨mr HO_198003⟩, ⟨mz BK185⟩, ⟨mz BK186⟩, ⟨mz BK197⟩, ⟨mb HB⟩⟩
                · rw [if_neg c79] at H
                  have c79b0 : (t201 == 1) = false := beq_eq_false_iff_ne.mpr c79
                  have c79b1 : (t201 != 1) = true := bne_iff_ne.mpr c79
                  (first | rw [c79b0] | (simp only [i64_w, i32_w]; rw [c79b0]) | skip)
                  have H' := Aside0.mk H
                  clear H
                  go_wp2
                  go_meet
                  case rel => exact ⟨_, ((t201 == 2)), (by first | rfl | (simp; done) | (simp [*]; done)), H', ⟨by have := HJ6.out; have := HJ48.out; first | omega | exact Nat.le_refl _⟩, ⟨mr HO_198000⟩, ⟨mr HO_198001⟩, ⟨mr HO_198003⟩, ⟨mz BK185⟩, ⟨mz BK186⟩, ⟨mz BK197⟩, ⟨mb HB⟩⟩
              case rest =>
                clear HC78
                try clear c42
                try clear c51
                try clear hcz11_0
                try clear hcz11_1
                try clear hcz11_2
                try clear hcz11_3
                try clear hcz17_0
                try clear hcz17_1
                try clear hcz17_2
                try clear hcz17_3
                try clear hfz11_0
                try clear hfz11_1
                try clear hfz11_2
                try clear hfz11_3
                try clear hfz17_0
                try clear hfz17_1
                try clear hfz17_2
                try clear hfz17_3
                obtain ⟨kq, x58_77, rfl, HA, HJ77, HO_198000, HO_198001, HO_198003, BK185, BK186, BK197, HB⟩ := hcut
                cases kq with
                | zero => exact absurd HA.out (by simp [impl_ModelDo.j2])
                | succ kj77 =>
                  have H := HA.out
                  clear HA
                  simp only [impl_ModelDo.j2] at H
                  by_cases c80 : x58_77 = true
                  · subst c80
                    have H1 : (if a1 = true then ((impl_PutNum.f kj77 l0_0 a2 a3 a4).bind fun bt221 => (if bt221.2 = true then (some (bt221.1, t190, t193, t194, a4, 0)) else ((impl_ownModel.f l0_0 l0_1 a0_2 l0_3).bind fun bt225 => (some (bt225.1, bt225.2.1, bt225.2.2.1, bt225.2.2.2, 0, 1))))) else ((impl_GetNum.f kj77 l0_0 a2 a3).bind fun bt235 => (if bt235.2 = true then (some (t187, t190, t193, t194, bt235.1, 0)) else ((impl_ownModel.f l0_0 l0_1 a0_2 l0_3).bind fun bt237 => (some (bt237.1, bt237.2.1, bt237.2.2.1, bt237.2.2.2, 0, 1)))))) = some (r1, r2, r3, r4, r5, r6) := by rw [if_pos rfl] at H; exact H
                    clear H
                    have H := H1
                    clear H1
                    by_cases c81 : a1 = true
                    · subst c81
                      have H1 : ((impl_PutNum.f kj77 l0_0 a2 a3 a4).bind fun bt221 => (if bt221.2 = true then (some (bt221.1, t190, t193, t194, a4, 0)) else ((impl_ownModel.f l0_0 l0_1 a0_2 l0_3).bind fun bt225 => (some (bt225.1, bt225.2.1, bt225.2.2.1, bt225.2.2.2, 0, 1))))) = some (r1, r2, r3, r4, r5, r6) := by rw [if_pos rfl] at H; exact H
                      clear H
                      have H := H1
                      clear H1
                      replace H := Option.bind_eq_some_iff.mp H
                      obtain ⟨⟨t221, t222⟩, A820, H⟩ := H
                      replace H : (if t222 = true then (some (t221, t190, t193, t194, a4, 0)) else ((impl_ownModel.f l0_0 l0_1 a0_2 l0_3).bind fun bt225 => (some (bt225.1, bt225.2.1, bt225.2.2.1, bt225.2.2.2, 0, 1)))) = some (r1, r2, r3, r4, r5, r6) := H
                      have A82 := Aside0.mk A820
                      clear A820
                      by_cases c83 : t222 = true
                      · subst c83
                        have H1 : (some (t221, t190, t193, t194, a4, 0)) = some (r1, r2, r3, r4, r5, r6) := by rw [if_pos rfl] at H; exact H
                        clear H
                        have H := H1
                        clear H1
                        simp only [Option.some.injEq, Prod.mk.injEq] at H
                        obtain ⟨rfl, rfl, rfl, rfl, rfl, rfl⟩ := H
                        have hnb84 := NB185_186.out
                        have hnc84 := NB186_185.out
                        have hnb85 := NB185_197.out
                        have hnc85 := NB197_185.out
                        have hcz86_0 := bz0 BK185
                        have hcz86_1 := bz1 BK185
                        have hcz86_2 := bz2 BK185
                        have hcz86_3 := bz3 BK185
                        have hfz86_0 := bf BK185 0
                        have hfz86_1 := bf BK185 1
                        have hfz86_2 := bf BK185 2
                        have hfz86_3 := bf BK185 3
                        go_wp2_with (first | ((with_reducible refine gate_callee (f := 53) rfl ?_); refine goesL_ (some 72) rfl rfl Try.func53 (by kernel_rfl) rfl #[.slice A0_0 l0_0.length c0_0, .int .i64 a2, .int .i64 a3, .int .i64 a4] rfl ml ?_; (with_reducible refine (impl_PutNum.calls kj77 _ _ l0_0 a2 a3 a4 t221 true _ ?side1 ?side2 A82.out).mono ?_); (case side1 => exact mc (Kd.C_below HR0_0.out HB.out)); (case side2 => exact HC0_0.out); rintro e w87 ⟨v223, rfl, ho0, hb⟩; refine ⟨_, rfl, ?_⟩; have n0_ := Az (Kd.R_elder' (mr HO_198000) (Kd.R_base ho0) hb); have n1_ := Az (Kd.R_elder' (mr HO_198001) (Kd.R_base ho0) hb); have n2_ := Az (Kd.R_elder' (mr HO_198003) (Kd.R_base ho0) hb); have n3_ := Az (Kd.R_lower (Kd.R_new' (Kd.R_new' (Kd.R_new' ho0 (Kd.R_lt (mr HO_198000))) (Kd.R_lt (mr HO_198001))) (Kd.R_lt (mr HO_198003))) (below_size (mb HB))); have n4_ := Az (blk_below (mz BK185) hb); have n5_ := Az (blk_below (mz BK186) hb); have n6_ := Az (blk_below (mz BK197) hb); have n7_ := Az (below_step (mb HB) hb); clear HO_198000 HO_198001 HO_198003 BK185 BK186 BK197 HB; have HO_198000 := n0_; have HO_198001 := n1_; have HO_198003 := n2_; have HO224 := n3_; have BK185 := n4_; have BK186 := n5_; have BK197 := n6_; have HB := n7_; clear n0_ n1_ n2_ n3_ n4_ n5_ n6_ n7_; (try clear hb); (try clear hb2); (try clear hk); (try clear hi); (try clear ho0); obtain ⟨Ao88, co88, eo88⟩ := Kd.R_slice HO224.out; subst eo88; have hnb89 := NB197_186.out; have hnc89 := NB186_197.out; have hcz90_0 := bz0 BK197; have hcz90_1 := bz1 BK197; have hcz90_2 := bz2 BK197; have hcz90_3 := bz3 BK197; have hfz90_0 := bf BK197 0; have hfz90_1 := bf BK197 1; have hfz90_2 := bf BK197 2; have hfz90_3 := bf BK197 3; have hcz91_0 := bz0 BK186; have hcz91_1 := bz1 BK186; have hcz91_2 := bz2 BK186; have hcz91_3 := bz3 BK186; have hfz91_0 := bf BK186 0; have hfz91_1 := bf BK186 1; have hfz91_2 := bf BK186 2; have hfz91_3 := bf BK186 3))
                        refine bodyPost_ret (results_ctt rfl _ _ gb186 28 #[.slice Ao88 t221.length co88, .slice Ao18 t190.length co18, .int .i64 t193, .slice Ao19 t194.length co19] (0, 0) _ rfl (by refine ms ?_; refine blk_put (cs := #[.slice Ao88 t221.length co88, .slice Ao18 t190.length co18, .int .i64 t193, .slice none 0 0]) ?_ 3 _ rfl; refine ms ?_; refine blk_put (cs := #[.slice Ao88 t221.length co88, .slice Ao18 t190.length co18, .int .i64 0, .slice none 0 0]) ?_ 2 _ rfl; refine ms ?_; refine blk_put (cs := #[.slice Ao88 t221.length co88, .slice none 0 0, .int .i64 0, .slice none 0 0]) ?_ 1 _ rfl; refine ms ?_; refine blk_put (cs := #[.slice none 0 0, .slice none 0 0, .int .i64 0, .slice none 0 0]) ?_ 0 _ rfl; refine ms ?_; refine blk_far ?_ NB186_197.out _; refine ms ?_; exact BK186.out) Try.underlying28 rfl (by kernel_rfl)) rfl ?_
                        exact ⟨_, _, _, by first | rfl | (simp [errW_none, errW_some] <;> rfl) | (simp [*, errW_none, errW_some] <;> rfl), by (with_reducible repeat (first | apply Kd.R_alloc | apply Kd.R_drewN | apply Kd.R_drew)); exact Kd.R_mono (Kd.R_far (Kd.R_far (Kd.R_far (Kd.R_far (Kd.R_far (Kd.R_types (Kd.R_types HO224.out BK197.out (by decide)) BK186.out (by decide)) (fun _ hk => hk.1.2) _) (fun _ hk => hk.2) _) (fun _ hk => hk.2) _) (fun _ hk => hk.2) _) (fun _ hk => hk.2) _) (fun _ hk => ⟨hk.1.1.1.2, hk.1.1.2⟩), by (with_reducible repeat (first | apply Kd.R_alloc | apply Kd.R_drewN | apply Kd.R_drew)); exact Kd.R_mono (Kd.R_far (Kd.R_far (Kd.R_far (Kd.R_far (Kd.R_far (Kd.R_types (Kd.R_types HO_198001.out BK197.out (by decide)) BK186.out (by decide)) (fun _ hk => hk.1.2) _) (fun _ hk => hk.2) _) (fun _ hk => hk.2) _) (fun _ hk => hk.2) _) (fun _ hk => hk.2) _) (fun _ hk => ⟨hk.1.1.2, hk.1.1.1.2⟩), by (with_reducible repeat (first | apply Kd.R_alloc | apply Kd.R_drewN | apply Kd.R_drew)); exact Kd.R_mono (Kd.R_far (Kd.R_far (Kd.R_far (Kd.R_far (Kd.R_far (Kd.R_types (Kd.R_types HO_198003.out BK197.out (by decide)) BK186.out (by decide)) (fun _ hk => hk.1.2) _) (fun _ hk => hk.2) _) (fun _ hk => hk.2) _) (fun _ hk => hk.2) _) (fun _ hk => hk.2) _) (fun _ hk => ⟨hk.1.1.2, hk.1.1.1.2⟩), mb HB⟩
                      · replace c83 := Bool.eq_false_iff.mpr c83
                        subst c83
                        have H1 : ((impl_ownModel.f l0_0 l0_1 a0_2 l0_3).bind fun bt225 => (some (bt225.1, bt225.2.1, bt225.2.2.1, bt225.2.2.2, 0, 1))) = some (r1, r2, r3, r4, r5, r6) := by rw [if_neg (show ¬ (false = true) by decide)] at H; exact H
                        clear H
                        have H := H1
                        clear H1
                        replace H := Option.bind_eq_some_iff.mp H
                        obtain ⟨⟨t225, t228, t231, t232⟩, A920, H⟩ := H
                        replace H : (some (t225, t228, t231, t232, 0, 1)) = some (r1, r2, r3, r4, r5, r6) := H
                        have A92 := Aside0.mk A920
                        clear A920
                        simp only [Option.some.injEq, Prod.mk.injEq] at H
                        obtain ⟨rfl, rfl, rfl, rfl, rfl, rfl⟩ := H
                        have hnb93 := NB185_186.out
                        have hnc93 := NB186_185.out
                        have hnb94 := NB185_197.out
                        have hnc94 := NB197_185.out
                        have hcz95_0 := bz0 BK185
                        have hcz95_1 := bz1 BK185
                        have hcz95_2 := bz2 BK185
                        have hcz95_3 := bz3 BK185
                        have hfz95_0 := bf BK185 0
                        have hfz95_1 := bf BK185 1
                        have hfz95_2 := bf BK185 2
                        have hfz95_3 := bf BK185 3
                        go_wp2_with (first | ((with_reducible refine gate_callee (f := 53) rfl ?_); refine goesL_ (some 72) rfl rfl Try.func53 (by kernel_rfl) rfl #[.slice A0_0 l0_0.length c0_0, .int .i64 a2, .int .i64 a3, .int .i64 a4] rfl ml ?_; (with_reducible refine (impl_PutNum.calls kj77 _ _ l0_0 a2 a3 a4 t221 false _ ?side1 ?side2 A82.out).mono ?_); (case side1 => exact mc (Kd.C_below HR0_0.out HB.out)); (case side2 => exact HC0_0.out); rintro e w96 ⟨v223, rfl, ho0, hb⟩; refine ⟨_, rfl, ?_⟩; have n0_ := Az (Kd.R_elder' (mr HO_198000) (Kd.R_base ho0) hb); have n1_ := Az (Kd.R_elder' (mr HO_198001) (Kd.R_base ho0) hb); have n2_ := Az (Kd.R_elder' (mr HO_198003) (Kd.R_base ho0) hb); have n3_ := Az (Kd.R_lower (Kd.R_new' (Kd.R_new' (Kd.R_new' ho0 (Kd.R_lt (mr HO_198000))) (Kd.R_lt (mr HO_198001))) (Kd.R_lt (mr HO_198003))) (below_size (mb HB))); have n4_ := Az (blk_below (mz BK185) hb); have n5_ := Az (blk_below (mz BK186) hb); have n6_ := Az (blk_below (mz BK197) hb); have n7_ := Az (below_step (mb HB) hb); clear HO_198000 HO_198001 HO_198003 BK185 BK186 BK197 HB; have HO_198000 := n0_; have HO_198001 := n1_; have HO_198003 := n2_; have HO224 := n3_; have BK185 := n4_; have BK186 := n5_; have BK197 := n6_; have HB := n7_; clear n0_ n1_ n2_ n3_ n4_ n5_ n6_ n7_; (try clear hb); (try clear hb2); (try clear hk); (try clear hi); (try clear ho0); obtain ⟨Ao97, co97, eo97⟩ := Kd.R_slice HO224.out; subst eo97; have hnb98 := NB197_186.out; have hnc98 := NB186_197.out; have hcz99_0 := bz0 BK197; have hcz99_1 := bz1 BK197; have hcz99_2 := bz2 BK197; have hcz99_3 := bz3 BK197; have hfz99_0 := bf BK197 0; have hfz99_1 := bf BK197 1; have hfz99_2 := bf BK197 2; have hfz99_3 := bf BK197 3; have hcz100_0 := bz0 BK185; have hcz100_1 := bz1 BK185; have hcz100_2 := bz2 BK185; have hcz100_3 := bz3 BK185; have hfz100_0 := bf BK185 0; have hfz100_1 := bf BK185 1; have hfz100_2 := bf BK185 2; have hfz100_3 := bf BK185 3) | ((with_reducible refine gate_callee (f := 49) rfl ?_); refine goesL_ (some 87) rfl rfl Try.func49 (by kernel_rfl) rfl #[.agg #[.slice A0_0 l0_0.length c0_0, .slice A0_1 l0_1.length c0_1, .int .i64 a0_2, .slice A0_3 l0_3.length c0_3]] rfl ml ?_; (with_reducible refine (impl_ownModel.calls _ _ l0_0 _ _ l0_1 a0_2 _ _ l0_3 t225 t228 t231 t232 _ ?side1 ?side2 ?side3 ?side4 ?side5 ?side6 A92.out).mono ?_); (case side1 => exact Kd.C_below HR0_0.out (mb HB)); (case side2 => exact HC0_0.out); (case side3 => exact Kd.C_below HR0_1.out (mb HB)); (case side4 => exact HC0_1.out); (case side5 => exact Kd.C_below HR0_3.out (mb HB)); (case side6 => exact HC0_3.out); rintro e w101 ⟨v226, v229, v233, rfl, ho0, ho1, ho2, hb⟩; refine ⟨_, rfl, ?_⟩; have n0_ := Az (Kd.R_mono (Kd.R_told (Kd.R_told (Kd.R_told (Kd.R_old (by (with_reducible repeat (first | apply Kd.R_alloc | apply Kd.R_drewN | apply Kd.R_drew)); exact (Kd.R_mono (Kd.R_far (Kd.R_types HO_198000.out BK197.out (by decide)) (fun _ hk => hk.2) _) (fun _ h_ => h_.1))) hb) (Kd.R_base ho0)) (Kd.R_base ho1)) (Kd.R_base ho2)) (fun _ h_ => h_.1)); have n1_ := Az (Kd.R_mono (Kd.R_told (Kd.R_told (Kd.R_told (Kd.R_old (by (with_reducible repeat (first | apply Kd.R_alloc | apply Kd.R_drewN | apply Kd.R_drew)); exact (Kd.R_mono (Kd.R_far (Kd.R_types HO_198001.out BK197.out (by decide)) (fun _ hk => hk.2) _) (fun _ h_ => h_.1))) hb) (Kd.R_base ho0)) (Kd.R_base ho1)) (Kd.R_base ho2)) (fun _ h_ => h_.1)); have n2_ := Az (Kd.R_mono (Kd.R_told (Kd.R_told (Kd.R_told (Kd.R_old (by (with_reducible repeat (first | apply Kd.R_alloc | apply Kd.R_drewN | apply Kd.R_drew)); exact (Kd.R_mono (Kd.R_far (Kd.R_types HO_198003.out BK197.out (by decide)) (fun _ hk => hk.2) _) (fun _ h_ => h_.1))) hb) (Kd.R_base ho0)) (Kd.R_base ho1)) (Kd.R_base ho2)) (fun _ h_ => h_.1)); have n3_ := Az (Kd.R_mono (Kd.R_told (Kd.R_told (Kd.R_told (Kd.R_old (by (with_reducible repeat (first | apply Kd.R_alloc | apply Kd.R_drewN | apply Kd.R_drew)); exact (Kd.R_mono (Kd.R_far (Kd.R_types HO224.out BK197.out (by decide)) (fun _ hk => hk.2) _) (fun _ h_ => h_.1))) hb) (Kd.R_base ho0)) (Kd.R_base ho1)) (Kd.R_base ho2)) (fun _ h_ => h_.1)); have n4_ := Az (Kd.R_lower (Kd.R_new' (Kd.R_new' (Kd.R_new' (Kd.R_new' ho0 (Kd.R_lt (by (with_reducible repeat (first | apply Kd.R_alloc | apply Kd.R_drewN | apply Kd.R_drew)); exact (Kd.R_mono (Kd.R_far (Kd.R_types HO_198000.out BK197.out (by decide)) (fun _ hk => hk.2) _) (fun _ h_ => h_.1))))) (Kd.R_lt (by (with_reducible repeat (first | apply Kd.R_alloc | apply Kd.R_drewN | apply Kd.R_drew)); exact (Kd.R_mono (Kd.R_far (Kd.R_types HO_198001.out BK197.out (by decide)) (fun _ hk => hk.2) _) (fun _ h_ => h_.1))))) (Kd.R_lt (by (with_reducible repeat (first | apply Kd.R_alloc | apply Kd.R_drewN | apply Kd.R_drew)); exact (Kd.R_mono (Kd.R_far (Kd.R_types HO_198003.out BK197.out (by decide)) (fun _ hk => hk.2) _) (fun _ h_ => h_.1))))) (Kd.R_lt (by (with_reducible repeat (first | apply Kd.R_alloc | apply Kd.R_drewN | apply Kd.R_drew)); exact (Kd.R_mono (Kd.R_far (Kd.R_types HO224.out BK197.out (by decide)) (fun _ hk => hk.2) _) (fun _ h_ => h_.1))))) (below_size (mb HB))); have n5_ := Az (Kd.R_lower (Kd.R_new' (Kd.R_new' (Kd.R_new' (Kd.R_new' ho1 (Kd.R_lt (by (with_reducible repeat (first | apply Kd.R_alloc | apply Kd.R_drewN | apply Kd.R_drew)); exact (Kd.R_mono (Kd.R_far (Kd.R_types HO_198000.out BK197.out (by decide)) (fun _ hk => hk.2) _) (fun _ h_ => h_.1))))) (Kd.R_lt (by (with_reducible repeat (first | apply Kd.R_alloc | apply Kd.R_drewN | apply Kd.R_drew)); exact (Kd.R_mono (Kd.R_far (Kd.R_types HO_198001.out BK197.out (by decide)) (fun _ hk => hk.2) _) (fun _ h_ => h_.1))))) (Kd.R_lt (by (with_reducible repeat (first | apply Kd.R_alloc | apply Kd.R_drewN | apply Kd.R_drew)); exact (Kd.R_mono (Kd.R_far (Kd.R_types HO_198003.out BK197.out (by decide)) (fun _ hk => hk.2) _) (fun _ h_ => h_.1))))) (Kd.R_lt (by (with_reducible repeat (first | apply Kd.R_alloc | apply Kd.R_drewN | apply Kd.R_drew)); exact (Kd.R_mono (Kd.R_far (Kd.R_types HO224.out BK197.out (by decide)) (fun _ hk => hk.2) _) (fun _ h_ => h_.1))))) (below_size (mb HB))); have n6_ := Az (Kd.R_lower (Kd.R_new' (Kd.R_new' (Kd.R_new' (Kd.R_new' ho2 (Kd.R_lt (by (with_reducible repeat (first | apply Kd.R_alloc | apply Kd.R_drewN | apply Kd.R_drew)); exact (Kd.R_mono (Kd.R_far (Kd.R_types HO_198000.out BK197.out (by decide)) (fun _ hk => hk.2) _) (fun _ h_ => h_.1))))) (Kd.R_lt (by (with_reducible repeat (first | apply Kd.R_alloc | apply Kd.R_drewN | apply Kd.R_drew)); exact (Kd.R_mono (Kd.R_far (Kd.R_types HO_198001.out BK197.out (by decide)) (fun _ hk => hk.2) _) (fun _ h_ => h_.1))))) (Kd.R_lt (by (with_reducible repeat (first | apply Kd.R_alloc | apply Kd.R_drewN | apply Kd.R_drew)); exact (Kd.R_mono (Kd.R_far (Kd.R_types HO_198003.out BK197.out (by decide)) (fun _ hk => hk.2) _) (fun _ h_ => h_.1))))) (Kd.R_lt (by (with_reducible repeat (first | apply Kd.R_alloc | apply Kd.R_drewN | apply Kd.R_drew)); exact (Kd.R_mono (Kd.R_far (Kd.R_types HO224.out BK197.out (by decide)) (fun _ hk => hk.2) _) (fun _ h_ => h_.1))))) (below_size (mb HB))); have n7_ := Az (blk_below (g := gb185) (o := .cells #[.slice A0_0 l0_0.length c0_0, .slice A0_1 l0_1.length c0_1, .int .i64 a0_2, .slice A0_3 l0_3.length c0_3] 28 (0, 0)) (by refine ms ?_; refine blk_far ?_ NB185_197.out _; refine ms ?_; exact BK185.out) hb); have n8_ := Az (blk_below (g := gb186) (o := .cells #[.slice none 0 0, .slice none 0 0, .int .i64 0, .slice none 0 0] 28 (0, 0)) (by refine ms ?_; refine blk_far ?_ NB186_197.out _; refine ms ?_; exact BK186.out) hb); have n9_ := Az (blk_below (g := gb197) (o := .cells #[.slice Ao97 t221.length co97, .slice Ao18 t190.length co18, .int .i64 t193, .slice Ao19 t194.length co19] 28 (0, 0)) (by refine ms ?_; refine blk_put (cs := #[.slice Ao14 t187.length co14, .slice Ao18 t190.length co18, .int .i64 t193, .slice Ao19 t194.length co19]) ?_ 0 _ rfl; refine ms ?_; exact BK197.out) hb); have n10_ := Az (below_step (mb HB) hb); clear HO_198000 HO_198001 HO_198003 HO224 BK185 BK186 BK197 HB; have HO_198000 := n0_; have HO_198001 := n1_; have HO_198003 := n2_; have HO224 := n3_; have HO227 := n4_; have HO230 := n5_; have HO234 := n6_; have BK185 := n7_; have BK186 := n8_; have BK197 := n9_; have HB := n10_; clear n0_ n1_ n2_ n3_ n4_ n5_ n6_ n7_ n8_ n9_ n10_; (try clear hb); (try clear hb2); (try clear hk); (try clear hi); (try clear ho0); (try clear ho1); (try clear ho2); obtain ⟨Ao102, co102, eo102⟩ := Kd.R_slice HO227.out; subst eo102; have hcz103_0 := bz0 BK186; have hcz103_1 := bz1 BK186; have hcz103_2 := bz2 BK186; have hcz103_3 := bz3 BK186; have hfz103_0 := bf BK186 0; have hfz103_1 := bf BK186 1; have hfz103_2 := bf BK186 2; have hfz103_3 := bf BK186 3; obtain ⟨Ao104, co104, eo104⟩ := Kd.R_slice HO230.out; subst eo104; obtain ⟨Ao105, co105, eo105⟩ := Kd.R_slice HO234.out; subst eo105))
                        refine bodyPost_ret (results_ctt rfl _ _ gb186 28 #[.slice Ao102 t225.length co102, .slice Ao104 t228.length co104, .int .i64 t231, .slice Ao105 t232.length co105] (0, 0) _ rfl (by refine ms ?_; refine blk_put (cs := #[.slice Ao102 t225.length co102, .slice Ao104 t228.length co104, .int .i64 t231, .slice none 0 0]) ?_ 3 _ rfl; refine ms ?_; refine blk_put (cs := #[.slice Ao102 t225.length co102, .slice Ao104 t228.length co104, .int .i64 0, .slice none 0 0]) ?_ 2 _ rfl; refine ms ?_; refine blk_put (cs := #[.slice Ao102 t225.length co102, .slice none 0 0, .int .i64 0, .slice none 0 0]) ?_ 1 _ rfl; refine ms ?_; refine blk_put (cs := #[.slice none 0 0, .slice none 0 0, .int .i64 0, .slice none 0 0]) ?_ 0 _ rfl; refine ms ?_; exact BK186.out) Try.underlying28 rfl (by kernel_rfl)) rfl ?_
                        exact ⟨_, _, _, by first | rfl | (simp [errW_none, errW_some] <;> rfl) | (simp [*, errW_none, errW_some] <;> rfl), by (with_reducible repeat (first | apply Kd.R_alloc | apply Kd.R_drewN | apply Kd.R_drew)); exact Kd.R_mono (Kd.R_far (Kd.R_far (Kd.R_far (Kd.R_far (Kd.R_types HO227.out BK186.out (by decide)) (fun _ hk => hk.2) _) (fun _ hk => hk.2) _) (fun _ hk => hk.2) _) (fun _ hk => hk.2) _) (fun _ hk => ⟨hk.1.1.1.1.1.1, hk.1.1.1.1.1.2⟩), by (with_reducible repeat (first | apply Kd.R_alloc | apply Kd.R_drewN | apply Kd.R_drew)); exact Kd.R_mono (Kd.R_far (Kd.R_far (Kd.R_far (Kd.R_far (Kd.R_types HO230.out BK186.out (by decide)) (fun _ hk => hk.2) _) (fun _ hk => hk.2) _) (fun _ hk => hk.2) _) (fun _ hk => hk.2) _) (fun _ hk => ⟨hk.1.1.1.1.1.1, hk.1.1.1.1.1.2⟩), by (with_reducible repeat (first | apply Kd.R_alloc | apply Kd.R_drewN | apply Kd.R_drew)); exact Kd.R_mono (Kd.R_far (Kd.R_far (Kd.R_far (Kd.R_far (Kd.R_types HO234.out BK186.out (by decide)) (fun _ hk => hk.2) _) (fun _ hk => hk.2) _) (fun _ hk => hk.2) _) (fun _ hk => hk.2) _) (fun _ hk => ⟨hk.1.1.1.1.1.1, hk.1.1.1.1.1.2⟩), mb HB⟩
                    · replace c81 := Bool.eq_false_iff.mpr c81
                      subst c81
                      have H1 : ((impl_GetNum.f kj77 l0_0 a2 a3).bind fun bt235 => (if bt235.2 = true then (some (t187, t190, t193, t194, bt235.1, 0)) else ((impl_ownModel.f l0_0 l0_1 a0_2 l0_3).bind fun bt237 => (some (bt237.1, bt237.2.1, bt237.2.2.1, bt237.2.2.2, 0, 1))))) = some (r1, r2, r3, r4, r5, r6) := by rw [if_neg (show ¬ (false = true) by decide)] at H; exact H
                      clear H
                      have H := H1
                      clear H1
                      replace H := Option.bind_eq_some_iff.mp H
                      obtain ⟨⟨t235, t236⟩, A1060, H⟩ := H
                      replace H : (if t236 = true then (some (t187, t190, t193, t194, t235, 0)) else ((impl_ownModel.f l0_0 l0_1 a0_2 l0_3).bind fun bt237 => (some (bt237.1, bt237.2.1, bt237.2.2.1, bt237.2.2.2, 0, 1)))) = some (r1, r2, r3, r4, r5, r6) := H
                      have A106 := Aside0.mk A1060
                      clear A1060
                      by_cases c107 : t236 = true
                      · subst c107
                        have H1 : (some (t187, t190, t193, t194, t235, 0)) = some (r1, r2, r3, r4, r5, r6) := by rw [if_pos rfl] at H; exact H
                        clear H
                        have H := H1
                        clear H1
                        simp only [Option.some.injEq, Prod.mk.injEq] at H
                        obtain ⟨rfl, rfl, rfl, rfl, rfl, rfl⟩ := H
                        have hnb108 := NB185_186.out
                        have hnc108 := NB186_185.out
                        have hnb109 := NB185_197.out
                        have hnc109 := NB197_185.out
                        have hcz110_0 := bz0 BK185
                        have hcz110_1 := bz1 BK185
                        have hcz110_2 := bz2 BK185
                        have hcz110_3 := bz3 BK185
                        have hfz110_0 := bf BK185 0
                        have hfz110_1 := bf BK185 1
                        have hfz110_2 := bf BK185 2
                        have hfz110_3 := bf BK185 3
                        go_wp2_with (first | ((with_reducible refine gate_callee (f := 54) rfl ?_); refine goesL_ (some 81) rfl rfl Try.func54 (by kernel_rfl) rfl #[.slice A0_0 l0_0.length c0_0, .int .i64 a2, .int .i64 a3] rfl ml ?_; (with_reducible refine (impl_GetNum.calls kj77 _ _ l0_0 a2 a3 t235 true _ ?side1 ?side2 A106.out).mono ?_); (case side1 => exact mc (Kd.C_below HR0_0.out HB.out)); (case side2 => exact HC0_0.out); rintro e w' ⟨rfl, ⟨nd, rfl⟩⟩; refine ⟨_, rfl, ?_⟩; (try (rw [drewN_self wc]; generalize hq_ : World.drewN wc _ = wc; have n0_ : Aside0 (Kd.R (Kd.int .i64) 3 wc w.heap.size (fun k_ => some k_ ≠ (.slice Ao18 t190.length co18 : Value).ownBlock ∧ some k_ ≠ (.slice Ao19 t194.length co19 : Value).ownBlock) (.slice Ao14 t187.length co14) t187) := ⟨by rw [← hq_]; exact (mr HO_198000)⟩; have n1_ : Aside0 (Kd.R (Kd.int .i64) 3 wc w.heap.size (fun k_ => some k_ ≠ (.slice Ao14 t187.length co14 : Value).ownBlock ∧ some k_ ≠ (.slice Ao19 t194.length co19 : Value).ownBlock) (.slice Ao18 t190.length co18) t190) := ⟨by rw [← hq_]; exact (mr HO_198001)⟩; have n2_ : Aside0 (Kd.R (Kd.int .i64) 3 wc w.heap.size (fun k_ => some k_ ≠ (.slice Ao14 t187.length co14 : Value).ownBlock ∧ some k_ ≠ (.slice Ao18 t190.length co18 : Value).ownBlock) (.slice Ao19 t194.length co19) t194) := ⟨by rw [← hq_]; exact (mr HO_198003)⟩; have n3_ : Aside0 (wc.heap[gb185]? = some (.cells #[.slice A0_0 l0_0.length c0_0, .slice A0_1 l0_1.length c0_1, .int .i64 a0_2, .slice A0_3 l0_3.length c0_3] 28 (0, 0))) := ⟨by rw [← hq_]; exact (mz BK185)⟩; have n4_ : Aside0 (wc.heap[gb186]? = some (.cells #[.slice none 0 0, .slice none 0 0, .int .i64 0, .slice none 0 0] 28 (0, 0))) := ⟨by rw [← hq_]; exact (mz BK186)⟩; have n5_ : Aside0 (wc.heap[gb197]? = some (.cells #[.slice Ao14 t187.length co14, .slice Ao18 t190.length co18, .int .i64 t193, .slice Ao19 t194.length co19] 28 (0, 0))) := ⟨by rw [← hq_]; exact (mz BK197)⟩; have n6_ : Aside0 (Below w.heap.size w wc) := ⟨by rw [← hq_]; exact (mb HB)⟩; clear HO_198000 HO_198001 HO_198003 BK185 BK186 BK197 HB hq_; have HO_198000 := n0_; have HO_198001 := n1_; have HO_198003 := n2_; have BK185 := n3_; have BK186 := n4_; have BK197 := n5_; have HB := n6_; clear n0_ n1_ n2_ n3_ n4_ n5_ n6_)); have hnb111 := NB197_186.out; have hnc111 := NB186_197.out; have hcz112_0 := bz0 BK197; have hcz112_1 := bz1 BK197; have hcz112_2 := bz2 BK197; have hcz112_3 := bz3 BK197; have hfz112_0 := bf BK197 0; have hfz112_1 := bf BK197 1; have hfz112_2 := bf BK197 2; have hfz112_3 := bf BK197 3; have hcz113_0 := bz0 BK186; have hcz113_1 := bz1 BK186; have hcz113_2 := bz2 BK186; have hcz113_3 := bz3 BK186; have hfz113_0 := bf BK186 0; have hfz113_1 := bf BK186 1; have hfz113_2 := bf BK186 2; have hfz113_3 := bf BK186 3))
                        refine bodyPost_ret (results_ctt rfl _ _ gb186 28 #[.slice Ao14 t187.length co14, .slice Ao18 t190.length co18, .int .i64 t193, .slice Ao19 t194.length co19] (0, 0) _ rfl (by refine ms ?_; refine blk_put (cs := #[.slice Ao14 t187.length co14, .slice Ao18 t190.length co18, .int .i64 t193, .slice none 0 0]) ?_ 3 _ rfl; refine ms ?_; refine blk_put (cs := #[.slice Ao14 t187.length co14, .slice Ao18 t190.length co18, .int .i64 0, .slice none 0 0]) ?_ 2 _ rfl; refine ms ?_; refine blk_put (cs := #[.slice Ao14 t187.length co14, .slice none 0 0, .int .i64 0, .slice none 0 0]) ?_ 1 _ rfl; refine ms ?_; refine blk_put (cs := #[.slice none 0 0, .slice none 0 0, .int .i64 0, .slice none 0 0]) ?_ 0 _ rfl; refine ms ?_; exact BK186.out) Try.underlying28 rfl (by kernel_rfl)) rfl ?_
                        exact ⟨_, _, _, by first | rfl | (simp [errW_none, errW_some] <;> rfl) | (simp [*, errW_none, errW_some] <;> rfl), by (with_reducible repeat (first | apply Kd.R_alloc | apply Kd.R_drewN | apply Kd.R_drew)); exact Kd.R_mono (Kd.R_far (Kd.R_far (Kd.R_far (Kd.R_far (Kd.R_types HO_198000.out BK186.out (by decide)) (fun _ hk => hk.2) _) (fun _ hk => hk.2) _) (fun _ hk => hk.2) _) (fun _ hk => hk.2) _) (fun _ hk => ⟨hk.1.1, hk.1.2⟩), by (with_reducible repeat (first | apply Kd.R_alloc | apply Kd.R_drewN | apply Kd.R_drew)); exact Kd.R_mono (Kd.R_far (Kd.R_far (Kd.R_far (Kd.R_far (Kd.R_types HO_198001.out BK186.out (by decide)) (fun _ hk => hk.2) _) (fun _ hk => hk.2) _) (fun _ hk => hk.2) _) (fun _ hk => hk.2) _) (fun _ hk => ⟨hk.1.1, hk.1.2⟩), by (with_reducible repeat (first | apply Kd.R_alloc | apply Kd.R_drewN | apply Kd.R_drew)); exact Kd.R_mono (Kd.R_far (Kd.R_far (Kd.R_far (Kd.R_far (Kd.R_types HO_198003.out BK186.out (by decide)) (fun _ hk => hk.2) _) (fun _ hk => hk.2) _) (fun _ hk => hk.2) _) (fun _ hk => hk.2) _) (fun _ hk => ⟨hk.1.1, hk.1.2⟩), mb HB⟩
                      · replace c107 := Bool.eq_false_iff.mpr c107
                        subst c107
                        have H1 : ((impl_ownModel.f l0_0 l0_1 a0_2 l0_3).bind fun bt237 => (some (bt237.1, bt237.2.1, bt237.2.2.1, bt237.2.2.2, 0, 1))) = some (r1, r2, r3, r4, r5, r6) := by rw [if_neg (show ¬ (false = true) by decide)] at H; exact H
                        clear H
                        have H := H1
                        clear H1
                        replace H := Option.bind_eq_some_iff.mp H
                        obtain ⟨⟨t237, t240, t243, t244⟩, A1140, H⟩ := H
                        replace H : (some (t237, t240, t243, t244, 0, 1)) = some (r1, r2, r3, r4, r5, r6) := H
                        have A114 := Aside0.mk A1140
                        clear A1140
                        simp only [Option.some.injEq, Prod.mk.injEq] at H
                        obtain ⟨rfl, rfl, rfl, rfl, rfl, rfl⟩ := H
                        have hnb115 := NB185_186.out
                        have hnc115 := NB186_185.out
                        have hnb116 := NB185_197.out
                        have hnc116 := NB197_185.out
                        have hcz117_0 := bz0 BK185
                        have hcz117_1 := bz1 BK185
                        have hcz117_2 := bz2 BK185
                        have hcz117_3 := bz3 BK185
                        have hfz117_0 := bf BK185 0
                        have hfz117_1 := bf BK185 1
                        have hfz117_2 := bf BK185 2
                        have hfz117_3 := bf BK185 3
                        go_wp2_with (first | ((with_reducible refine gate_callee (f := 54) rfl ?_); refine goesL_ (some 81) rfl rfl Try.func54 (by kernel_rfl) rfl #[.slice A0_0 l0_0.length c0_0, .int .i64 a2, .int .i64 a3] rfl ml ?_; (with_reducible refine (impl_GetNum.calls kj77 _ _ l0_0 a2 a3 t235 false _ ?side1 ?side2 A106.out).mono ?_); (case side1 => exact mc (Kd.C_below HR0_0.out HB.out)); (case side2 => exact HC0_0.out); rintro e w' ⟨rfl, ⟨nd, rfl⟩⟩; refine ⟨_, rfl, ?_⟩; (try (rw [drewN_self wc]; generalize hq_ : World.drewN wc _ = wc; have n0_ : Aside0 (Kd.R (Kd.int .i64) 3 wc w.heap.size (fun k_ => some k_ ≠ (.slice Ao18 t190.length co18 : Value).ownBlock ∧ some k_ ≠ (.slice Ao19 t194.length co19 : Value).ownBlock) (.slice Ao14 t187.length co14) t187) := ⟨by rw [← hq_]; exact (mr HO_198000)⟩; have n1_ : Aside0 (Kd.R (Kd.int .i64) 3 wc w.heap.size (fun k_ => some k_ ≠ (.slice Ao14 t187.length co14 : Value).ownBlock ∧ some k_ ≠ (.slice Ao19 t194.length co19 : Value).ownBlock) (.slice Ao18 t190.length co18) t190) := ⟨by rw [← hq_]; exact (mr HO_198001)⟩; have n2_ : Aside0 (Kd.R (Kd.int .i64) 3 wc w.heap.size (fun k_ => some k_ ≠ (.slice Ao14 t187.length co14 : Value).ownBlock ∧ some k_ ≠ (.slice Ao18 t190.length co18 : Value).ownBlock) (.slice Ao19 t194.length co19) t194) := ⟨by rw [← hq_]; exact (mr HO_198003)⟩; have n3_ : Aside0 (wc.heap[gb185]? = some (.cells #[.slice A0_0 l0_0.length c0_0, .slice A0_1 l0_1.length c0_1, .int .i64 a0_2, .slice A0_3 l0_3.length c0_3] 28 (0, 0))) := ⟨by rw [← hq_]; exact (mz BK185)⟩; have n4_ : Aside0 (wc.heap[gb186]? = some (.cells #[.slice none 0 0, .slice none 0 0, .int .i64 0, .slice none 0 0] 28 (0, 0))) := ⟨by rw [← hq_]; exact (mz BK186)⟩; have n5_ : Aside0 (wc.heap[gb197]? = some (.cells #[.slice Ao14 t187.length co14, .slice Ao18 t190.length co18, .int .i64 t193, .slice Ao19 t194.length co19] 28 (0, 0))) := ⟨by rw [← hq_]; exact (mz BK197)⟩; have n6_ : Aside0 (Below w.heap.size w wc) := ⟨by rw [← hq_]; exact (mb HB)⟩; clear HO_198000 HO_198001 HO_198003 BK185 BK186 BK197 HB hq_; have HO_198000 := n0_; have HO_198001 := n1_; have HO_198003 := n2_; have BK185 := n3_; have BK186 := n4_; have BK197 := n5_; have HB := n6_; clear n0_ n1_ n2_ n3_ n4_ n5_ n6_)); have hcz117_0 := bz0 BK185; have hcz117_1 := bz1 BK185; have hcz117_2 := bz2 BK185; have hcz117_3 := bz3 BK185; have hfz117_0 := bf BK185 0; have hfz117_1 := bf BK185 1; have hfz117_2 := bf BK185 2; have hfz117_3 := bf BK185 3) | ((with_reducible refine gate_callee (f := 49) rfl ?_); refine goesL_ (some 87) rfl rfl Try.func49 (by kernel_rfl) rfl #[.agg #[.slice A0_0 l0_0.length c0_0, .slice A0_1 l0_1.length c0_1, .int .i64 a0_2, .slice A0_3 l0_3.length c0_3]] rfl ml ?_; (with_reducible refine (impl_ownModel.calls _ _ l0_0 _ _ l0_1 a0_2 _ _ l0_3 t237 t240 t243 t244 _ ?side1 ?side2 ?side3 ?side4 ?side5 ?side6 A114.out).mono ?_); (case side1 => exact mc (Kd.C_below HR0_0.out HB.out)); (case side2 => exact HC0_0.out); (case side3 => exact mc (Kd.C_below HR0_1.out HB.out)); (case side4 => exact HC0_1.out); (case side5 => exact mc (Kd.C_below HR0_3.out HB.out)); (case side6 => exact HC0_3.out); rintro e w118 ⟨v238, v241, v245, rfl, ho0, ho1, ho2, hb⟩; refine ⟨_, rfl, ?_⟩; have n0_ := Az (Kd.R_mono (Kd.R_told (Kd.R_told (Kd.R_told (Kd.R_old (mr HO_198000) hb) (Kd.R_base ho0)) (Kd.R_base ho1)) (Kd.R_base ho2)) (fun _ h_ => h_.1)); have n1_ := Az (Kd.R_mono (Kd.R_told (Kd.R_told (Kd.R_told (Kd.R_old (mr HO_198001) hb) (Kd.R_base ho0)) (Kd.R_base ho1)) (Kd.R_base ho2)) (fun _ h_ => h_.1)); have n2_ := Az (Kd.R_mono (Kd.R_told (Kd.R_told (Kd.R_told (Kd.R_old (mr HO_198003) hb) (Kd.R_base ho0)) (Kd.R_base ho1)) (Kd.R_base ho2)) (fun _ h_ => h_.1)); have n3_ := Az (Kd.R_lower (Kd.R_new' (Kd.R_new' (Kd.R_new' ho0 (Kd.R_lt (mr HO_198000))) (Kd.R_lt (mr HO_198001))) (Kd.R_lt (mr HO_198003))) (below_size (mb HB))); have n4_ := Az (Kd.R_lower (Kd.R_new' (Kd.R_new' (Kd.R_new' ho1 (Kd.R_lt (mr HO_198000))) (Kd.R_lt (mr HO_198001))) (Kd.R_lt (mr HO_198003))) (below_size (mb HB))); have n5_ := Az (Kd.R_lower (Kd.R_new' (Kd.R_new' (Kd.R_new' ho2 (Kd.R_lt (mr HO_198000))) (Kd.R_lt (mr HO_198001))) (Kd.R_lt (mr HO_198003))) (below_size (mb HB))); have n6_ := Az (blk_below (mz BK185) hb); have n7_ := Az (blk_below (mz BK186) hb); have n8_ := Az (blk_below (mz BK197) hb); have n9_ := Az (below_step (mb HB) hb); clear HO_198000 HO_198001 HO_198003 BK185 BK186 BK197 HB; have HO_198000 := n0_; have HO_198001 := n1_; have HO_198003 := n2_; have HO239 := n3_; have HO242 := n4_; have HO246 := n5_; have BK185 := n6_; have BK186 := n7_; have BK197 := n8_; have HB := n9_; clear n0_ n1_ n2_ n3_ n4_ n5_ n6_ n7_ n8_ n9_; (try clear hb); (try clear hb2); (try clear hk); (try clear hi); (try clear ho0); (try clear ho1); (try clear ho2); obtain ⟨Ao119, co119, eo119⟩ := Kd.R_slice HO239.out; subst eo119; have hnb120 := NB186_197.out; have hnc120 := NB197_186.out; have hcz121_0 := bz0 BK186; have hcz121_1 := bz1 BK186; have hcz121_2 := bz2 BK186; have hcz121_3 := bz3 BK186; have hfz121_0 := bf BK186 0; have hfz121_1 := bf BK186 1; have hfz121_2 := bf BK186 2; have hfz121_3 := bf BK186 3; obtain ⟨Ao122, co122, eo122⟩ := Kd.R_slice HO242.out; subst eo122; obtain ⟨Ao123, co123, eo123⟩ := Kd.R_slice HO246.out; subst eo123))
                        refine bodyPost_ret (results_ctt rfl _ _ gb186 28 #[.slice Ao119 t237.length co119, .slice Ao122 t240.length co122, .int .i64 t243, .slice Ao123 t244.length co123] (0, 0) _ rfl (by refine ms ?_; refine blk_put (cs := #[.slice Ao119 t237.length co119, .slice Ao122 t240.length co122, .int .i64 t243, .slice none 0 0]) ?_ 3 _ rfl; refine ms ?_; refine blk_put (cs := #[.slice Ao119 t237.length co119, .slice Ao122 t240.length co122, .int .i64 0, .slice none 0 0]) ?_ 2 _ rfl; refine ms ?_; refine blk_put (cs := #[.slice Ao119 t237.length co119, .slice none 0 0, .int .i64 0, .slice none 0 0]) ?_ 1 _ rfl; refine ms ?_; refine blk_put (cs := #[.slice none 0 0, .slice none 0 0, .int .i64 0, .slice none 0 0]) ?_ 0 _ rfl; refine ms ?_; exact BK186.out) Try.underlying28 rfl (by kernel_rfl)) rfl ?_
                        exact ⟨_, _, _, by first | rfl | (simp [errW_none, errW_some] <;> rfl) | (simp [*, errW_none, errW_some] <;> rfl), by (with_reducible repeat (first | apply Kd.R_alloc | apply Kd.R_drewN | apply Kd.R_drew)); exact Kd.R_mono (Kd.R_far (Kd.R_far (Kd.R_far (Kd.R_far (Kd.R_types HO239.out BK186.out (by decide)) (fun _ hk => hk.2) _) (fun _ hk => hk.2) _) (fun _ hk => hk.2) _) (fun _ hk => hk.2) _) (fun _ hk => ⟨hk.1.1.1.1.1, hk.1.1.1.1.2⟩), by (with_reducible repeat (first | apply Kd.R_alloc | apply Kd.R_drewN | apply Kd.R_drew)); exact Kd.R_mono (Kd.R_far (Kd.R_far (Kd.R_far (Kd.R_far (Kd.R_types HO242.out BK186.out (by decide)) (fun _ hk => hk.2) _) (fun _ hk => hk.2) _) (fun _ hk => hk.2) _) (fun _ hk => hk.2) _) (fun _ hk => ⟨hk.1.1.1.1.1, hk.1.1.1.1.2⟩), by (with_reducible repeat (first | apply Kd.R_alloc | apply Kd.R_drewN | apply Kd.R_drew)); exact Kd.R_mono (Kd.R_far (Kd.R_far (Kd.R_far (Kd.R_far (Kd.R_types HO246.out BK186.out (by decide)) (fun _ hk => hk.2) _) (fun _ hk => hk.2) _) (fun _ hk => hk.2) _) (fun _ hk => hk.2) _) (fun _ hk => ⟨hk.1.1.1.1.1, hk.1.1.1.1.2⟩), mb HB⟩
                  · replace c80 := Bool.eq_false_iff.mpr c80
                    subst c80
                    have H1 : (if false = true then (some (t187, t190, t193, t194, a4, 0)) else ((impl_ownModel.f l0_0 l0_1 a0_2 l0_3).bind fun bt247 => (some (bt247.1, bt247.2.1, bt247.2.2.1, bt247.2.2.2, 0, 1)))) = some (r1, r2, r3, r4, r5, r6) := by rw [if_neg (show ¬ (false = true) by decide)] at H; exact H
                    clear H
                    have H := H1
                    clear H1
                    by_cases c124 : false = true
                    · exact absurd c124 (by decide)
                    · clear c124
                      have H1 : ((impl_ownModel.f l0_0 l0_1 a0_2 l0_3).bind fun bt247 => (some (bt247.1, bt247.2.1, bt247.2.2.1, bt247.2.2.2, 0, 1))) = some (r1, r2, r3, r4, r5, r6) := by rw [if_neg (show ¬ (false = true) by decide)] at H; exact H
                      clear H
                      have H := H1
                      clear H1
                      replace H := Option.bind_eq_some_iff.mp H
                      obtain ⟨⟨t247, t250, t253, t254⟩, A1300, H⟩ := H
                      replace H : (some (t247, t250, t253, t254, 0, 1)) = some (r1, r2, r3, r4, r5, r6) := H
                      have A130 := Aside0.mk A1300
                      clear A1300
                      simp only [Option.some.injEq, Prod.mk.injEq] at H
                      obtain ⟨rfl, rfl, rfl, rfl, rfl, rfl⟩ := H
                      have hnb131 := NB185_186.out
                      have hnc131 := NB186_185.out
                      have hnb132 := NB185_197.out
                      have hnc132 := NB197_185.out
                      have hcz133_0 := bz0 BK185
                      have hcz133_1 := bz1 BK185
                      have hcz133_2 := bz2 BK185
                      have hcz133_3 := bz3 BK185
                      have hfz133_0 := bf BK185 0
                      have hfz133_1 := bf BK185 1
                      have hfz133_2 := bf BK185 2
                      have hfz133_3 := bf BK185 3
                      go_wp2_with (first | ((with_reducible refine gate_callee (f := 49) rfl ?_); refine goesL_ (some 87) rfl rfl Try.func49 (by kernel_rfl) rfl #[.agg #[.slice A0_0 l0_0.length c0_0, .slice A0_1 l0_1.length c0_1, .int .i64 a0_2, .slice A0_3 l0_3.length c0_3]] rfl ml ?_; (with_reducible refine (impl_ownModel.calls _ _ l0_0 _ _ l0_1 a0_2 _ _ l0_3 t247 t250 t253 t254 _ ?side1 ?side2 ?side3 ?side4 ?side5 ?side6 A130.out).mono ?_); (case side1 => exact mc (Kd.C_below HR0_0.out HB.out)); (case side2 => exact HC0_0.out); (case side3 => exact mc (Kd.C_below HR0_1.out HB.out)); (case side4 => exact HC0_1.out); (case side5 => exact mc (Kd.C_below HR0_3.out HB.out)); (case side6 => exact HC0_3.out); rintro e w134 ⟨v248, v251, v255, rfl, ho0, ho1, ho2, hb⟩; refine ⟨_, rfl, ?_⟩; have n0_ := Az (Kd.R_mono (Kd.R_told (Kd.R_told (Kd.R_told (Kd.R_old (mr HO_198000) hb) (Kd.R_base ho0)) (Kd.R_base ho1)) (Kd.R_base ho2)) (fun _ h_ => h_.1)); have n1_ := Az (Kd.R_mono (Kd.R_told (Kd.R_told (Kd.R_told (Kd.R_old (mr HO_198001) hb) (Kd.R_base ho0)) (Kd.R_base ho1)) (Kd.R_base ho2)) (fun _ h_ => h_.1)); have n2_ := Az (Kd.R_mono (Kd.R_told (Kd.R_told (Kd.R_told (Kd.R_old (mr HO_198003) hb) (Kd.R_base ho0)) (Kd.R_base ho1)) (Kd.R_base ho2)) (fun _ h_ => h_.1)); have n3_ := Az (Kd.R_lower (Kd.R_new' (Kd.R_new' (Kd.R_new' ho0 (Kd.R_lt (mr HO_198000))) (Kd.R_lt (mr HO_198001))) (Kd.R_lt (mr HO_198003))) (below_size (mb HB))); have n4_ := Az (Kd.R_lower (Kd.R_new' (Kd.R_new' (Kd.R_new' ho1 (Kd.R_lt (mr HO_198000))) (Kd.R_lt (mr HO_198001))) (Kd.R_lt (mr HO_198003))) (below_size (mb HB))); have n5_ := Az (Kd.R_lower (Kd.R_new' (Kd.R_new' (Kd.R_new' ho2 (Kd.R_lt (mr HO_198000))) (Kd.R_lt (mr HO_198001))) (Kd.R_lt (mr HO_198003))) (below_size (mb HB))); have n6_ := Az (blk_below (mz BK185) hb); have n7_ := Az (blk_below (mz BK186) hb); have n8_ := Az (blk_below (mz BK197) hb); have n9_ := Az (below_step (mb HB) hb); clear HO_198000 HO_198001 HO_198003 BK185 BK186 BK197 HB; have HO_198000 := n0_; have HO_198001 := n1_; have HO_198003 := n2_; have HO249 := n3_; have HO252 := n4_; have HO256 := n5_; have BK185 := n6_; have BK186 := n7_; have BK197 := n8_; have HB := n9_; clear n0_ n1_ n2_ n3_ n4_ n5_ n6_ n7_ n8_ n9_; (try clear hb); (try clear hb2); (try clear hk); (try clear hi); (try clear ho0); (try clear ho1); (try clear ho2); obtain ⟨Ao135, co135, eo135⟩ := Kd.R_slice HO249.out; subst eo135; have hnb136 := NB186_197.out; have hnc136 := NB197_186.out; have hcz137_0 := bz0 BK186; have hcz137_1 := bz1 BK186; have hcz137_2 := bz2 BK186; have hcz137_3 := bz3 BK186; have hfz137_0 := bf BK186 0; have hfz137_1 := bf BK186 1; have hfz137_2 := bf BK186 2; have hfz137_3 := bf BK186 3; obtain ⟨Ao138, co138, eo138⟩ := Kd.R_slice HO252.out; subst eo138; obtain ⟨Ao139, co139, eo139⟩ := Kd.R_slice HO256.out; subst eo139))
                      refine bodyPost_ret (results_ctt rfl _ _ gb186 28 #[.slice Ao135 t247.length co135, .slice Ao138 t250.length co138, .int .i64 t253, .slice Ao139 t254.length co139] (0, 0) _ rfl (by refine ms ?_; refine blk_put (cs := #[.slice Ao135 t247.length co135, .slice Ao138 t250.length co138, .int .i64 t253, .slice none 0 0]) ?_ 3 _ rfl; refine ms ?_; refine blk_put (cs := #[.slice Ao135 t247.length co135, .slice Ao138 t250.length co138, .int .i64 0, .slice none 0 0]) ?_ 2 _ rfl; refine ms ?_; refine blk_put (cs := #[.slice Ao135 t247.length co135, .slice none 0 0, .int .i64 0, .slice none 0 0]) ?_ 1 _ rfl; refine ms ?_; refine blk_put (cs := #[.slice none 0 0, .slice none 0 0, .int .i64 0, .slice none 0 0]) ?_ 0 _ rfl; refine ms ?_; exact BK186.out) Try.underlying28 rfl (by kernel_rfl)) rfl ?_
                      exact ⟨_, _, _, by first | rfl | (simp [errW_none, errW_some] <;> rfl) | (simp [*, errW_none, errW_some] <;> rfl), by (with_reducible repeat (first | apply Kd.R_alloc | apply Kd.R_drewN | apply Kd.R_drew)); exact Kd.R_mono (Kd.R_far (Kd.R_far (Kd.R_far (Kd.R_far (Kd.R_types HO249.out BK186.out (by decide)) (fun _ hk => hk.2) _) (fun _ hk => hk.2) _) (fun _ hk => hk.2) _) (fun _ hk => hk.2) _) (fun _ hk => ⟨hk.1.1.1.1.1, hk.1.1.1.1.2⟩), by (with_reducible repeat (first | apply Kd.R_alloc | apply Kd.R_drewN | apply Kd.R_drew)); exact Kd.R_mono (Kd.R_far (Kd.R_far (Kd.R_far (Kd.R_far (Kd.R_types HO252.out BK186.out (by decide)) (fun _ hk => hk.2) _) (fun _ hk => hk.2) _) (fun _ hk => hk.2) _) (fun _ hk => hk.2) _) (fun _ hk => ⟨hk.1.1.1.1.1, hk.1.1.1.1.2⟩), by (with_reducible repeat (first | apply Kd.R_alloc | apply Kd.R_drewN | apply Kd.R_drew)); exact Kd.R_mono (Kd.R_far (Kd.R_far (Kd.R_far (Kd.R_far (Kd.R_types HO256.out BK186.out (by decide)) (fun _ hk => hk.2) _) (fun _ hk => hk.2) _) (fun _ hk => hk.2) _) (fun _ hk => hk.2) _) (fun _ hk => ⟨hk.1.1.1.1.1, hk.1.1.1.1.2⟩), mb HB⟩

/-! ### spec_l1In: function 57 -/
def spec_l1In.f (a0 : Int) (a1 : Int) (a2 : Int) : Option (Bool) := if a0 ≥ a1 then (some (decide (a0 ≤ a2))) else (some false)
set_option maxHeartbeats 8000000 in
set_option maxRecDepth 100000 in
theorem spec_l1In.calls (a0 : Int) (a1 : Int) (a2 : Int) (r : Bool) (w : World) (h : spec_l1In.f a0 a1 a2 = some r) :
    Calls Try.prog 57 #[.int .i64 a0, .int .i64 a1, .int .i64 a2] w fun e w' => e = .returned (.bool r) ∧ Drawn0 w w' := by
  have H : (if a0 ≥ a1 then (some (decide (a0 ≤ a2))) else (some false)) = some r := h
  clear h
  by_cases c4 : a0 ≥ a1
  · rw [if_pos c4] at H
    have c4b0 : decide (a1 ≤ a0) = true := decide_eq_true c4
    clear c4
    obtain rfl := Option.some.inj H
    go_enter Try.func57, Try.ntmps57
    go_wp2
    go_ret
    exact ⟨by first | rfl | (simp; done) | (simp [*]; done), by repeat (first | exact Drawn0.refl _ | apply Drawn0.step)⟩
  · rw [if_neg c4] at H
    have c4b0 : decide (a1 ≤ a0) = false := decide_eq_false c4
    clear c4
    obtain rfl := Option.some.inj H
    go_enter Try.func57, Try.ntmps57
    go_wp2
    go_ret
    exact ⟨by first | rfl | (simp; done) | (simp [*]; done), by repeat (first | exact Drawn0.refl _ | apply Drawn0.step)⟩

/-! ### spec_BytesOf: function 83 -/
def spec_BytesOf.f (a0 : Int) : Option (Int) := (spec_l1In.f a0 0 2).bind fun t257 => (if t257 = true then (if 0 ≤ a0 then (some (shl .i64 1 a0)) else (none)) else (some 0))
set_option maxHeartbeats 8000000 in
set_option maxRecDepth 100000 in
theorem spec_BytesOf.calls (a0 : Int) (r : Int) (w : World) (h : spec_BytesOf.f a0 = some r) :
    Calls Try.prog 83 #[.int .i64 a0] w fun e w' => e = .returned (.int .i64 r) ∧ Drawn0 w w' := by
  have H : ((spec_l1In.f a0 0 2).bind fun t257 => (if t257 = true then (if 0 ≤ a0 then (some (shl .i64 1 a0)) else (none)) else (some 0))) = some r := h
  clear h
  replace H := Option.bind_eq_some_iff.mp H
  obtain ⟨t257, A20, H⟩ := H
  replace H : (if t257 = true then (if 0 ≤ a0 then (some (shl .i64 1 a0)) else (none)) else (some 0)) = some r := H
  have A2 := Aside0.mk A20
  clear A20
  by_cases c3 : t257 = true
  · subst c3
    have H1 : (if 0 ≤ a0 then (some (shl .i64 1 a0)) else (none)) = some r := by rw [if_pos rfl] at H; exact H
    clear H
    have H := H1
    clear H1
    by_cases c4 : 0 ≤ a0
    · rw [if_pos c4] at H
      have c4b0 := eq_true c4
      have c4b1 : decide (0 ≤ a0) = true := decide_eq_true c4
      clear c4
      obtain ⟨ji5, hji5⟩ : ∃ j_ : Int, (shl .i64 1 a0) = j_ := ⟨_, rfl⟩
      replace H : (some ji5) = some r := by first | (rw [hji5] at H; exact H) | (simp only [hji5] at H ⊢; exact H)
      (try rw [hji5] at A2)
      have hji5_ : (IntKind.i64.wrap (1 * 2 ^ min a0.toNat 64)) = ji5 := hji5
      have hji5z : a0 ≤ 64 → (IntKind.i64.wrap (1 * 2 ^ a0.toNat)) = ji5 := shl_small hji5
      have hji5u : (IntKind.i64.wrap (2 ^ min a0.toNat 64)) = ji5 := by have h_ := hji5_; rw [Int.one_mul] at h_; exact h_
      have hji5v : a0 ≤ 64 → (IntKind.i64.wrap (2 ^ a0.toNat)) = ji5 := fun hle_ => by have h_ := hji5z hle_; rw [Int.one_mul] at h_; exact h_
      have hji5y : (wrap64 (1 * 2 ^ min a0.toNat 64)) = ji5 := (i64_w _).symm.trans hji5_
      have hji5x : a0 ≤ 64 → (wrap64 (1 * 2 ^ a0.toNat)) = ji5 := fun h_ => (i64_w _).symm.trans (hji5z h_)
      obtain rfl := Option.some.inj H
      go_enter Try.func83, Try.ntmps83
      go_wp2_with (first | ((with_reducible refine gate_callee (f := 57) rfl ?_); refine goesL_ (some 4) rfl rfl Try.func57 (by kernel_rfl) rfl #[.int .i64 a0, .int .i64 0, .int .i64 2] rfl ml ?_; (with_reducible refine (spec_l1In.calls a0 0 2 true _ A2.out).mono ?_); rintro e w' ⟨rfl, ⟨nd, rfl⟩⟩; refine ⟨_, rfl, ?_⟩))
      go_ret
      exact ⟨by first | rfl | (simp; done) | (simp only [← hji5] <;> (first | rfl | simp)) | (simp [*]; done), by repeat (first | exact Drawn0.refl _ | apply Drawn0.step)⟩
    · rw [if_neg c4] at H
      exact absurd H (by simp)
  · replace c3 := Bool.eq_false_iff.mpr c3
    subst c3
    have H1 : (some 0) = some r := by rw [if_neg (show ¬ (false = true) by decide)] at H; exact H
    clear H
    have H := H1
    clear H1
    obtain rfl := Option.some.inj H
    go_enter Try.func83, Try.ntmps83
    go_wp2_with (first | ((with_reducible refine gate_callee (f := 57) rfl ?_); refine goesL_ (some 4) rfl rfl Try.func57 (by kernel_rfl) rfl #[.int .i64 a0, .int .i64 0, .int .i64 2] rfl ml ?_; (with_reducible refine (spec_l1In.calls a0 0 2 false _ A2.out).mono ?_); rintro e w' ⟨rfl, ⟨nd, rfl⟩⟩; refine ⟨_, rfl, ?_⟩))
    go_ret
    exact ⟨by first | rfl | (simp; done) | (simp [*]; done), by repeat (first | exact Drawn0.refl _ | apply Drawn0.step)⟩

/-! ### spec_LimitOf: function 58 -/
def spec_LimitOf.f (a0 : Int) : Option (Int) := (spec_BytesOf.f a0).bind fun t258 => (if t258 = 0 then (some 0) else ((spec_BytesOf.f a0).bind fun t259 => (if 0 ≤ (wrap64 (8 * t259)) then (some (shl .i64 1 (wrap64 (8 * t259)))) else (none))))
set_option maxHeartbeats 8000000 in
set_option maxRecDepth 100000 in
theorem spec_LimitOf.calls (a0 : Int) (r : Int) (w : World) (h : spec_LimitOf.f a0 = some r) :
    Calls Try.prog 58 #[.int .i64 a0] w fun e w' => e = .returned (.int .i64 r) ∧ Drawn0 w w' := by
  have H : ((spec_BytesOf.f a0).bind fun t258 => (if t258 = 0 then (some 0) else ((spec_BytesOf.f a0).bind fun t259 => (if 0 ≤ (wrap64 (8 * t259)) then (some (shl .i64 1 (wrap64 (8 * t259)))) else (none))))) = some r := h
  clear h
  replace H := Option.bind_eq_some_iff.mp H
  obtain ⟨t258, A20, H⟩ := H
  replace H : (if t258 = 0 then (some 0) else ((spec_BytesOf.f a0).bind fun t259 => (if 0 ≤ (wrap64 (8 * t259)) then (some (shl .i64 1 (wrap64 (8 * t259)))) else (none)))) = some r := H
  have A2 := Aside0.mk A20
  clear A20
  by_cases c3 : t258 = 0
  · rw [if_pos c3] at H
    have c3b0 : (t258 == 0) = true := beq_iff_eq.mpr c3
    have c3b1 : (t258 != 0) = false := bne_eq_false_iff_eq.mpr c3
    clear c3
    obtain rfl := Option.some.inj H
    go_enter Try.func58, Try.ntmps58
    go_wp2_with (first | ((with_reducible refine gate_callee (f := 83) rfl ?_); refine goesL_ (some 4) rfl rfl Try.func83 (by kernel_rfl) rfl #[.int .i64 a0] rfl ml ?_; (with_reducible refine (spec_BytesOf.calls a0 t258 _ A2.out).mono ?_); rintro e w' ⟨rfl, ⟨nd, rfl⟩⟩; refine ⟨_, rfl, ?_⟩))
    go_ret
    exact ⟨by first | rfl | (simp; done) | (simp [*]; done), by repeat (first | exact Drawn0.refl _ | apply Drawn0.step)⟩
  · rw [if_neg c3] at H
    have c3b0 : (t258 == 0) = false := beq_eq_false_iff_ne.mpr c3
    have c3b1 : (t258 != 0) = true := bne_iff_ne.mpr c3
    replace H := Option.bind_eq_some_iff.mp H
    obtain ⟨t259, A40, H⟩ := H
    replace H : (if 0 ≤ (wrap64 (8 * t259)) then (some (shl .i64 1 (wrap64 (8 * t259)))) else (none)) = some r := H
    have A4 := Aside0.mk A40
    clear A40
    obtain ⟨ji5, hji5⟩ : ∃ j_ : Int, (wrap64 (8 * t259)) = j_ := ⟨_, rfl⟩
    replace H : (if 0 ≤ (ji5) then (some (shl .i64 1 (ji5))) else (none)) = some r := by first | (rw [hji5] at H; exact H) | (simp only [hji5] at H ⊢; exact H)
    (try rw [hji5] at A2)
    (try rw [hji5] at A4)
    have hji5w : (IntKind.i64.wrap (8 * t259)) = ji5 := (i64_w _).trans hji5
    by_cases c6 : 0 ≤ (ji5)
    · rw [if_pos c6] at H
      have c6b0 := eq_true c6
      have c6b1 : decide (0 ≤ (ji5)) = true := decide_eq_true c6
      clear c6
      obtain ⟨ji7, hji7⟩ : ∃ j_ : Int, (shl .i64 1 (ji5)) = j_ := ⟨_, rfl⟩
      replace H : (some ji7) = some r := by first | (rw [hji7] at H; exact H) | (simp only [hji7] at H ⊢; exact H)
      (try rw [hji7] at A2)
      (try rw [hji7] at A4)
      have hji7_ : (IntKind.i64.wrap (1 * 2 ^ min (ji5).toNat 64)) = ji7 := hji7
      have hji7z : (ji5) ≤ 64 → (IntKind.i64.wrap (1 * 2 ^ (ji5).toNat)) = ji7 := shl_small hji7
      have hji7u : (IntKind.i64.wrap (2 ^ min (ji5).toNat 64)) = ji7 := by have h_ := hji7_; rw [Int.one_mul] at h_; exact h_
      have hji7v : (ji5) ≤ 64 → (IntKind.i64.wrap (2 ^ (ji5).toNat)) = ji7 := fun hle_ => by have h_ := hji7z hle_; rw [Int.one_mul] at h_; exact h_
      have hji7y : (wrap64 (1 * 2 ^ min (ji5).toNat 64)) = ji7 := (i64_w _).symm.trans hji7_
      have hji7x : (ji5) ≤ 64 → (wrap64 (1 * 2 ^ (ji5).toNat)) = ji7 := fun h_ => (i64_w _).symm.trans (hji7z h_)
      obtain rfl := Option.some.inj H
      go_enter Try.func58, Try.ntmps58
      go_wp2_with (first | ((with_reducible refine gate_callee (f := 83) rfl ?_); refine goesL_ (some 4) rfl rfl Try.func83 (by kernel_rfl) rfl #[.int .i64 a0] rfl ml ?_; (with_reducible refine (spec_BytesOf.calls a0 t258 _ A2.out).mono ?_); rintro e w' ⟨rfl, ⟨nd, rfl⟩⟩; refine ⟨_, rfl, ?_⟩) | ((with_reducible refine gate_callee (f := 83) rfl ?_); refine goesL_ (some 7) rfl rfl Try.func83 (by kernel_rfl) rfl #[.int .i64 a0] rfl ml ?_; (with_reducible refine (spec_BytesOf.calls a0 t259 _ A4.out).mono ?_); rintro e w' ⟨rfl, ⟨nd, rfl⟩⟩; refine ⟨_, rfl, ?_⟩))
      go_ret
      exact ⟨by first | rfl | (simp; done) | (simp only [← hji5, ← hji7] <;> (first | rfl | simp)) | (simp [*]; done), by repeat (first | exact Drawn0.refl _ | apply Drawn0.step)⟩
    · rw [if_neg c6] at H
      exact absurd H (by simp)

end Go.Proofs.Ythikbgjlcdkoaaa.MFnExactModelDo
