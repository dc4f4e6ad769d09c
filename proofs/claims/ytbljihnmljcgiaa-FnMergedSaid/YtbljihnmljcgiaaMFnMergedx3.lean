-- Written for this claim by a program of the session (wip/mk.py) over the kit's print.
import Derived.Test.YtbljihnmljcgiaaMFnMergedx0
import Derived.Test.YtbljihnmljcgiaaMFnMergedx1
import Derived.Test.YtbljihnmljcgiaaMFnMergedx2
namespace Go.Proofs.Ytbljihnmljcgiaa.MFnMerged
open Go.RowKit Go.Proofs.YtbljihnmljcgiaaW.PrintWords Go.Proofs.YtbljihnmljcgiaaW.PrintLast Go.Proofs.YtbljihnmljcgiaaW.PrintMore
attribute [local go_sem] max2_int min2_int max_two min_two max_three min_three max_four min_four   -- for this text's walks alone
set_option linter.unusedVariables false
set_option linter.unusedSimpArgs false

/-! ### laws_FnMerged: function 9 -/
mutual
def laws_FnMerged.j0 : Nat → Int → Int → Int → Int → Int → List Bool → Bool → Option (Bool)
  | 0, _, _, _, _, _, _, _ => none
  | k + 1, x3, x4, x5, x6, x7, x8, x56 => if x56 = true then (if x7 = x3 then (if (x8.length : Int) = 4 then (some true) else ((spec_Strobes.f k x5 x6).bind fun t210 => (some ((t210.length : Int) == 0)))) else (some false)) else (laws_FnMerged.l0 k x3 x4 x5 x6 x7 x8 0 0)
def laws_FnMerged.l0 : Nat → Int → Int → Int → Int → Int → List Bool → Int → Int → Option (Bool)
  | 0, _, _, _, _, _, _, _, _ => none
  | k + 1, x3, x4, x5, x6, x7, x8, x9, x10 => if x10 < 4 then (if (x8.length : Int) = 4 then (if 0 ≤ x10 then (if x10 < (x8.length : Int) then (if rdOf false x8 x10 = true then (laws_FnMerged.j2 k x3 x4 x5 x6 x7 x8 x9 x10 false) else (if 0 ≤ (wrap64 (8 * x10)) then (laws_FnMerged.j2 k x3 x4 x5 x6 x7 x8 x9 x10 ((Int.tmod (shr .i64 x7 (wrap64 (8 * x10))) 256) != (Int.tmod (shr .i64 x3 (wrap64 (8 * x10))) 256))) else (none))) else (none)) else (none)) else (laws_FnMerged.j2 k x3 x4 x5 x6 x7 x8 x9 x10 true)) else ((impl_BytesOf.f x6).bind fun t213 => (if x9 = t213 then (if 0 ≤ (wrap64 (8 * (Int.tmod x5 4))) then ((impl_LimitOf.f x6).bind fun t214 => (if t214 = 0 then (none) else (some ((Int.tmod (shr .i64 x7 (wrap64 (8 * (Int.tmod x5 4)))) t214) == x4)))) else (none)) else (some false)))
def laws_FnMerged.j2 : Nat → Int → Int → Int → Int → Int → List Bool → Int → Int → Bool → Option (Bool)
  | 0, _, _, _, _, _, _, _, _, _ => none
  | k + 1, x3, x4, x5, x6, x7, x8, x9, x10, x98 => if x98 = true then (some false) else (if 0 ≤ x10 then (if x10 < (x8.length : Int) then (if rdOf false x8 x10 = true then (laws_FnMerged.l0 k x3 x4 x5 x6 x7 x8 (wrap64 (x9 + 1)) (wrap64 (x10 + 1))) else (laws_FnMerged.l0 k x3 x4 x5 x6 x7 x8 x9 (wrap64 (x10 + 1)))) else (none)) else (none))
end
def laws_FnMerged.f (k : Nat) (l0 : List Int) : Option (Bool) := (laws_big.f l0).bind fun t198 => (if t198 = true then (some true) else ((spec_DrawMerge.f k l0).bind fun bt199 => ((impl_Merge.f bt199.1 bt199.2.1 bt199.2.2.1 bt199.2.2.2).bind fun t203 => ((spec_Merge.f bt199.1 bt199.2.1 bt199.2.2.1 bt199.2.2.2).bind fun t204 => (if t203 = t204 then ((impl_Strobes.f k bt199.2.2.1 bt199.2.2.2).bind fun t205 => (if (t205.length : Int) = 0 then (laws_FnMerged.j0 k bt199.1 bt199.2.1 bt199.2.2.1 bt199.2.2.2 t203 t205 true) else (if bt199.1 < 0 then (laws_FnMerged.j0 k bt199.1 bt199.2.1 bt199.2.2.1 bt199.2.2.2 t203 t205 true) else ((impl_LimitOf.f 2).bind fun t208 => (if bt199.1 ≥ t208 then (laws_FnMerged.j0 k bt199.1 bt199.2.1 bt199.2.2.1 bt199.2.2.2 t203 t205 true) else (if bt199.2.1 < 0 then (laws_FnMerged.j0 k bt199.1 bt199.2.1 bt199.2.2.1 bt199.2.2.2 t203 t205 true) else ((impl_LimitOf.f bt199.2.2.2).bind fun t209 => (laws_FnMerged.j0 k bt199.1 bt199.2.1 bt199.2.2.1 bt199.2.2.2 t203 t205 (decide (bt199.2.1 ≥ t209)))))))))) else (some false))))))
theorem laws_FnMerged.mono_l : ∀ k, (∀ y0 y1 y2 y3 y4 y5 y6, LeO (laws_FnMerged.j0 k y0 y1 y2 y3 y4 y5 y6) (laws_FnMerged.j0 (k + 1) y0 y1 y2 y3 y4 y5 y6)) ∧ (∀ y0 y1 y2 y3 y4 y5 y6 y7, LeO (laws_FnMerged.l0 k y0 y1 y2 y3 y4 y5 y6 y7) (laws_FnMerged.l0 (k + 1) y0 y1 y2 y3 y4 y5 y6 y7)) ∧ (∀ y0 y1 y2 y3 y4 y5 y6 y7 y8, LeO (laws_FnMerged.j2 k y0 y1 y2 y3 y4 y5 y6 y7 y8) (laws_FnMerged.j2 (k + 1) y0 y1 y2 y3 y4 y5 y6 y7 y8))
  | 0 => ⟨fun _ _ _ _ _ _ _ r h => by simp [laws_FnMerged.j0] at h, fun _ _ _ _ _ _ _ _ r h => by simp [laws_FnMerged.l0] at h, fun _ _ _ _ _ _ _ _ _ r h => by simp [laws_FnMerged.j2] at h⟩
  | k + 1 => by
    obtain ⟨ih0, ih1, ih2⟩ := laws_FnMerged.mono_l k
    refine ⟨?_, ?_, ?_⟩
    · intro y0 y1 y2 y3 y4 y5 y6
      unfold laws_FnMerged.j0
      repeat' first
      | (with_reducible exact ih0 _ _ _ _ _ _ _)
      | (with_reducible exact ih1 _ _ _ _ _ _ _ _)
      | (with_reducible exact ih2 _ _ _ _ _ _ _ _ _)
      | (with_reducible exact impl_Strobes.mono _ _ _)
      | (with_reducible exact spec_DrawMerge.mono _ _)
      | (with_reducible exact spec_Strobes.mono _ _ _)
      | (with_reducible exact LeO.refl _)
      | (with_reducible exact LeO.none _)
      | (with_reducible refine LeO.ite ?_ ?_)
      | (with_reducible refine LeO.bind ?_ (fun _ => ?_))
      | exact ih0 _ _ _ _ _ _ _
      | exact ih1 _ _ _ _ _ _ _ _
      | exact ih2 _ _ _ _ _ _ _ _ _
      | exact impl_Strobes.mono _ _ _
      | exact spec_DrawMerge.mono _ _
      | exact spec_Strobes.mono _ _ _
      | exact LeO.none _
      | refine LeO.ite ?_ ?_
      | refine LeO.bind ?_ (fun _ => ?_)
    · intro y0 y1 y2 y3 y4 y5 y6 y7
      unfold laws_FnMerged.l0
      repeat' first
      | (with_reducible exact ih0 _ _ _ _ _ _ _)
      | (with_reducible exact ih1 _ _ _ _ _ _ _ _)
      | (with_reducible exact ih2 _ _ _ _ _ _ _ _ _)
      | (with_reducible exact impl_Strobes.mono _ _ _)
      | (with_reducible exact spec_DrawMerge.mono _ _)
      | (with_reducible exact spec_Strobes.mono _ _ _)
      | (with_reducible exact LeO.refl _)
      | (with_reducible exact LeO.none _)
      | (with_reducible refine LeO.ite ?_ ?_)
      | (with_reducible refine LeO.bind ?_ (fun _ => ?_))
      | exact ih0 _ _ _ _ _ _ _
      | exact ih1 _ _ _ _ _ _ _ _
      | exact ih2 _ _ _ _ _ _ _ _ _
      | exact impl_Strobes.mono _ _ _
      | exact spec_DrawMerge.mono _ _
      | exact spec_Strobes.mono _ _ _
      | exact LeO.none _
      | refine LeO.ite ?_ ?_
      | refine LeO.bind ?_ (fun _ => ?_)
    · intro y0 y1 y2 y3 y4 y5 y6 y7 y8
      unfold laws_FnMerged.j2
      repeat' first
      | (with_reducible exact ih0 _ _ _ _ _ _ _)
      | (with_reducible exact ih1 _ _ _ _ _ _ _ _)
      | (with_reducible exact ih2 _ _ _ _ _ _ _ _ _)
      | (with_reducible exact impl_Strobes.mono _ _ _)
      | (with_reducible exact spec_DrawMerge.mono _ _)
      | (with_reducible exact spec_Strobes.mono _ _ _)
      | (with_reducible exact LeO.refl _)
      | (with_reducible exact LeO.none _)
      | (with_reducible refine LeO.ite ?_ ?_)
      | (with_reducible refine LeO.bind ?_ (fun _ => ?_))
      | exact ih0 _ _ _ _ _ _ _
      | exact ih1 _ _ _ _ _ _ _ _
      | exact ih2 _ _ _ _ _ _ _ _ _
      | exact impl_Strobes.mono _ _ _
      | exact spec_DrawMerge.mono _ _
      | exact spec_Strobes.mono _ _ _
      | exact LeO.none _
      | refine LeO.ite ?_ ?_
      | refine LeO.bind ?_ (fun _ => ?_)
theorem laws_FnMerged.mono : ∀ a0 k, LeO (laws_FnMerged.f k a0) (laws_FnMerged.f (k + 1) a0) := by
  intro a0 k
  obtain ⟨ih0, ih1, ih2⟩ := laws_FnMerged.mono_l k
  unfold laws_FnMerged.f
  repeat' first
      | (with_reducible exact ih0 _ _ _ _ _ _ _)
      | (with_reducible exact ih1 _ _ _ _ _ _ _ _)
      | (with_reducible exact ih2 _ _ _ _ _ _ _ _ _)
      | (with_reducible exact impl_Strobes.mono _ _ _)
      | (with_reducible exact spec_DrawMerge.mono _ _)
      | (with_reducible exact spec_Strobes.mono _ _ _)
      | (with_reducible exact LeO.refl _)
      | (with_reducible exact LeO.none _)
      | (with_reducible refine LeO.ite ?_ ?_)
      | (with_reducible refine LeO.bind ?_ (fun _ => ?_))
      | exact ih0 _ _ _ _ _ _ _
      | exact ih1 _ _ _ _ _ _ _ _
      | exact ih2 _ _ _ _ _ _ _ _ _
      | exact impl_Strobes.mono _ _ _
      | exact spec_DrawMerge.mono _ _
      | exact spec_Strobes.mono _ _ _
      | exact LeO.none _
      | refine LeO.ite ?_ ?_
      | refine LeO.bind ?_ (fun _ => ?_)
set_option maxHeartbeats 8000000 in
set_option maxRecDepth 100000 in
theorem laws_FnMerged.calls (k : Nat) (A0 : Option Addr) (c0 : Nat) (l0 : List Int) (w : World) (hr0 : Kd.C (Kd.int .u8) w A0 l0.length l0) (hc0 : l0.length ≤ c0) (h : laws_FnMerged.f k l0 = some true) :
    Calls Try.prog 9 #[.slice A0 l0.length c0] w fun e w' => e = .returned (.bool true) ∧ Below w.heap.size w w' := by
  have HR0 := Aside0.mk hr0
  have HC0 := Aside0.mk hc0
  clear hr0 hc0
  have HB := Aside0.mk (Below.refl w.heap.size w)
  have H : ((laws_big.f l0).bind fun t198 => (if t198 = true then (some true) else ((spec_DrawMerge.f k l0).bind fun bt199 => ((impl_Merge.f bt199.1 bt199.2.1 bt199.2.2.1 bt199.2.2.2).bind fun t203 => ((spec_Merge.f bt199.1 bt199.2.1 bt199.2.2.1 bt199.2.2.2).bind fun t204 => (if t203 = t204 then ((impl_Strobes.f k bt199.2.2.1 bt199.2.2.2).bind fun t205 => (if (t205.length : Int) = 0 then (laws_FnMerged.j0 k bt199.1 bt199.2.1 bt199.2.2.1 bt199.2.2.2 t203 t205 true) else (if bt199.1 < 0 then (laws_FnMerged.j0 k bt199.1 bt199.2.1 bt199.2.2.1 bt199.2.2.2 t203 t205 true) else ((impl_LimitOf.f 2).bind fun t208 => (if bt199.1 ≥ t208 then (laws_FnMerged.j0 k bt199.1 bt199.2.1 bt199.2.2.1 bt199.2.2.2 t203 t205 true) else (if bt199.2.1 < 0 then (laws_FnMerged.j0 k bt199.1 bt199.2.1 bt199.2.2.1 bt199.2.2.2 t203 t205 true) else ((impl_LimitOf.f bt199.2.2.2).bind fun t209 => (laws_FnMerged.j0 k bt199.1 bt199.2.1 bt199.2.2.1 bt199.2.2.2 t203 t205 (decide (bt199.2.1 ≥ t209)))))))))) else (some false))))))) = some true := h
  clear h
  replace H := Option.bind_eq_some_iff.mp H
  obtain ⟨t198, A20, H⟩ := H
  replace H : (if t198 = true then (some true) else ((spec_DrawMerge.f k l0).bind fun bt199 => ((impl_Merge.f bt199.1 bt199.2.1 bt199.2.2.1 bt199.2.2.2).bind fun t203 => ((spec_Merge.f bt199.1 bt199.2.1 bt199.2.2.1 bt199.2.2.2).bind fun t204 => (if t203 = t204 then ((impl_Strobes.f k bt199.2.2.1 bt199.2.2.2).bind fun t205 => (if (t205.length : Int) = 0 then (laws_FnMerged.j0 k bt199.1 bt199.2.1 bt199.2.2.1 bt199.2.2.2 t203 t205 true) else (if bt199.1 < 0 then (laws_FnMerged.j0 k bt199.1 bt199.2.1 bt199.2.2.1 bt199.2.2.2 t203 t205 true) else ((impl_LimitOf.f 2).bind fun t208 => (if bt199.1 ≥ t208 then (laws_FnMerged.j0 k bt199.1 bt199.2.1 bt199.2.2.1 bt199.2.2.2 t203 t205 true) else (if bt199.2.1 < 0 then (laws_FnMerged.j0 k bt199.1 bt199.2.1 bt199.2.2.1 bt199.2.2.2 t203 t205 true) else ((impl_LimitOf.f bt199.2.2.2).bind fun t209 => (laws_FnMerged.j0 k bt199.1 bt199.2.1 bt199.2.2.1 bt199.2.2.2 t203 t205 (decide (bt199.2.1 ≥ t209)))))))))) else (some false)))))) = some true := H
  have A2 := Aside0.mk A20
  clear A20
  by_cases c3 : t198 = true
  · subst c3
    have H1 : (some true) = some true := rfl
    clear H
    have H := H1
    clear H1
    clear H
    go_enter Try.func9, Try.ntmps9
    go_wp2_with (first | (go_at_call 31; (with_reducible refine (laws_big.calls _ _ l0 true _ ?side1 ?side2 A2.out).mono ?_); (case side1 => repeat (first | exact HR0.out | (with_reducible refine Kd.C_alloc ?_ _) | (with_reducible refine Kd.C_drewN ?_ _) | (with_reducible refine Kd.C_drew ?_))); (case side2 => exact HC0.out); rintro e w' ⟨rfl, ⟨nd, rfl⟩⟩; (try first | exact ⟨rfl, _, World.drewN_drewN _ _ _⟩ | exact ⟨rfl, _, Eq.trans (World.drewN_drewN _ _ _) (congrArg (World.drewN _) (Nat.add_assoc _ _ _))⟩)))
    repeat (go_quiet (first | (go_at_call 31; (with_reducible refine (laws_big.calls _ _ l0 true _ ?side1 ?side2 A2.out).mono ?_); (case side1 => repeat (first | exact HR0.out | (with_reducible refine Kd.C_alloc ?_ _) | (with_reducible refine Kd.C_drewN ?_ _) | (with_reducible refine Kd.C_drew ?_))); (case side2 => exact HC0.out); rintro e w' ⟨rfl, ⟨nd, rfl⟩⟩; (try first | exact ⟨rfl, _, World.drewN_drewN _ _ _⟩ | exact ⟨rfl, _, Eq.trans (World.drewN_drewN _ _ _) (congrArg (World.drewN _) (Nat.add_assoc _ _ _))⟩))); try go_wp2_with (first | (go_at_call 31; (with_reducible refine (laws_big.calls _ _ l0 true _ ?side1 ?side2 A2.out).mono ?_); (case side1 => repeat (first | exact HR0.out | (with_reducible refine Kd.C_alloc ?_ _) | (with_reducible refine Kd.C_drewN ?_ _) | (with_reducible refine Kd.C_drew ?_))); (case side2 => exact HC0.out); rintro e w' ⟨rfl, ⟨nd, rfl⟩⟩; (try first | exact ⟨rfl, _, World.drewN_drewN _ _ _⟩ | exact ⟨rfl, _, Eq.trans (World.drewN_drewN _ _ _) (congrArg (World.drewN _) (Nat.add_assoc _ _ _))⟩))))
    go_ret
    exact ⟨by first | rfl | (simp [errW_none, errW_some] <;> rfl) | (simp [*, errW_none, errW_some] <;> rfl), by repeat (first | (with_reducible first | exact HB.out | apply below_alloc | apply pw_below_drewN | apply below_drew1) | exact HB.out)⟩
  · replace c3 := Bool.eq_false_iff.mpr c3
    subst c3
    have H1 : ((spec_DrawMerge.f k l0).bind fun bt199 => ((impl_Merge.f bt199.1 bt199.2.1 bt199.2.2.1 bt199.2.2.2).bind fun t203 => ((spec_Merge.f bt199.1 bt199.2.1 bt199.2.2.1 bt199.2.2.2).bind fun t204 => (if t203 = t204 then ((impl_Strobes.f k bt199.2.2.1 bt199.2.2.2).bind fun t205 => (if (t205.length : Int) = 0 then (laws_FnMerged.j0 k bt199.1 bt199.2.1 bt199.2.2.1 bt199.2.2.2 t203 t205 true) else (if bt199.1 < 0 then (laws_FnMerged.j0 k bt199.1 bt199.2.1 bt199.2.2.1 bt199.2.2.2 t203 t205 true) else ((impl_LimitOf.f 2).bind fun t208 => (if bt199.1 ≥ t208 then (laws_FnMerged.j0 k bt199.1 bt199.2.1 bt199.2.2.1 bt199.2.2.2 t203 t205 true) else (if bt199.2.1 < 0 then (laws_FnMerged.j0 k bt199.1 bt199.2.1 bt199.2.2.1 bt199.2.2.2 t203 t205 true) else ((impl_LimitOf.f bt199.2.2.2).bind fun t209 => (laws_FnMerged.j0 k bt199.1 bt199.2.1 bt199.2.2.1 bt199.2.2.2 t203 t205 (decide (bt199.2.1 ≥ t209)))))))))) else (some false))))) = some true := by rw [if_neg (show ¬ (false = true) by decide)] at H; exact H
    clear H
    have H := H1
    clear H1
    replace H := Option.bind_eq_some_iff.mp H
    obtain ⟨⟨t199, t200, t201, t202⟩, A40, H⟩ := H
    replace H : ((impl_Merge.f t199 t200 t201 t202).bind fun t203 => ((spec_Merge.f t199 t200 t201 t202).bind fun t204 => (if t203 = t204 then ((impl_Strobes.f k t201 t202).bind fun t205 => (if (t205.length : Int) = 0 then (laws_FnMerged.j0 k t199 t200 t201 t202 t203 t205 true) else (if t199 < 0 then (laws_FnMerged.j0 k t199 t200 t201 t202 t203 t205 true) else ((impl_LimitOf.f 2).bind fun t208 => (if t199 ≥ t208 then (laws_FnMerged.j0 k t199 t200 t201 t202 t203 t205 true) else (if t200 < 0 then (laws_FnMerged.j0 k t199 t200 t201 t202 t203 t205 true) else ((impl_LimitOf.f t202).bind fun t209 => (laws_FnMerged.j0 k t199 t200 t201 t202 t203 t205 (decide (t200 ≥ t209)))))))))) else (some false)))) = some true := H
    have A4 := Aside0.mk A40
    clear A40
    replace H := Option.bind_eq_some_iff.mp H
    obtain ⟨t203, A50, H⟩ := H
    replace H : ((spec_Merge.f t199 t200 t201 t202).bind fun t204 => (if t203 = t204 then ((impl_Strobes.f k t201 t202).bind fun t205 => (if (t205.length : Int) = 0 then (laws_FnMerged.j0 k t199 t200 t201 t202 t203 t205 true) else (if t199 < 0 then (laws_FnMerged.j0 k t199 t200 t201 t202 t203 t205 true) else ((impl_LimitOf.f 2).bind fun t208 => (if t199 ≥ t208 then (laws_FnMerged.j0 k t199 t200 t201 t202 t203 t205 true) else (if t200 < 0 then (laws_FnMerged.j0 k t199 t200 t201 t202 t203 t205 true) else ((impl_LimitOf.f t202).bind fun t209 => (laws_FnMerged.j0 k t199 t200 t201 t202 t203 t205 (decide (t200 ≥ t209)))))))))) else (some false))) = some true := H
    have A5 := Aside0.mk A50
    clear A50
    replace H := Option.bind_eq_some_iff.mp H
    obtain ⟨t204, A60, H⟩ := H
    replace H : (if t203 = t204 then ((impl_Strobes.f k t201 t202).bind fun t205 => (if (t205.length : Int) = 0 then (laws_FnMerged.j0 k t199 t200 t201 t202 t203 t205 true) else (if t199 < 0 then (laws_FnMerged.j0 k t199 t200 t201 t202 t203 t205 true) else ((impl_LimitOf.f 2).bind fun t208 => (if t199 ≥ t208 then (laws_FnMerged.j0 k t199 t200 t201 t202 t203 t205 true) else (if t200 < 0 then (laws_FnMerged.j0 k t199 t200 t201 t202 t203 t205 true) else ((impl_LimitOf.f t202).bind fun t209 => (laws_FnMerged.j0 k t199 t200 t201 t202 t203 t205 (decide (t200 ≥ t209)))))))))) else (some false)) = some true := H
    have A6 := Aside0.mk A60
    clear A60
    by_cases c7 : t203 = t204
    · rw [if_pos c7] at H
      have c7b0 : (t203 == t204) = true := beq_iff_eq.mpr c7
      have c7b1 : (t203 != t204) = false := bne_eq_false_iff_eq.mpr c7
      clear c7
      replace H := Option.bind_eq_some_iff.mp H
      obtain ⟨t205, A80, H⟩ := H
      replace H : (if (t205.length : Int) = 0 then (laws_FnMerged.j0 k t199 t200 t201 t202 t203 t205 true) else (if t199 < 0 then (laws_FnMerged.j0 k t199 t200 t201 t202 t203 t205 true) else ((impl_LimitOf.f 2).bind fun t208 => (if t199 ≥ t208 then (laws_FnMerged.j0 k t199 t200 t201 t202 t203 t205 true) else (if t200 < 0 then (laws_FnMerged.j0 k t199 t200 t201 t202 t203 t205 true) else ((impl_LimitOf.f t202).bind fun t209 => (laws_FnMerged.j0 k t199 t200 t201 t202 t203 t205 (decide (t200 ≥ t209))))))))) = some true := H
      have A8 := Aside0.mk A80
      clear A80
      have HC9 := Aside0.mk H
      clear H
      go_enter Try.func9, Try.ntmps9
      go_upto_region 8 with (first | (go_at_call 31; (with_reducible refine (laws_big.calls _ _ l0 false _ ?side1 ?side2 A2.out).mono ?_); (case side1 => repeat (first | exact HR0.out | (with_reducible refine Kd.C_alloc ?_ _) | (with_reducible refine Kd.C_drewN ?_ _) | (with_reducible refine Kd.C_drew ?_))); (case side2 => exact HC0.out); rintro e w' ⟨rfl, ⟨nd, rfl⟩⟩; (try first | exact ⟨rfl, _, World.drewN_drewN _ _ _⟩ | exact ⟨rfl, _, Eq.trans (World.drewN_drewN _ _ _) (congrArg (World.drewN _) (Nat.add_assoc _ _ _))⟩)) | (go_at_call 32; (with_reducible refine (spec_DrawMerge.calls k _ _ l0 t199 t200 t201 t202 _ ?side1 ?side2 A4.out).mono ?_); (case side1 => repeat (first | exact HR0.out | (with_reducible refine Kd.C_alloc ?_ _) | (with_reducible refine Kd.C_drewN ?_ _) | (with_reducible refine Kd.C_drew ?_))); (case side2 => exact HC0.out); rintro e w10 ⟨rfl, hb⟩; have n0_ := Aside0.mk (below_step (by repeat (first | (with_reducible first | exact HB.out | apply below_alloc | apply pw_below_drewN | apply below_drew1) | exact HB.out)) hb); clear HB; have HB := n0_; clear n0_; (try clear hb); (try clear hb2); (try clear hk); (try clear hi)) | (go_at_call 13; (with_reducible refine (impl_Merge.calls t199 t200 t201 t202 t203 _ A5.out).mono ?_); rintro e w' ⟨rfl, ⟨nd, rfl⟩⟩; (try first | exact ⟨rfl, _, World.drewN_drewN _ _ _⟩ | exact ⟨rfl, _, Eq.trans (World.drewN_drewN _ _ _) (congrArg (World.drewN _) (Nat.add_assoc _ _ _))⟩)) | (go_at_call 12; (with_reducible refine (spec_Merge.calls t199 t200 t201 t202 t204 _ A6.out).mono ?_); rintro e w' ⟨rfl, ⟨nd, rfl⟩⟩; (try first | exact ⟨rfl, _, World.drewN_drewN _ _ _⟩ | exact ⟨rfl, _, Eq.trans (World.drewN_drewN _ _ _) (congrArg (World.drewN _) (Nat.add_assoc _ _ _))⟩)) | (go_at_call 15; (with_reducible refine (impl_Strobes.calls k t201 t202 t205 _ A8.out).mono ?_); rintro e w11 ⟨v206, rfl, ho0, hb⟩; have n0_ := Aside0.mk (Kd.R_lower ho0 (below_size (by repeat (first | (with_reducible first | exact HB.out | apply below_alloc | apply pw_below_drewN | apply below_drew1) | exact HB.out)))); have n1_ := Aside0.mk (below_step (by repeat (first | (with_reducible first | exact HB.out | apply below_alloc | apply pw_below_drewN | apply below_drew1) | exact HB.out)) hb); clear HB; have HO207 := n0_; have HB := n1_; clear n0_ n1_; (try clear hb); (try clear hb2); (try clear hk); (try clear hi); (try clear ho0)))
      repeat (go_quiet (first | (go_at_call 31; (with_reducible refine (laws_big.calls _ _ l0 false _ ?side1 ?side2 A2.out).mono ?_); (case side1 => repeat (first | exact HR0.out | (with_reducible refine Kd.C_alloc ?_ _) | (with_reducible refine Kd.C_drewN ?_ _) | (with_reducible refine Kd.C_drew ?_))); (case side2 => exact HC0.out); rintro e w' ⟨rfl, ⟨nd, rfl⟩⟩; (try first | exact ⟨rfl, _, World.drewN_drewN _ _ _⟩ | exact ⟨rfl, _, Eq.trans (World.drewN_drewN _ _ _) (congrArg (World.drewN _) (Nat.add_assoc _ _ _))⟩)) | (go_at_call 32; (with_reducible refine (spec_DrawMerge.calls k _ _ l0 t199 t200 t201 t202 _ ?side1 ?side2 A4.out).mono ?_); (case side1 => repeat (first | exact HR0.out | (with_reducible refine Kd.C_alloc ?_ _) | (with_reducible refine Kd.C_drewN ?_ _) | (with_reducible refine Kd.C_drew ?_))); (case side2 => exact HC0.out); rintro e w10 ⟨rfl, hb⟩; have n0_ := Aside0.mk (below_step (by repeat (first | (with_reducible first | exact HB.out | apply below_alloc | apply pw_below_drewN | apply below_drew1) | exact HB.out)) hb); clear HB; have HB := n0_; clear n0_; (try clear hb); (try clear hb2); (try clear hk); (try clear hi)) | (go_at_call 13; (with_reducible refine (impl_Merge.calls t199 t200 t201 t202 t203 _ A5.out).mono ?_); rintro e w' ⟨rfl, ⟨nd, rfl⟩⟩; (try first | exact ⟨rfl, _, World.drewN_drewN _ _ _⟩ | exact ⟨rfl, _, Eq.trans (World.drewN_drewN _ _ _) (congrArg (World.drewN _) (Nat.add_assoc _ _ _))⟩)) | (go_at_call 12; (with_reducible refine (spec_Merge.calls t199 t200 t201 t202 t204 _ A6.out).mono ?_); rintro e w' ⟨rfl, ⟨nd, rfl⟩⟩; (try first | exact ⟨rfl, _, World.drewN_drewN _ _ _⟩ | exact ⟨rfl, _, Eq.trans (World.drewN_drewN _ _ _) (congrArg (World.drewN _) (Nat.add_assoc _ _ _))⟩)) | (go_at_call 15; (with_reducible refine (impl_Strobes.calls k t201 t202 t205 _ A8.out).mono ?_); rintro e w11 ⟨v206, rfl, ho0, hb⟩; have n0_ := Aside0.mk (Kd.R_lower ho0 (below_size (by repeat (first | (with_reducible first | exact HB.out | apply below_alloc | apply pw_below_drewN | apply below_drew1) | exact HB.out)))); have n1_ := Aside0.mk (below_step (by repeat (first | (with_reducible first | exact HB.out | apply below_alloc | apply pw_below_drewN | apply below_drew1) | exact HB.out)) hb); clear HB; have HO207 := n0_; have HB := n1_; clear n0_ n1_; (try clear hb); (try clear hb2); (try clear hk); (try clear hi); (try clear ho0))); go_upto_region 8 with (first | (go_at_call 31; (with_reducible refine (laws_big.calls _ _ l0 false _ ?side1 ?side2 A2.out).mono ?_); (case side1 => repeat (first | exact HR0.out | (with_reducible refine Kd.C_alloc ?_ _) | (with_reducible refine Kd.C_drewN ?_ _) | (with_reducible refine Kd.C_drew ?_))); (case side2 => exact HC0.out); rintro e w' ⟨rfl, ⟨nd, rfl⟩⟩; (try first | exact ⟨rfl, _, World.drewN_drewN _ _ _⟩ | exact ⟨rfl, _, Eq.trans (World.drewN_drewN _ _ _) (congrArg (World.drewN _) (Nat.add_assoc _ _ _))⟩)) | (go_at_call 32; (with_reducible refine (spec_DrawMerge.calls k _ _ l0 t199 t200 t201 t202 _ ?side1 ?side2 A4.out).mono ?_); (case side1 => repeat (first | exact HR0.out | (with_reducible refine Kd.C_alloc ?_ _) | (with_reducible refine Kd.C_drewN ?_ _) | (with_reducible refine Kd.C_drew ?_))); (case side2 => exact HC0.out); rintro e w10 ⟨rfl, hb⟩; have n0_ := Aside0.mk (below_step (by repeat (first | (with_reducible first | exact HB.out | apply below_alloc | apply pw_below_drewN | apply below_drew1) | exact HB.out)) hb); clear HB; have HB := n0_; clear n0_; (try clear hb); (try clear hb2); (try clear hk); (try clear hi)) | (go_at_call 13; (with_reducible refine (impl_Merge.calls t199 t200 t201 t202 t203 _ A5.out).mono ?_); rintro e w' ⟨rfl, ⟨nd, rfl⟩⟩; (try first | exact ⟨rfl, _, World.drewN_drewN _ _ _⟩ | exact ⟨rfl, _, Eq.trans (World.drewN_drewN _ _ _) (congrArg (World.drewN _) (Nat.add_assoc _ _ _))⟩)) | (go_at_call 12; (with_reducible refine (spec_Merge.calls t199 t200 t201 t202 t204 _ A6.out).mono ?_); rintro e w' ⟨rfl, ⟨nd, rfl⟩⟩; (try first | exact ⟨rfl, _, World.drewN_drewN _ _ _⟩ | exact ⟨rfl, _, Eq.trans (World.drewN_drewN _ _ _) (congrArg (World.drewN _) (Nat.add_assoc _ _ _))⟩)) | (go_at_call 15; (with_reducible refine (impl_Strobes.calls k t201 t202 t205 _ A8.out).mono ?_); rintro e w11 ⟨v206, rfl, ho0, hb⟩; have n0_ := Aside0.mk (Kd.R_lower ho0 (below_size (by repeat (first | (with_reducible first | exact HB.out | apply below_alloc | apply pw_below_drewN | apply below_drew1) | exact HB.out)))); have n1_ := Aside0.mk (below_step (by repeat (first | (with_reducible first | exact HB.out | apply below_alloc | apply pw_below_drewN | apply below_drew1) | exact HB.out)) hb); clear HB; have HO207 := n0_; have HB := n1_; clear n0_ n1_; (try clear hb); (try clear hb2); (try clear hk); (try clear hi); (try clear ho0))))
      (try simp only [Act.put, List.setIfInBounds_toArray, List.set_cons_zero, List.set_cons_succ])
      go_cut [56] (fun v56 wc => ∃ (kq : Nat) (x56_8 : Bool), v56 = .bool x56_8 ∧ Aside0 (laws_FnMerged.j0 kq t199 t200 t201 t202 t203 t205 x56_8 = some true) ∧ Aside0 (kq ≤ k) ∧ Aside0 (Kd.R Kd.bool 4 wc w.heap.size (fun _ => True) v206 t205) ∧ Aside0 (Below w.heap.size w wc))
      case first =>
        have H := HC9.out
        clear HC9
        by_cases c12 : (t205.length : Int) = 0
        · rw [if_pos c12] at H
          have c12b0 : ((t205.length : Int) == 0) = true := beq_iff_eq.mpr c12
          have c12b1 : ((t205.length : Int) != 0) = false := bne_eq_false_iff_eq.mpr c12
          clear c12
          (first | rw [c12b0] | (simp only [i64_w, i32_w]; rw [c12b0]) | skip)
          have H' := Aside0.mk H
          clear H
          obtain ⟨Ao13, co13, eo13⟩ := Kd.R_slice HO207.out
          subst eo13
          go_wp2
          repeat (go_quiet (fail); try go_wp2)
          go_meet
          case rel => exact ⟨_, (true), (by first | rfl | (simp; done) | (simp [*]; done)), H', ⟨by first | omega | exact Nat.le_refl _⟩, ⟨by (with_reducible repeat (first | apply Kd.R_alloc | apply Kd.R_drewN | apply Kd.R_drew)); exact HO207.out⟩, ⟨by repeat (first | (with_reducible first | exact HB.out | apply below_alloc | apply pw_below_drewN | apply below_drew1) | exact HB.out)⟩⟩
        · rw [if_neg c12] at H
          have c12b0 : ((t205.length : Int) == 0) = false := beq_eq_false_iff_ne.mpr c12
          have c12b1 : ((t205.length : Int) != 0) = true := bne_iff_ne.mpr c12
          have c12b2 : ¬ (t205 = []) := fun h_ => c12 (by rw [h_]; rfl)
          (first | rw [c12b0] | (simp only [i64_w, i32_w]; rw [c12b0]) | skip)
          by_cases c14 : t199 < 0
          · rw [if_pos c14] at H
            have c14b0 : decide (t199 < 0) = true := decide_eq_true c14
            clear c14
            have H' := Aside0.mk H
            clear H
            obtain ⟨Ao15, co15, eo15⟩ := Kd.R_slice HO207.out
            subst eo15
            go_wp2
            repeat (go_quiet (fail); try go_wp2)
            go_meet
            case rel => exact ⟨_, (true), (by first | rfl | (simp; done) | (simp [*]; done)), H', ⟨by first | omega | exact Nat.le_refl _⟩, ⟨by (with_reducible repeat (first | apply Kd.R_alloc | apply Kd.R_drewN | apply Kd.R_drew)); exact HO207.out⟩, ⟨by repeat (first | (with_reducible first | exact HB.out | apply below_alloc | apply pw_below_drewN | apply below_drew1) | exact HB.out)⟩⟩
          · rw [if_neg c14] at H
            have c14b0 : decide (t199 < 0) = false := decide_eq_false c14
            clear c14
            replace H := Option.bind_eq_some_iff.mp H
            obtain ⟨t208, A160, H⟩ := H
            replace H : (if t199 ≥ t208 then (laws_FnMerged.j0 k t199 t200 t201 t202 t203 t205 true) else (if t200 < 0 then (laws_FnMerged.j0 k t199 t200 t201 t202 t203 t205 true) else ((impl_LimitOf.f t202).bind fun t209 => (laws_FnMerged.j0 k t199 t200 t201 t202 t203 t205 (decide (t200 ≥ t209)))))) = some true := H
            have A16 := Aside0.mk A160
            clear A160
            by_cases c17 : t199 ≥ t208
            · rw [if_pos c17] at H
              have c17b0 : decide (t208 ≤ t199) = true := decide_eq_true c17
              clear c17
              have H' := Aside0.mk H
              clear H
              obtain ⟨Ao18, co18, eo18⟩ := Kd.R_slice HO207.out
              subst eo18
              go_wp2_with (first | (go_at_call 33; (with_reducible refine (impl_LimitOf.calls 2 t208 _ A16.out).mono ?_); rintro e w' ⟨rfl, ⟨nd, rfl⟩⟩; (try first | exact ⟨rfl, _, World.drewN_drewN _ _ _⟩ | exact ⟨rfl, _, Eq.trans (World.drewN_drewN _ _ _) (congrArg (World.drewN _) (Nat.add_assoc _ _ _))⟩)))
              repeat (go_quiet (first | (go_at_call 33; (with_reducible refine (impl_LimitOf.calls 2 t208 _ A16.out).mono ?_); rintro e w' ⟨rfl, ⟨nd, rfl⟩⟩; (try first | exact ⟨rfl, _, World.drewN_drewN _ _ _⟩ | exact ⟨rfl, _, Eq.trans (World.drewN_drewN _ _ _) (congrArg (World.drewN _) (Nat.add_assoc _ _ _))⟩))); try go_wp2_with (first | (go_at_call 33; (with_reducible refine (impl_LimitOf.calls 2 t208 _ A16.out).mono ?_); rintro e w' ⟨rfl, ⟨nd, rfl⟩⟩; (try first | exact ⟨rfl, _, World.drewN_drewN _ _ _⟩ | exact ⟨rfl, _, Eq.trans (World.drewN_drewN _ _ _) (congrArg (World.drewN _) (Nat.add_assoc _ _ _))⟩))))
              go_meet
              case rel => exact ⟨_, (true), (by first | rfl | (simp; done) | (simp [*]; done)), H', ⟨by first | omega | exact Nat.le_refl _⟩, ⟨by (with_reducible repeat (first | apply Kd.R_alloc | apply Kd.R_drewN | apply Kd.R_drew)); exact HO207.out⟩, ⟨by repeat (first | (with_reducible first | exact HB.out | apply below_alloc | apply pw_below_drewN | apply below_drew1) | exact HB.out)⟩⟩
            · rw [if_neg c17] at H
              have c17b0 : decide (t208 ≤ t199) = false := decide_eq_false c17
              clear c17
              by_cases c19 : t200 < 0
              · rw [if_pos c19] at H
                have c19b0 : decide (t200 < 0) = true := decide_eq_true c19
                clear c19
                have H' := Aside0.mk H
                clear H
                obtain ⟨Ao20, co20, eo20⟩ := Kd.R_slice HO207.out
                subst eo20
                go_wp2_with (first | (go_at_call 33; (with_reducible refine (impl_LimitOf.calls 2 t208 _ A16.out).mono ?_); rintro e w' ⟨rfl, ⟨nd, rfl⟩⟩; (try first | exact ⟨rfl, _, World.drewN_drewN _ _ _⟩ | exact ⟨rfl, _, Eq.trans (World.drewN_drewN _ _ _) (congrArg (World.drewN _) (Nat.add_assoc _ _ _))⟩)))
                repeat (go_quiet (first | (go_at_call 33; (with_reducible refine (impl_LimitOf.calls 2 t208 _ A16.out).mono ?_); rintro e w' ⟨rfl, ⟨nd, rfl⟩⟩; (try first | exact ⟨rfl, _, World.drewN_drewN _ _ _⟩ | exact ⟨rfl, _, Eq.trans (World.drewN_drewN _ _ _) (congrArg (World.drewN _) (Nat.add_assoc _ _ _))⟩))); try go_wp2_with (first | (go_at_call 33; (with_reducible refine (impl_LimitOf.calls 2 t208 _ A16.out).mono ?_); rintro e w' ⟨rfl, ⟨nd, rfl⟩⟩; (try first | exact ⟨rfl, _, World.drewN_drewN _ _ _⟩ | exact ⟨rfl, _, Eq.trans (World.drewN_drewN _ _ _) (congrArg (World.drewN _) (Nat.add_assoc _ _ _))⟩))))
                go_meet
                case rel => exact ⟨_, (true), (by first | rfl | (simp; done) | (simp [*]; done)), H', ⟨by first | omega | exact Nat.le_refl _⟩, ⟨by (with_reducible repeat (first | apply Kd.R_alloc | apply Kd.R_drewN | apply Kd.R_drew)); exact HO207.out⟩, ⟨by repeat (first | (with_reducible first | exact HB.out | apply below_alloc | apply pw_below_drewN | apply below_drew1) | exact HB.out)⟩⟩
              · rw [if_neg c19] at H
                have c19b0 : decide (t200 < 0) = false := decide_eq_false c19
                clear c19
                replace H := Option.bind_eq_some_iff.mp H
                obtain ⟨t209, A210, H⟩ := H
                replace H : (laws_FnMerged.j0 k t199 t200 t201 t202 t203 t205 (decide (t200 ≥ t209))) = some true := H
                have A21 := Aside0.mk A210
                clear A210
                have H' := Aside0.mk H
                clear H
                obtain ⟨Ao22, co22, eo22⟩ := Kd.R_slice HO207.out
                subst eo22
                go_wp2_with (first | (go_at_call 33; (with_reducible refine (impl_LimitOf.calls 2 t208 _ A16.out).mono ?_); rintro e w' ⟨rfl, ⟨nd, rfl⟩⟩; (try first | exact ⟨rfl, _, World.drewN_drewN _ _ _⟩ | exact ⟨rfl, _, Eq.trans (World.drewN_drewN _ _ _) (congrArg (World.drewN _) (Nat.add_assoc _ _ _))⟩)) | (go_at_call 33; (with_reducible refine (impl_LimitOf.calls t202 t209 _ A21.out).mono ?_); rintro e w' ⟨rfl, ⟨nd, rfl⟩⟩; (try first | exact ⟨rfl, _, World.drewN_drewN _ _ _⟩ | exact ⟨rfl, _, Eq.trans (World.drewN_drewN _ _ _) (congrArg (World.drewN _) (Nat.add_assoc _ _ _))⟩)))
                repeat (go_quiet (first | (go_at_call 33; (with_reducible refine (impl_LimitOf.calls 2 t208 _ A16.out).mono ?_); rintro e w' ⟨rfl, ⟨nd, rfl⟩⟩; (try first | exact ⟨rfl, _, World.drewN_drewN _ _ _⟩ | exact ⟨rfl, _, Eq.trans (World.drewN_drewN _ _ _) (congrArg (World.drewN _) (Nat.add_assoc _ _ _))⟩)) | (go_at_call 33; (with_reducible refine (impl_LimitOf.calls t202 t209 _ A21.out).mono ?_); rintro e w' ⟨rfl, ⟨nd, rfl⟩⟩; (try first | exact ⟨rfl, _, World.drewN_drewN _ _ _⟩ | exact ⟨rfl, _, Eq.trans (World.drewN_drewN _ _ _) (congrArg (World.drewN _) (Nat.add_assoc _ _ _))⟩))); try go_wp2_with (first | (go_at_call 33; (with_reducible refine (impl_LimitOf.calls 2 t208 _ A16.out).mono ?_); rintro e w' ⟨rfl, ⟨nd, rfl⟩⟩; (try first | exact ⟨rfl, _, World.drewN_drewN _ _ _⟩ | exact ⟨rfl, _, Eq.trans (World.drewN_drewN _ _ _) (congrArg (World.drewN _) (Nat.add_assoc _ _ _))⟩)) | (go_at_call 33; (with_reducible refine (impl_LimitOf.calls t202 t209 _ A21.out).mono ?_); rintro e w' ⟨rfl, ⟨nd, rfl⟩⟩; (try first | exact ⟨rfl, _, World.drewN_drewN _ _ _⟩ | exact ⟨rfl, _, Eq.trans (World.drewN_drewN _ _ _) (congrArg (World.drewN _) (Nat.add_assoc _ _ _))⟩))))
                go_meet
                case rel => exact ⟨_, (decide (t200 ≥ t209)), (by first | rfl | (simp; done) | (simp [*]; done)), H', ⟨by first | omega | exact Nat.le_refl _⟩, ⟨by (with_reducible repeat (first | apply Kd.R_alloc | apply Kd.R_drewN | apply Kd.R_drew)); exact HO207.out⟩, ⟨by repeat (first | (with_reducible first | exact HB.out | apply below_alloc | apply pw_below_drewN | apply below_drew1) | exact HB.out)⟩⟩
      case rest =>
        clear HC9
        try clear c1
        try clear p2
        try clear c3
        try clear c7
        try clear c7b0
        try clear c7b1
        try clear c9
        try clear c12
        try clear c12b0
        try clear c12b1
        try clear c12b2
        try clear c14
        try clear c14b0
        try clear c17
        try clear c17b0
        try clear c19
        try clear c19b0
        obtain ⟨kq, x56_8, rfl, HA, HJ8, HO_8, HB⟩ := hcut
        cases kq with
        | zero => exact absurd HA.out (by simp [laws_FnMerged.j0])
        | succ kj8 =>
          have H := HA.out
          clear HA
          simp only [laws_FnMerged.j0] at H
          by_cases c23 : x56_8 = true
          · subst c23
            have H1 : (if t203 = t199 then (if (t205.length : Int) = 4 then (some true) else ((spec_Strobes.f kj8 t201 t202).bind fun t210 => (some ((t210.length : Int) == 0)))) else (some false)) = some true := by rw [if_pos rfl] at H; exact H
            clear H
            have H := H1
            clear H1
            by_cases c24 : t203 = t199
            · rw [if_pos c24] at H
              have c24b0 : (t203 == t199) = true := beq_iff_eq.mpr c24
              have c24b1 : (t203 != t199) = false := bne_eq_false_iff_eq.mpr c24
              clear c24
              by_cases c25 : (t205.length : Int) = 4
              · rw [if_pos c25] at H
                have c25b0 : ((t205.length : Int) == 4) = true := beq_iff_eq.mpr c25
                have c25b1 : ((t205.length : Int) != 4) = false := bne_eq_false_iff_eq.mpr c25
                clear c25
                clear H
                obtain ⟨Ao26, co26, eo26⟩ := Kd.R_slice HO_8.out
                subst eo26
                go_wp2
                repeat (go_quiet (fail); try go_wp2)
                go_ret
                exact ⟨by first | rfl | (simp [errW_none, errW_some] <;> rfl) | (simp [*, errW_none, errW_some] <;> rfl), by repeat (first | (with_reducible first | exact HB.out | apply below_alloc | apply pw_below_drewN | apply below_drew1) | exact HB.out)⟩
              · rw [if_neg c25] at H
                have c25b0 : ((t205.length : Int) == 4) = false := beq_eq_false_iff_ne.mpr c25
                have c25b1 : ((t205.length : Int) != 4) = true := bne_iff_ne.mpr c25
                replace H := Option.bind_eq_some_iff.mp H
                obtain ⟨t210, A270, H⟩ := H
                replace H : (some ((t210.length : Int) == 0)) = some true := H
                have A27 := Aside0.mk A270
                clear A270
                have HV := Option.some.inj H
                clear H
                obtain ⟨Ao28, co28, eo28⟩ := Kd.R_slice HO_8.out
                subst eo28
                go_wp2_with (first | (go_at_call 14; (with_reducible refine (spec_Strobes.calls kj8 t201 t202 t210 _ A27.out).mono ?_); rintro e w29 ⟨v211, rfl, ho0, hb⟩; have n0_ := Aside0.mk (Kd.R_elder' (by (with_reducible repeat (first | apply Kd.R_alloc | apply Kd.R_drewN | apply Kd.R_drew)); exact HO_8.out) (Kd.R_base ho0) hb); have n1_ := Aside0.mk (Kd.R_lower (Kd.R_new' ho0 (Kd.R_lt (by (with_reducible repeat (first | apply Kd.R_alloc | apply Kd.R_drewN | apply Kd.R_drew)); exact HO_8.out))) (below_size (by repeat (first | (with_reducible first | exact HB.out | apply below_alloc | apply pw_below_drewN | apply below_drew1) | exact HB.out)))); have n2_ := Aside0.mk (below_step (by repeat (first | (with_reducible first | exact HB.out | apply below_alloc | apply pw_below_drewN | apply below_drew1) | exact HB.out)) hb); clear HO_8; clear HB; have HO_8 := n0_; have HO212 := n1_; have HB := n2_; clear n0_ n1_ n2_; (try clear hb); (try clear hb2); (try clear hk); (try clear hi); (try clear ho0); obtain ⟨Ao30, co30, eo30⟩ := Kd.R_slice HO212.out; subst eo30))
                repeat (go_quiet (first | (go_at_call 14; (with_reducible refine (spec_Strobes.calls kj8 t201 t202 t210 _ A27.out).mono ?_); rintro e w29 ⟨v211, rfl, ho0, hb⟩; have n0_ := Aside0.mk (Kd.R_elder' (by (with_reducible repeat (first | apply Kd.R_alloc | apply Kd.R_drewN | apply Kd.R_drew)); exact HO_8.out) (Kd.R_base ho0) hb); have n1_ := Aside0.mk (Kd.R_lower (Kd.R_new' ho0 (Kd.R_lt (by (with_reducible repeat (first | apply Kd.R_alloc | apply Kd.R_drewN | apply Kd.R_drew)); exact HO_8.out))) (below_size (by repeat (first | (with_reducible first | exact HB.out | apply below_alloc | apply pw_below_drewN | apply below_drew1) | exact HB.out)))); have n2_ := Aside0.mk (below_step (by repeat (first | (with_reducible first | exact HB.out | apply below_alloc | apply pw_below_drewN | apply below_drew1) | exact HB.out)) hb); clear HO_8; clear HB; have HO_8 := n0_; have HO212 := n1_; have HB := n2_; clear n0_ n1_ n2_; (try clear hb); (try clear hb2); (try clear hk); (try clear hi); (try clear ho0); obtain ⟨Ao30, co30, eo30⟩ := Kd.R_slice HO212.out; subst eo30)); try go_wp2_with (first | (go_at_call 14; (with_reducible refine (spec_Strobes.calls kj8 t201 t202 t210 _ A27.out).mono ?_); rintro e w29 ⟨v211, rfl, ho0, hb⟩; have n0_ := Aside0.mk (Kd.R_elder' (by (with_reducible repeat (first | apply Kd.R_alloc | apply Kd.R_drewN | apply Kd.R_drew)); exact HO_8.out) (Kd.R_base ho0) hb); have n1_ := Aside0.mk (Kd.R_lower (Kd.R_new' ho0 (Kd.R_lt (by (with_reducible repeat (first | apply Kd.R_alloc | apply Kd.R_drewN | apply Kd.R_drew)); exact HO_8.out))) (below_size (by repeat (first | (with_reducible first | exact HB.out | apply below_alloc | apply pw_below_drewN | apply below_drew1) | exact HB.out)))); have n2_ := Aside0.mk (below_step (by repeat (first | (with_reducible first | exact HB.out | apply below_alloc | apply pw_below_drewN | apply below_drew1) | exact HB.out)) hb); clear HO_8; clear HB; have HO_8 := n0_; have HO212 := n1_; have HB := n2_; clear n0_ n1_ n2_; (try clear hb); (try clear hb2); (try clear hk); (try clear hi); (try clear ho0); obtain ⟨Ao30, co30, eo30⟩ := Kd.R_slice HO212.out; subst eo30)))
                go_ret
                exact ⟨by first | rfl | (simp [errW_none, errW_some] <;> rfl) | (simp [*, errW_none, errW_some] <;> rfl), by repeat (first | (with_reducible first | exact HB.out | apply below_alloc | apply pw_below_drewN | apply below_drew1) | exact HB.out)⟩
            · rw [if_neg c24] at H
              have c24b0 : (t203 == t199) = false := beq_eq_false_iff_ne.mpr c24
              have c24b1 : (t203 != t199) = true := bne_iff_ne.mpr c24
              exact absurd (Option.some.inj H) (by decide)
          · replace c23 := Bool.eq_false_iff.mpr c23
            subst c23
            have H1 : (laws_FnMerged.l0 kj8 t199 t200 t201 t202 t203 t205 0 0) = some true := by rw [if_neg (show ¬ (false = true) by decide)] at H; exact H
            clear H
            have H := H1
            clear H1
            have H' := Aside0.mk H
            clear H
            go_wp2
            repeat (go_quiet (fail); try go_wp2)
            go_loopg [9, 10] kj8 (fun kq v9 v10 w' => ∃ (x9_2 : Int) (x10_2 : Int), v9 = .int .i64 x9_2 ∧ v10 = .int .i64 x10_2 ∧ Aside0 (laws_FnMerged.l0 kq t199 t200 t201 t202 t203 t205 x9_2 x10_2 = some true) ∧ Aside0 (kq ≤ kj8) ∧ Aside0 (Kd.R Kd.bool 4 w' w.heap.size (fun _ => True) v206 t205) ∧ Aside0 (Below w.heap.size w w'))
            case atStart => exact ⟨(0), (0), (by first | rfl | (simp; done) | (simp [*]; done)), (by first | rfl | (simp; done) | (simp [*]; done)), H', ⟨Nat.le_refl _⟩, ⟨by (with_reducible repeat (first | apply Kd.R_alloc | apply Kd.R_drewN | apply Kd.R_drew)); exact HO_8.out⟩, ⟨by repeat (first | (with_reducible first | exact HB.out | apply below_alloc | apply pw_below_drewN | apply below_drew1) | exact HB.out)⟩⟩
            case round =>
              clear H'
              try clear c1
              try clear c2
              try clear p2
              try clear c3
              try clear c7
              try clear c7b0
              try clear c7b1
              try clear c9
              try clear c12
              try clear c12b0
              try clear c12b1
              try clear c12b2
              try clear c14
              try clear c14b0
              try clear c17
              try clear c17b0
              try clear c19
              try clear c19b0
              try clear c23
              try clear c24
              try clear c24b0
              try clear c24b1
              try clear c25
              try clear c25b0
              try clear c25b1
              try clear p2
              obtain ⟨x9_2, x10_2, rfl, rfl, HA, HK2, HO_8, HB⟩ := hrel
              cases gk with
              | zero => exact absurd HA.out (by simp [laws_FnMerged.l0])
              | succ k2 =>
                have H := HA.out
                clear HA
                simp only [laws_FnMerged.l0] at H
                by_cases c31 : x10_2 < 4
                · rw [if_pos c31] at H
                  have c31b0 : decide (x10_2 < 4) = true := decide_eq_true c31
                  clear c31
                  have HC32 := Aside0.mk H
                  clear H
                  go_upto_region 14 with (fail)
                  repeat (go_quiet (fail); go_upto_region 14 with (fail))
                  go_cut [98] (fun v98 wc => ∃ (kq : Nat) (x98_31 : Bool), v98 = .bool x98_31 ∧ Aside0 (laws_FnMerged.j2 kq t199 t200 t201 t202 t203 t205 x9_2 x10_2 x98_31 = some true) ∧ Aside0 (kq ≤ k2) ∧ Aside0 (Kd.R Kd.bool 4 wc w.heap.size (fun _ => True) v206 t205) ∧ Aside0 (Below w.heap.size w wc))
                  case first =>
                    have H := HC32.out
                    clear HC32
                    by_cases c33 : (t205.length : Int) = 4
                    · rw [if_pos c33] at H
                      have c33b0 : ((t205.length : Int) == 4) = true := beq_iff_eq.mpr c33
                      have c33b1 : ((t205.length : Int) != 4) = false := bne_eq_false_iff_eq.mpr c33
                      clear c33
                      (first | rw [c33b0] | (simp only [i64_w, i32_w]; rw [c33b0]) | skip)
                      by_cases c34 : 0 ≤ x10_2
                      · rw [if_pos c34] at H
                        have c34b0 : decide (0 ≤ x10_2) = true := decide_eq_true c34
                        clear c34
                        by_cases c35 : x10_2 < (t205.length : Int)
                        · rw [if_pos c35] at H
                          have c35b0 : decide (x10_2 < (t205.length : Int)) = true := decide_eq_true c35
                          clear c35
                          obtain ⟨bq36, hbq36⟩ : ∃ b_ : Bool, b_ = (rdOf false t205 x10_2) := ⟨_, rfl⟩
                          replace H : (if bq36 = true then (laws_FnMerged.j2 k2 t199 t200 t201 t202 t203 t205 x9_2 x10_2 false) else (if 0 ≤ (wrap64 (8 * x10_2)) then (laws_FnMerged.j2 k2 t199 t200 t201 t202 t203 t205 x9_2 x10_2 ((Int.tmod (shr .i64 t203 (wrap64 (8 * x10_2))) 256) != (Int.tmod (shr .i64 t199 (wrap64 (8 * x10_2))) 256))) else (none))) = some true := by rw [← hbq36] at H; exact H
                          have Nbq36 := Aside0.mk hbq36
                          clear hbq36
                          by_cases c37 : bq36 = true
                          · subst c37
                            have H1 : (laws_FnMerged.j2 k2 t199 t200 t201 t202 t203 t205 x9_2 x10_2 false) = some true := by rw [if_pos rfl] at H; exact H
                            clear H
                            have H := H1
                            clear H1
                            have H' := Aside0.mk H
                            clear H
                            obtain ⟨Ao38, co38, eo38⟩ := Kd.R_slice HO_8.out
                            subst eo38
                            have p215 : 0 ≤ (x10_2 : Int) := of_decide_eq_true (by first | (with_reducible assumption) | assumption)
                            have q215 : x10_2 < (t205.length : Int) := of_decide_eq_true (by first | (with_reducible assumption) | assumption)
                            obtain ⟨ad215, e215, hx215_0⟩ := Kd.at_bool (Kd.R_reads' HO_8.out).2.2 x10_2 p215 q215
                            (try rw [← Nbq36.out] at hx215_0)
                            cases e215
                            replace p215 := eq_true p215
                            replace q215 := eq_true q215
                            go_wp2
                            repeat (go_quiet (fail); try go_wp2)
                            go_meet
                            case rel => exact ⟨_, (false), (by first | rfl | (simp; done) | (simp [*]; done)), H', ⟨by have := HJ8.out; have := HK2.out; first | omega | exact Nat.le_refl _⟩, ⟨by (with_reducible repeat (first | apply Kd.R_alloc | apply Kd.R_drewN | apply Kd.R_drew)); exact HO_8.out⟩, ⟨by repeat (first | (with_reducible first | exact HB.out | apply below_alloc | apply pw_below_drewN | apply below_drew1) | exact HB.out)⟩⟩
                          · replace c37 := Bool.eq_false_iff.mpr c37
                            subst c37
                            have H1 : (if 0 ≤ (wrap64 (8 * x10_2)) then (laws_FnMerged.j2 k2 t199 t200 t201 t202 t203 t205 x9_2 x10_2 ((Int.tmod (shr .i64 t203 (wrap64 (8 * x10_2))) 256) != (Int.tmod (shr .i64 t199 (wrap64 (8 * x10_2))) 256))) else (none)) = some true := by rw [if_neg (show ¬ (false = true) by decide)] at H; exact H
                            clear H
                            have H := H1
                            clear H1
                            obtain ⟨ji39, hji39⟩ : ∃ j_ : Int, (wrap64 (8 * x10_2)) = j_ := ⟨_, rfl⟩
                            replace H : (if 0 ≤ (ji39) then (laws_FnMerged.j2 k2 t199 t200 t201 t202 t203 t205 x9_2 x10_2 ((Int.tmod (shr .i64 t203 (ji39)) 256) != (Int.tmod (shr .i64 t199 (ji39)) 256))) else (none)) = some true := by first | (rw [hji39] at H; exact H) | (simp only [hji39] at H ⊢; exact H)
                            have hji39w : (IntKind.i64.wrap (8 * x10_2)) = ji39 := (i64_w _).trans hji39
                            by_cases c40 : 0 ≤ (ji39)
                            · rw [if_pos c40] at H
                              have c40b0 := eq_true c40
                              have c40b1 : decide (0 ≤ (ji39)) = true := decide_eq_true c40
                              clear c40
                              obtain ⟨ji41, hji41⟩ : ∃ j_ : Int, (shr .i64 t203 (ji39)) = j_ := ⟨_, rfl⟩
                              replace H : (laws_FnMerged.j2 k2 t199 t200 t201 t202 t203 t205 x9_2 x10_2 ((Int.tmod (ji41) 256) != (Int.tmod (shr .i64 t199 (ji39)) 256))) = some true := by first | (rw [hji41] at H; exact H) | (simp only [hji41] at H ⊢; exact H)
                              have hji41_ : (t203 / 2 ^ min (ji39).toNat 64) = ji41 := hji41
                              have hji41z : (ji39) ≤ 64 → (t203 / 2 ^ (ji39).toNat) = ji41 := shr_small hji41
                              have c42b0 := eq_true (of_decide_eq_true (by first | (with_reducible assumption) | assumption) : 0 ≤ (ji39))
                              obtain ⟨ji43, hji43⟩ : ∃ j_ : Int, (shr .i64 t199 (ji39)) = j_ := ⟨_, rfl⟩
                              replace H : (laws_FnMerged.j2 k2 t199 t200 t201 t202 t203 t205 x9_2 x10_2 ((Int.tmod (ji41) 256) != (Int.tmod (ji43) 256))) = some true := by first | (rw [hji43] at H; exact H) | (simp only [hji43] at H ⊢; exact H)
                              have hji43_ : (t199 / 2 ^ min (ji39).toNat 64) = ji43 := hji43
                              have hji43z : (ji39) ≤ 64 → (t199 / 2 ^ (ji39).toNat) = ji43 := shr_small hji43
                              have H' := Aside0.mk H
                              clear H
                              obtain ⟨Ao44, co44, eo44⟩ := Kd.R_slice HO_8.out
                              subst eo44
                              have p215 : 0 ≤ (x10_2 : Int) := of_decide_eq_true (by first | (with_reducible assumption) | assumption)
                              have q215 : x10_2 < (t205.length : Int) := of_decide_eq_true (by first | (with_reducible assumption) | assumption)
                              obtain ⟨ad215, e215, hx215_0⟩ := Kd.at_bool (Kd.R_reads' HO_8.out).2.2 x10_2 p215 q215
                              (try rw [← Nbq36.out] at hx215_0)
                              cases e215
                              replace p215 := eq_true p215
                              replace q215 := eq_true q215
                              go_wp2
                              repeat (go_quiet (fail); try go_wp2)
                              go_meet
                              case rel => exact ⟨_, (((Int.tmod (ji41) 256) != (Int.tmod (ji43) 256))), (by first | rfl | (simp; done) | (simp only [← hji41, ← hji43] <;> (first | rfl | simp)) | (simp [*]; done)), H', ⟨by have := HJ8.out; have := HK2.out; first | omega | exact Nat.le_refl _⟩, ⟨by (with_reducible repeat (first | apply Kd.R_alloc | apply Kd.R_drewN | apply Kd.R_drew)); exact HO_8.out⟩, ⟨by repeat (first | (with_reducible first | exact HB.out | apply below_alloc | apply pw_below_drewN | apply below_drew1) | exact HB.out)⟩⟩
                            · rw [if_neg c40] at H
                              exact absurd H (by simp)
                        · rw [if_neg c35] at H
                          exact absurd H (by simp)
                      · rw [if_neg c34] at H
                        exact absurd H (by simp)
                    · rw [if_neg c33] at H
                      have c33b0 : ((t205.length : Int) == 4) = false := beq_eq_false_iff_ne.mpr c33
                      have c33b1 : ((t205.length : Int) != 4) = true := bne_iff_ne.mpr c33
                      (first | rw [c33b0] | (simp only [i64_w, i32_w]; rw [c33b0]) | skip)
                      exact absurd H (by cases k2 <;> simp [laws_FnMerged.j2])
                  case rest =>
                    clear HC32
                    try clear c1
                    try clear c2
                    try clear p2
                    try clear q2
                    try clear hx2
                    try clear c3
                    try clear q3
                    try clear c4
                    try clear p6
                    try clear c7
                    try clear c7b0
                    try clear c7b1
                    try clear c9
                    try clear c12
                    try clear c12b0
                    try clear c12b1
                    try clear c12b2
                    try clear c14
                    try clear c14b0
                    try clear c17
                    try clear c17b0
                    try clear c19
                    try clear c19b0
                    try clear p21
                    try clear q21
                    try clear hx21
                    try clear c23
                    try clear c24
                    try clear c24b0
                    try clear c24b1
                    try clear c25
                    try clear c25b0
                    try clear c25b1
                    try clear c31
                    try clear c31b0
                    try clear c33
                    try clear c33b0
                    try clear c33b1
                    try clear c34
                    try clear c34b0
                    try clear c35
                    try clear c35b0
                    try clear q36
                    try clear c37
                    try clear c40
                    try clear c40b0
                    try clear c40b1
                    try clear c42
                    try clear c42b0
                    try clear hx215_0
                    try clear p2
                    try clear p215
                    try clear q215
                    obtain ⟨kq, x98_31, rfl, HA, HJ31, HO_8, HB⟩ := hcut
                    cases kq with
                    | zero => exact absurd HA.out (by simp [laws_FnMerged.j2])
                    | succ kj31 =>
                      have H := HA.out
                      clear HA
                      simp only [laws_FnMerged.j2] at H
                      by_cases c45 : x98_31 = true
                      · subst c45
                        have H1 : (some false) = some true := by rw [if_pos rfl] at H; exact H
                        clear H
                        have H := H1
                        clear H1
                        exact absurd (Option.some.inj H) (by decide)
                      · replace c45 := Bool.eq_false_iff.mpr c45
                        subst c45
                        have H1 : (if 0 ≤ x10_2 then (if x10_2 < (t205.length : Int) then (if rdOf false t205 x10_2 = true then (laws_FnMerged.l0 kj31 t199 t200 t201 t202 t203 t205 (wrap64 (x9_2 + 1)) (wrap64 (x10_2 + 1))) else (laws_FnMerged.l0 kj31 t199 t200 t201 t202 t203 t205 x9_2 (wrap64 (x10_2 + 1)))) else (none)) else (none)) = some true := by rw [if_neg (show ¬ (false = true) by decide)] at H; exact H
                        clear H
                        have H := H1
                        clear H1
                        by_cases c46 : 0 ≤ x10_2
                        · rw [if_pos c46] at H
                          have c46b0 : decide (0 ≤ x10_2) = true := decide_eq_true c46
                          clear c46
                          by_cases c47 : x10_2 < (t205.length : Int)
                          · rw [if_pos c47] at H
                            have c47b0 : decide (x10_2 < (t205.length : Int)) = true := decide_eq_true c47
                            clear c47
                            obtain ⟨bq48, hbq48⟩ : ∃ b_ : Bool, b_ = (rdOf false t205 x10_2) := ⟨_, rfl⟩
                            replace H : (if bq48 = true then (laws_FnMerged.l0 kj31 t199 t200 t201 t202 t203 t205 (wrap64 (x9_2 + 1)) (wrap64 (x10_2 + 1))) else (laws_FnMerged.l0 kj31 t199 t200 t201 t202 t203 t205 x9_2 (wrap64 (x10_2 + 1)))) = some true := by rw [← hbq48] at H; exact H
                            have Nbq48 := Aside0.mk hbq48
                            clear hbq48
                            by_cases c49 : bq48 = true
                            · subst c49
                              have H1 : (laws_FnMerged.l0 kj31 t199 t200 t201 t202 t203 t205 (wrap64 (x9_2 + 1)) (wrap64 (x10_2 + 1))) = some true := by rw [if_pos rfl] at H; exact H
                              clear H
                              have H := H1
                              clear H1
                              have H' := Aside0.mk H
                              clear H
                              obtain ⟨Ao50, co50, eo50⟩ := Kd.R_slice HO_8.out
                              subst eo50
                              have p216 : 0 ≤ (x10_2 : Int) := of_decide_eq_true (by first | (with_reducible assumption) | assumption)
                              have q216 : x10_2 < (t205.length : Int) := of_decide_eq_true (by first | (with_reducible assumption) | assumption)
                              obtain ⟨ad216, e216, hx216_0⟩ := Kd.at_bool (Kd.R_reads' HO_8.out).2.2 x10_2 p216 q216
                              (try rw [← Nbq48.out] at hx216_0)
                              cases e216
                              replace p216 := eq_true p216
                              replace q216 := eq_true q216
                              go_wp2
                              repeat (go_quiet (fail); try go_wp2)
                              go_roundg kj31
                              case measure => have := HJ8.out; have := HK2.out; have := HJ31.out; omega
                              case rel => exact ⟨(wrap64 (x9_2 + 1)), (wrap64 (x10_2 + 1)), (by first | rfl | (simp; done) | (simp [*]; done)), (by first | rfl | (simp; done) | (simp [*]; done)), H', ⟨by have := HJ8.out; have := HK2.out; have := HJ31.out; omega⟩, ⟨by (with_reducible repeat (first | apply Kd.R_alloc | apply Kd.R_drewN | apply Kd.R_drew)); exact HO_8.out⟩, ⟨by repeat (first | (with_reducible first | exact HB.out | apply below_alloc | apply pw_below_drewN | apply below_drew1) | exact HB.out)⟩⟩
                            · replace c49 := Bool.eq_false_iff.mpr c49
                              subst c49
                              have H1 : (laws_FnMerged.l0 kj31 t199 t200 t201 t202 t203 t205 x9_2 (wrap64 (x10_2 + 1))) = some true := by rw [if_neg (show ¬ (false = true) by decide)] at H; exact H
                              clear H
                              have H := H1
                              clear H1
                              have H' := Aside0.mk H
                              clear H
                              obtain ⟨Ao51, co51, eo51⟩ := Kd.R_slice HO_8.out
                              subst eo51
                              have p216 : 0 ≤ (x10_2 : Int) := of_decide_eq_true (by first | (with_reducible assumption) | assumption)
                              have q216 : x10_2 < (t205.length : Int) := of_decide_eq_true (by first | (with_reducible assumption) | assumption)
                              obtain ⟨ad216, e216, hx216_0⟩ := Kd.at_bool (Kd.R_reads' HO_8.out).2.2 x10_2 p216 q216
                              (try rw [← Nbq48.out] at hx216_0)
                              cases e216
                              replace p216 := eq_true p216
                              replace q216 := eq_true q216
                              go_wp2
                              repeat (go_quiet (fail); try go_wp2)
                              go_roundg kj31
                              case measure => have := HJ8.out; have := HK2.out; have := HJ31.out; omega
                              case rel => exact ⟨(x9_2), (wrap64 (x10_2 + 1)), (by first | rfl | (simp; done) | (simp [*]; done)), (by first | rfl | (simp; done) | (simp [*]; done)), H', ⟨by have := HJ8.out; have := HK2.out; have := HJ31.out; omega⟩, ⟨by (with_reducible repeat (first | apply Kd.R_alloc | apply Kd.R_drewN | apply Kd.R_drew)); exact HO_8.out⟩, ⟨by repeat (first | (with_reducible first | exact HB.out | apply below_alloc | apply pw_below_drewN | apply below_drew1) | exact HB.out)⟩⟩
                          · rw [if_neg c47] at H
                            exact absurd H (by simp)
                        · rw [if_neg c46] at H
                          exact absurd H (by simp)
                · rw [if_neg c31] at H
                  have c31b0 : decide (x10_2 < 4) = false := decide_eq_false c31
                  clear c31
                  replace H := Option.bind_eq_some_iff.mp H
                  obtain ⟨t213, A520, H⟩ := H
                  replace H : (if x9_2 = t213 then (if 0 ≤ (wrap64 (8 * (Int.tmod t201 4))) then ((impl_LimitOf.f t202).bind fun t214 => (if t214 = 0 then (none) else (some ((Int.tmod (shr .i64 t203 (wrap64 (8 * (Int.tmod t201 4)))) t214) == t200)))) else (none)) else (some false)) = some true := H
                  have A52 := Aside0.mk A520
                  clear A520
                  by_cases c53 : x9_2 = t213
                  · rw [if_pos c53] at H
                    have c53b0 : (x9_2 == t213) = true := beq_iff_eq.mpr c53
                    have c53b1 : (x9_2 != t213) = false := bne_eq_false_iff_eq.mpr c53
                    clear c53
                    obtain ⟨ji54, hji54⟩ : ∃ j_ : Int, (wrap64 (8 * (Int.tmod t201 4))) = j_ := ⟨_, rfl⟩
                    replace H : (if 0 ≤ (ji54) then ((impl_LimitOf.f t202).bind fun t214 => (if t214 = 0 then (none) else (some ((Int.tmod (shr .i64 t203 (ji54)) t214) == t200)))) else (none)) = some true := by first | (rw [hji54] at H; exact H) | (simp only [hji54] at H ⊢; exact H)
                    (try rw [hji54] at A52)
                    have hji54w : (IntKind.i64.wrap (8 * (Int.tmod t201 4))) = ji54 := (i64_w _).trans hji54
                    by_cases c55 : 0 ≤ (ji54)
                    · rw [if_pos c55] at H
                      have c55b0 := eq_true c55
                      have c55b1 : decide (0 ≤ (ji54)) = true := decide_eq_true c55
                      clear c55
                      obtain ⟨ji56, hji56⟩ : ∃ j_ : Int, (shr .i64 t203 (ji54)) = j_ := ⟨_, rfl⟩
                      replace H : ((impl_LimitOf.f t202).bind fun t214 => (if t214 = 0 then (none) else (some ((Int.tmod (ji56) t214) == t200)))) = some true := by first | (rw [hji56] at H; exact H) | (simp only [hji56] at H ⊢; exact H)
                      (try rw [hji56] at A52)
                      have hji56_ : (t203 / 2 ^ min (ji54).toNat 64) = ji56 := hji56
                      have hji56z : (ji54) ≤ 64 → (t203 / 2 ^ (ji54).toNat) = ji56 := shr_small hji56
                      replace H := Option.bind_eq_some_iff.mp H
                      obtain ⟨t214, A570, H⟩ := H
                      replace H : (if t214 = 0 then (none) else (some ((Int.tmod (ji56) t214) == t200))) = some true := H
                      have A57 := Aside0.mk A570
                      clear A570
                      by_cases c58 : t214 = 0
                      · rw [if_pos c58] at H
                        exact absurd H (by simp)
                      · rw [if_neg c58] at H
                        have c58b0 : (t214 == 0) = false := beq_eq_false_iff_ne.mpr c58
                        have c58b1 : (t214 != 0) = true := bne_iff_ne.mpr c58
                        have HV := Option.some.inj H
                        clear H
                        go_wp2_with (first | (go_at_call 34; (with_reducible refine (impl_BytesOf.calls t202 t213 _ A52.out).mono ?_); rintro e w' ⟨rfl, ⟨nd, rfl⟩⟩; (try first | exact ⟨rfl, _, World.drewN_drewN _ _ _⟩ | exact ⟨rfl, _, Eq.trans (World.drewN_drewN _ _ _) (congrArg (World.drewN _) (Nat.add_assoc _ _ _))⟩)) | (go_at_call 33; (with_reducible refine (impl_LimitOf.calls t202 t214 _ A57.out).mono ?_); rintro e w' ⟨rfl, ⟨nd, rfl⟩⟩; (try first | exact ⟨rfl, _, World.drewN_drewN _ _ _⟩ | exact ⟨rfl, _, Eq.trans (World.drewN_drewN _ _ _) (congrArg (World.drewN _) (Nat.add_assoc _ _ _))⟩)))
                        repeat (go_quiet (first | (go_at_call 34; (with_reducible refine (impl_BytesOf.calls t202 t213 _ A52.out).mono ?_); rintro e w' ⟨rfl, ⟨nd, rfl⟩⟩; (try first | exact ⟨rfl, _, World.drewN_drewN _ _ _⟩ | exact ⟨rfl, _, Eq.trans (World.drewN_drewN _ _ _) (congrArg (World.drewN _) (Nat.add_assoc _ _ _))⟩)) | (go_at_call 33; (with_reducible refine (impl_LimitOf.calls t202 t214 _ A57.out).mono ?_); rintro e w' ⟨rfl, ⟨nd, rfl⟩⟩; (try first | exact ⟨rfl, _, World.drewN_drewN _ _ _⟩ | exact ⟨rfl, _, Eq.trans (World.drewN_drewN _ _ _) (congrArg (World.drewN _) (Nat.add_assoc _ _ _))⟩))); try go_wp2_with (first | (go_at_call 34; (with_reducible refine (impl_BytesOf.calls t202 t213 _ A52.out).mono ?_); rintro e w' ⟨rfl, ⟨nd, rfl⟩⟩; (try first | exact ⟨rfl, _, World.drewN_drewN _ _ _⟩ | exact ⟨rfl, _, Eq.trans (World.drewN_drewN _ _ _) (congrArg (World.drewN _) (Nat.add_assoc _ _ _))⟩)) | (go_at_call 33; (with_reducible refine (impl_LimitOf.calls t202 t214 _ A57.out).mono ?_); rintro e w' ⟨rfl, ⟨nd, rfl⟩⟩; (try first | exact ⟨rfl, _, World.drewN_drewN _ _ _⟩ | exact ⟨rfl, _, Eq.trans (World.drewN_drewN _ _ _) (congrArg (World.drewN _) (Nat.add_assoc _ _ _))⟩))))
                        go_ret
                        exact ⟨by first | rfl | (simp [errW_none, errW_some] <;> rfl) | (simp only [← hji54, ← hji56]; first | rfl | (simp [errW_none, errW_some] <;> rfl)) | (simp [*, errW_none, errW_some] <;> rfl), by repeat (first | (with_reducible first | exact HB.out | apply below_alloc | apply pw_below_drewN | apply below_drew1) | exact HB.out)⟩
                    · rw [if_neg c55] at H
                      exact absurd H (by simp)
                  · rw [if_neg c53] at H
                    have c53b0 : (x9_2 == t213) = false := beq_eq_false_iff_ne.mpr c53
                    have c53b1 : (x9_2 != t213) = true := bne_iff_ne.mpr c53
                    exact absurd (Option.some.inj H) (by decide)
    · rw [if_neg c7] at H
      have c7b0 : (t203 == t204) = false := beq_eq_false_iff_ne.mpr c7
      have c7b1 : (t203 != t204) = true := bne_iff_ne.mpr c7
      exact absurd (Option.some.inj H) (by decide)

/-- THE ONE PURE STATEMENT of laws_FnMerged: yours. -/
def laws_FnMerged.Pure : Prop := ∀ (l0 : List Int), l0.length ≤ maxLen → l0.length * 1 ≤ 140737488351232 → (∀ x ∈ l0, (Lit.int .u8 x).wf = true) → ∃ k, laws_FnMerged.f k l0 = some true
theorem laws_FnMerged.walk (P : laws_FnMerged.Pure) (a0 : Option Addr) (len0 cap0 : Nat) (z0 : List Int) (w : World) (w0 : (a0 = none ∧ len0 = 0 ∧ cap0 = 0 ∧ z0 = []) ∨ ∃ x, a0 = some x ∧ len0 ≤ cap0 ∧ cap0 ≤ maxLen ∧ z0.length = cap0 ∧ (∀ i, i < z0.length → w.cell? (x.add i) = some (.int .u8 (z0.getD i 0))) ∧ ∀ n ∈ z0, (Lit.int .u8 n).wf = true) (y0 : len0 * 1 ≤ 140737488351232) :
    Calls Try.prog 9 #[.slice a0 len0 cap0] w fun e w' => e = .returned (.bool true) ∧ Below w.heap.size w w' := by
  obtain ⟨l0, rfl, hr0, hm0, hw0, hc0⟩ := ReadsInt.ofRowC w0
  obtain ⟨k, h⟩ := P l0 hm0 y0 hw0
  refine (laws_FnMerged.calls k _ _ l0 w (Kd.C_of_reads (d := (0 : Int)) (h1 := fun _ => rfl) hr0) hc0 h).mono ?_
  rintro e w' ⟨rfl, hd⟩
  exact ⟨rfl, hd⟩

end Go.Proofs.Ytbljihnmljcgiaa.MFnMerged
