-- Written for this claim by a program of the session (wip/mk.py) over the kit's print.
import Derived.Test.YthikbgjlcdkoaaaMFnDevicesx0
import Derived.Test.YthikbgjlcdkoaaaMFnDevicesx1
import Derived.Test.YthikbgjlcdkoaaaMFnDevicesx2
import Derived.Test.YthikbgjlcdkoaaaMFnDevicesx4
import Derived.Test.YthikbgjlcdkoaaaMFnDevicesx6
import Derived.Test.YthikbgjlcdkoaaaMFnDevicesx7
namespace Go.Proofs.Ythikbgjlcdkoaaa.MFnDevices
open Go.RowKit Go.Proofs.YthikbgjlcdkoaaaW.PrintWords Go.Proofs.YthikbgjlcdkoaaaW.PrintLast Go.Proofs.YthikbgjlcdkoaaaW.PrintMore
attribute [local go_sem] max2_int min2_int max_two min_two max_three min_three max_four min_four   -- for this text's walks alone
set_option linter.unusedVariables false
set_option linter.unusedSimpArgs false

/-! ### laws_FnDevices: function 11 -/
mutual
def laws_FnDevices.j0 : Nat → Bool → Int → Int → Int → Bool → Bool → List Int → Int → List Int → List Int → Int → List Int → Option (Bool)
  | 0, _, _, _, _, _, _, _, _, _, _, _, _ => none
  | k + 1, x4, x5, x6, x8, x9, x63, x349000, x349001, x349002, x359000, x359001, x359002 => if x63 = true then (some false) else (if x9 = true then ((impl_DevOk.f k x359000 x359001 x359002).bind fun t373 => (if t373 = true then (if x4 = true then (laws_FnDevices.j1 k x4 x5 x6 x8 (x8 != x6) x349000 x349001 x349002 x359000 x359001 x359002) else (laws_FnDevices.j1 k x4 x5 x6 x8 false x349000 x349001 x349002 x359000 x359001 x359002)) else (laws_FnDevices.j1 k x4 x5 x6 x8 true x349000 x349001 x349002 x359000 x359001 x359002))) else (if x8 = 0 then ((spec_SameDev.f k x359000 x359001 x359002 x349000 x349001 x349002).bind fun t372 => (some t372)) else (some false)))
def laws_FnDevices.j1 : Nat → Bool → Int → Int → Int → Bool → List Int → Int → List Int → List Int → Int → List Int → Option (Bool)
  | 0, _, _, _, _, _, _, _, _, _, _, _ => none
  | k + 1, x4, x5, x6, x8, x83, x349000, x349001, x349002, x359000, x359001, x359002 => if x83 = true then (some false) else (if x4 = true then (laws_FnDevices.j2 k x4 x5 x6 x8 (decide (x5 < 16)) x349000 x349001 x349002 x359000 x359001 x359002) else (laws_FnDevices.j2 k x4 x5 x6 x8 false x349000 x349001 x349002 x359000 x359001 x359002))
def laws_FnDevices.j2 : Nat → Bool → Int → Int → Int → Bool → List Int → Int → List Int → List Int → Int → List Int → Option (Bool)
  | 0, _, _, _, _, _, _, _, _, _, _, _ => none
  | k + 1, x4, x5, x6, x8, x88, x349000, x349001, x349002, x359000, x359001, x359002 => if x88 = true then ((impl_DevDo.f k x359000 x359001 x359002 false x5 0).bind fun bt374 => (if bt374.2.2.2.2 = true then (some (bt374.2.2.2.1 == x6)) else (some false))) else (if x5 = 20 then (if x4 = true then (if (x359002.length : Int) = (wrap64 ((x349002.length : Int) + 1)) then (if 0 ≤ (x349002.length : Int) then (if (x349002.length : Int) < (x359002.length : Int) then (if (rd x359002 (x349002.length : Int)) = x6 then (some true) else (some false)) else (none)) else (none)) else (some false)) else (if (x359002.length : Int) = (wrap64 ((x349002.length : Int) - 1)) then (if 0 < (x349002.length : Int) then (some (x8 == (rd x349002 0))) else (none)) else (some false))) else (some true))
end
def laws_FnDevices.f (k : Nat) (l0 : List Int) : Option (Bool) := (laws_big.f l0).bind fun t337 => (if t337 = true then (some true) else ((spec_DrawDevDo.f k l0).bind fun bt338 => ((impl_DevDo.f k bt338.1 bt338.2.1 bt338.2.2.1 bt338.2.2.2.1 bt338.2.2.2.2.1 bt338.2.2.2.2.2).bind fun bt349 => ((spec_DevDo.f k bt338.1 bt338.2.1 bt338.2.2.1 bt338.2.2.2.1 bt338.2.2.2.2.1 bt338.2.2.2.2.2).bind fun bt359 => (if bt349.2.2.2.1 = bt359.2.2.2.1 then (if (bt349.2.2.2.2 != bt359.2.2.2.2) = true then (laws_FnDevices.j0 k bt338.2.2.2.1 bt338.2.2.2.2.1 bt338.2.2.2.2.2 bt349.2.2.2.1 bt349.2.2.2.2 true bt338.1 bt338.2.1 bt338.2.2.1 bt349.1 bt349.2.1 bt349.2.2.1) else ((spec_SameDev.f k bt349.1 bt349.2.1 bt349.2.2.1 bt359.1 bt359.2.1 bt359.2.2.1).bind fun t369 => (if t369 = true then ((impl_DevOk.f k bt338.1 bt338.2.1 bt338.2.2.1).bind fun t370 => ((spec_DevOk.f k bt338.1 bt338.2.1 bt338.2.2.1).bind fun t371 => (laws_FnDevices.j0 k bt338.2.2.2.1 bt338.2.2.2.2.1 bt338.2.2.2.2.2 bt349.2.2.2.1 bt349.2.2.2.2 (t370 != t371) bt338.1 bt338.2.1 bt338.2.2.1 bt349.1 bt349.2.1 bt349.2.2.1))) else (laws_FnDevices.j0 k bt338.2.2.2.1 bt338.2.2.2.2.1 bt338.2.2.2.2.2 bt349.2.2.2.1 bt349.2.2.2.2 true bt338.1 bt338.2.1 bt338.2.2.1 bt349.1 bt349.2.1 bt349.2.2.1)))) else (laws_FnDevices.j0 k bt338.2.2.2.1 bt338.2.2.2.2.1 bt338.2.2.2.2.2 bt349.2.2.2.1 bt349.2.2.2.2 true bt338.1 bt338.2.1 bt338.2.2.1 bt349.1 bt349.2.1 bt349.2.2.1))))))
theorem laws_FnDevices.mono_l : ∀ k, (∀ y0 y1 y2 y3 y4 y5 y6 y7 y8 y9 y10 y11, LeO (laws_FnDevices.j0 k y0 y1 y2 y3 y4 y5 y6 y7 y8 y9 y10 y11) (laws_FnDevices.j0 (k + 1) y0 y1 y2 y3 y4 y5 y6 y7 y8 y9 y10 y11)) ∧ (∀ y0 y1 y2 y3 y4 y5 y6 y7 y8 y9 y10, LeO (laws_FnDevices.j1 k y0 y1 y2 y3 y4 y5 y6 y7 y8 y9 y10) (laws_FnDevices.j1 (k + 1) y0 y1 y2 y3 y4 y5 y6 y7 y8 y9 y10)) ∧ (∀ y0 y1 y2 y3 y4 y5 y6 y7 y8 y9 y10, LeO (laws_FnDevices.j2 k y0 y1 y2 y3 y4 y5 y6 y7 y8 y9 y10) (laws_FnDevices.j2 (k + 1) y0 y1 y2 y3 y4 y5 y6 y7 y8 y9 y10))
  | 0 => ⟨fun _ _ _ _ _ _ _ _ _ _ _ _ r h => by simp [laws_FnDevices.j0] at h, fun _ _ _ _ _ _ _ _ _ _ _ r h => by simp [laws_FnDevices.j1] at h, fun _ _ _ _ _ _ _ _ _ _ _ r h => by simp [laws_FnDevices.j2] at h⟩
  | k + 1 => by
    obtain ⟨ih0, ih1, ih2⟩ := laws_FnDevices.mono_l k
    refine ⟨?_, ?_, ?_⟩
    · intro y0 y1 y2 y3 y4 y5 y6 y7 y8 y9 y10 y11
      unfold laws_FnDevices.j0
      repeat' first
      | (with_reducible exact ih0 _ _ _ _ _ _ _ _ _ _ _ _)
      | (with_reducible exact ih1 _ _ _ _ _ _ _ _ _ _ _)
      | (with_reducible exact ih2 _ _ _ _ _ _ _ _ _ _ _)
      | (with_reducible exact impl_DevDo.mono _ _ _ _ _ _ _)
      | (with_reducible exact impl_DevOk.mono _ _ _ _)
      | (with_reducible exact spec_DevDo.mono _ _ _ _ _ _ _)
      | (with_reducible exact spec_DevOk.mono _ _ _ _)
      | (with_reducible exact spec_DrawDevDo.mono _ _)
      | (with_reducible exact spec_SameDev.mono _ _ _ _ _ _ _)
      | (with_reducible exact LeO.refl _)
      | (with_reducible exact LeO.none _)
      | (with_reducible refine LeO.ite ?_ ?_)
      | (with_reducible refine LeO.bind ?_ (fun _ => ?_))
      | exact ih0 _ _ _ _ _ _ _ _ _ _ _ _
      | exact ih1 _ _ _ _ _ _ _ _ _ _ _
      | exact ih2 _ _ _ _ _ _ _ _ _ _ _
      | exact impl_DevDo.mono _ _ _ _ _ _ _
      | exact impl_DevOk.mono _ _ _ _
      | exact spec_DevDo.mono _ _ _ _ _ _ _
      | exact spec_DevOk.mono _ _ _ _
      | exact spec_DrawDevDo.mono _ _
      | exact spec_SameDev.mono _ _ _ _ _ _ _
      | exact LeO.none _
      | refine LeO.ite ?_ ?_
      | refine LeO.bind ?_ (fun _ => ?_)
    · intro y0 y1 y2 y3 y4 y5 y6 y7 y8 y9 y10
      unfold laws_FnDevices.j1
      repeat' first
      | (with_reducible exact ih0 _ _ _ _ _ _ _ _ _ _ _ _)
      | (with_reducible exact ih1 _ _ _ _ _ _ _ _ _ _ _)
      | (with_reducible exact ih2 _ _ _ _ _ _ _ _ _ _ _)
      | (with_reducible exact impl_DevDo.mono _ _ _ _ _ _ _)
      | (with_reducible exact impl_DevOk.mono _ _ _ _)
      | (with_reducible exact spec_DevDo.mono _ _ _ _ _ _ _)
      | (with_reducible exact spec_DevOk.mono _ _ _ _)
      | (with_reducible exact spec_DrawDevDo.mono _ _)
      | (with_reducible exact spec_SameDev.mono _ _ _ _ _ _ _)
      | (with_reducible exact LeO.refl _)
      | (with_reducible exact LeO.none _)
      | (with_reducible refine LeO.ite ?_ ?_)
      | (with_reducible refine LeO.bind ?_ (fun _ => ?_))
      | exact ih0 _ _ _ _ _ _ _ _ _ _ _ _
      | exact ih1 _ _ _ _ _ _ _ _ _ _ _
      | exact ih2 _ _ _ _ _ _ _ _ _ _ _
      | exact impl_DevDo.mono _ _ _ _ _ _ _
      | exact impl_DevOk.mono _ _ _ _
      | exact spec_DevDo.mono _ _ _ _ _ _ _
      | exact spec_DevOk.mono _ _ _ _
      | exact spec_DrawDevDo.mono _ _
      | exact spec_SameDev.mono _ _ _ _ _ _ _
      | exact LeO.none _
      | refine LeO.ite ?_ ?_
      | refine LeO.bind ?_ (fun _ => ?_)
    · intro y0 y1 y2 y3 y4 y5 y6 y7 y8 y9 y10
      unfold laws_FnDevices.j2
      repeat' first
      | (with_reducible exact ih0 _ _ _ _ _ _ _ _ _ _ _ _)
      | (with_reducible exact ih1 _ _ _ _ _ _ _ _ _ _ _)
      | (with_reducible exact ih2 _ _ _ _ _ _ _ _ _ _ _)
      | (with_reducible exact impl_DevDo.mono _ _ _ _ _ _ _)
      | (with_reducible exact impl_DevOk.mono _ _ _ _)
      | (with_reducible exact spec_DevDo.mono _ _ _ _ _ _ _)
      | (with_reducible exact spec_DevOk.mono _ _ _ _)
      | (with_reducible exact spec_DrawDevDo.mono _ _)
      | (with_reducible exact spec_SameDev.mono _ _ _ _ _ _ _)
      | (with_reducible exact LeO.refl _)
      | (with_reducible exact LeO.none _)
      | (with_reducible refine LeO.ite ?_ ?_)
      | (with_reducible refine LeO.bind ?_ (fun _ => ?_))
      | exact ih0 _ _ _ _ _ _ _ _ _ _ _ _
      | exact ih1 _ _ _ _ _ _ _ _ _ _ _
      | exact ih2 _ _ _ _ _ _ _ _ _ _ _
      | exact impl_DevDo.mono _ _ _ _ _ _ _
      | exact impl_DevOk.mono _ _ _ _
      | exact spec_DevDo.mono _ _ _ _ _ _ _
      | exact spec_DevOk.mono _ _ _ _
      | exact spec_DrawDevDo.mono _ _
      | exact spec_SameDev.mono _ _ _ _ _ _ _
      | exact LeO.none _
      | refine LeO.ite ?_ ?_
      | refine LeO.bind ?_ (fun _ => ?_)
theorem laws_FnDevices.mono : ∀ a0 k, LeO (laws_FnDevices.f k a0) (laws_FnDevices.f (k + 1) a0) := by
  intro a0 k
  obtain ⟨ih0, ih1, ih2⟩ := laws_FnDevices.mono_l k
  unfold laws_FnDevices.f
  repeat' first
      | (with_reducible exact ih0 _ _ _ _ _ _ _ _ _ _ _ _)
      | (with_reducible exact ih1 _ _ _ _ _ _ _ _ _ _ _)
      | (with_reducible exact ih2 _ _ _ _ _ _ _ _ _ _ _)
      | (with_reducible exact impl_DevDo.mono _ _ _ _ _ _ _)
      | (with_reducible exact impl_DevOk.mono _ _ _ _)
      | (with_reducible exact spec_DevDo.mono _ _ _ _ _ _ _)
      | (with_reducible exact spec_DevOk.mono _ _ _ _)
      | (with_reducible exact spec_DrawDevDo.mono _ _)
      | (with_reducible exact spec_SameDev.mono _ _ _ _ _ _ _)
      | (with_reducible exact LeO.refl _)
      | (with_reducible exact LeO.none _)
      | (with_reducible refine LeO.ite ?_ ?_)
      | (with_reducible refine LeO.bind ?_ (fun _ => ?_))
      | exact ih0 _ _ _ _ _ _ _ _ _ _ _ _
      | exact ih1 _ _ _ _ _ _ _ _ _ _ _
      | exact ih2 _ _ _ _ _ _ _ _ _ _ _
      | exact impl_DevDo.mono _ _ _ _ _ _ _
      | exact impl_DevOk.mono _ _ _ _
      | exact spec_DevDo.mono _ _ _ _ _ _ _
      | exact spec_DevOk.mono _ _ _ _
      | exact spec_DrawDevDo.mono _ _
      | exact spec_SameDev.mono _ _ _ _ _ _ _
      | exact LeO.none _
      | refine LeO.ite ?_ ?_
      | refine LeO.bind ?_ (fun _ => ?_)
def laws_FnDevices.T6 : Bool × List (List Nat × List Nat) := (true, [([], []), ([], []), ([0, 1], [0, 1]), ([2], [2]), ([3], [3]), ([3], [3]), ([4, 5, 3], [3, 4, 5]), ([3, 6], [3, 6]), ([7, 3], [7]), ([8], [8]), ([8], [8]), ([9, 10, 8, 8], [8, 9, 10]), ([11, 8], [8, 11]), ([8, 12], [8, 12]), ([13, 11], [13]), ([14], [14]), ([15, 14, 14], [14, 15]), ([14], [14]), ([17, 16, 14], [14, 17]), ([16, 18, 14], [14, 16, 18]), ([14, 19], [14, 19])])
def laws_FnDevices.B6 : List Nat := [0, 0, 3, 7, 15, 15, 63, 127, 255, 511, 511, 2047, 4095, 8191, 16383, 32767, 65535, 32767, 262143, 524287, 1048575]
theorem laws_FnDevices.tab6 : rtab .any (opsOf Try.f11 6) = laws_FnDevices.T6 := by kernel_rfl
theorem laws_FnDevices.bits6 : waitsOk laws_FnDevices.T6.2 laws_FnDevices.B6 = true := by kernel_rfl
set_option maxHeartbeats 8000000 in
set_option maxRecDepth 100000 in
theorem laws_FnDevices.calls (k : Nat) (A0 : Option Addr) (c0 : Nat) (l0 : List Int) (w : World) (hr0 : Kd.C (Kd.int .u8) w A0 l0.length l0) (hc0 : l0.length ≤ c0) (h : laws_FnDevices.f k l0 = some true) :
    Calls Try.prog 11 #[.slice A0 l0.length c0] w fun e w' => e = .returned (.bool true) ∧ Below w.heap.size w w' := by
  have hu26 := Try.underlying26
  have HR0 := Aside0.mk hr0
  have HC0 := Aside0.mk hc0
  clear hr0 hc0
  have HB := Aside0.mk (Below.refl w.heap.size w)
  have H : ((laws_big.f l0).bind fun t337 => (if t337 = true then (some true) else ((spec_DrawDevDo.f k l0).bind fun bt338 => ((impl_DevDo.f k bt338.1 bt338.2.1 bt338.2.2.1 bt338.2.2.2.1 bt338.2.2.2.2.1 bt338.2.2.2.2.2).bind fun bt349 => ((spec_DevDo.f k bt338.1 bt338.2.1 bt338.2.2.1 bt338.2.2.2.1 bt338.2.2.2.2.1 bt338.2.2.2.2.2).bind fun bt359 => (if bt349.2.2.2.1 = bt359.2.2.2.1 then (if (bt349.2.2.2.2 != bt359.2.2.2.2) = true then (laws_FnDevices.j0 k bt338.2.2.2.1 bt338.2.2.2.2.1 bt338.2.2.2.2.2 bt349.2.2.2.1 bt349.2.2.2.2 true bt338.1 bt338.2.1 bt338.2.2.1 bt349.1 bt349.2.1 bt349.2.2.1) else ((spec_SameDev.f k bt349.1 bt349.2.1 bt349.2.2.1 bt359.1 bt359.2.1 bt359.2.2.1).bind fun t369 => (if t369 = true then ((impl_DevOk.f k bt338.1 bt338.2.1 bt338.2.2.1).bind fun t370 => ((spec_DevOk.f k bt338.1 bt338.2.1 bt338.2.2.1).bind fun t371 => (laws_FnDevices.j0 k bt338.2.2.2.1 bt338.2.2.2.2.1 bt338.2.2.2.2.2 bt349.2.2.2.1 bt349.2.2.2.2 (t370 != t371) bt338.1 bt338.2.1 bt338.2.2.1 bt349.1 bt349.2.1 bt349.2.2.1))) else (laws_FnDevices.j0 k bt338.2.2.2.1 bt338.2.2.2.2.1 bt338.2.2.2.2.2 bt349.2.2.2.1 bt349.2.2.2.2 true bt338.1 bt338.2.1 bt338.2.2.1 bt349.1 bt349.2.1 bt349.2.2.1)))) else (laws_FnDevices.j0 k bt338.2.2.2.1 bt338.2.2.2.2.1 bt338.2.2.2.2.2 bt349.2.2.2.1 bt349.2.2.2.2 true bt338.1 bt338.2.1 bt338.2.2.1 bt349.1 bt349.2.1 bt349.2.2.1))))))) = some true := h
  clear h
  replace H := Option.bind_eq_some_iff.mp H
  obtain ⟨t337, A20, H⟩ := H
  replace H : (if t337 = true then (some true) else ((spec_DrawDevDo.f k l0).bind fun bt338 => ((impl_DevDo.f k bt338.1 bt338.2.1 bt338.2.2.1 bt338.2.2.2.1 bt338.2.2.2.2.1 bt338.2.2.2.2.2).bind fun bt349 => ((spec_DevDo.f k bt338.1 bt338.2.1 bt338.2.2.1 bt338.2.2.2.1 bt338.2.2.2.2.1 bt338.2.2.2.2.2).bind fun bt359 => (if bt349.2.2.2.1 = bt359.2.2.2.1 then (if (bt349.2.2.2.2 != bt359.2.2.2.2) = true then (laws_FnDevices.j0 k bt338.2.2.2.1 bt338.2.2.2.2.1 bt338.2.2.2.2.2 bt349.2.2.2.1 bt349.2.2.2.2 true bt338.1 bt338.2.1 bt338.2.2.1 bt349.1 bt349.2.1 bt349.2.2.1) else ((spec_SameDev.f k bt349.1 bt349.2.1 bt349.2.2.1 bt359.1 bt359.2.1 bt359.2.2.1).bind fun t369 => (if t369 = true then ((impl_DevOk.f k bt338.1 bt338.2.1 bt338.2.2.1).bind fun t370 => ((spec_DevOk.f k bt338.1 bt338.2.1 bt338.2.2.1).bind fun t371 => (laws_FnDevices.j0 k bt338.2.2.2.1 bt338.2.2.2.2.1 bt338.2.2.2.2.2 bt349.2.2.2.1 bt349.2.2.2.2 (t370 != t371) bt338.1 bt338.2.1 bt338.2.2.1 bt349.1 bt349.2.1 bt349.2.2.1))) else (laws_FnDevices.j0 k bt338.2.2.2.1 bt338.2.2.2.2.1 bt338.2.2.2.2.2 bt349.2.2.2.1 bt349.2.2.2.2 true bt338.1 bt338.2.1 bt338.2.2.1 bt349.1 bt349.2.1 bt349.2.2.1)))) else (laws_FnDevices.j0 k bt338.2.2.2.1 bt338.2.2.2.2.1 bt338.2.2.2.2.2 bt349.2.2.2.1 bt349.2.2.2.2 true bt338.1 bt338.2.1 bt338.2.2.1 bt349.1 bt349.2.1 bt349.2.2.1)))))) = some true := H
  have A2 := Aside0.mk A20
  clear A20
  by_cases c3 : t337 = true
  · subst c3
    have H1 : (some true) = some true := rfl
    clear H
    have H := H1
    clear H1
    clear H
    go_enter Try.func11, Try.ntmps11
    go_wp2_with (first | ((with_reducible refine gate_callee (f := 13) rfl ?_); refine goesL_ (some 17) rfl rfl Try.func13 (by kernel_rfl) rfl #[.slice A0 l0.length c0] rfl (by (try simp only [List.map_toArray, List.map_cons, List.map_nil]); first | done | rfl | (simp only [List.length_drop, List.length_take]; rfl)) ?_; (with_reducible refine (laws_big.calls _ _ l0 true _ ?side1 ?side2 A2.out).mono ?_); (case side1 => repeat (first | exact HR0.out | (with_reducible refine Kd.C_alloc ?_ _) | (with_reducible refine Kd.C_drewN ?_ _) | (with_reducible refine Kd.C_drew ?_))); (case side2 => exact HC0.out); rintro e w' ⟨rfl, ⟨nd, rfl⟩⟩; refine ⟨_, rfl, ?_⟩))
    go_ret
    exact ⟨by first | rfl | (simp [errW_none, errW_some] <;> rfl) | (simp [*, errW_none, errW_some] <;> rfl), by repeat (first | (with_reducible first | exact HB.out | apply below_alloc | apply pw_below_drewN | apply below_drew1) | exact HB.out)⟩
  · replace c3 := Bool.eq_false_iff.mpr c3
    subst c3
    have H1 : ((spec_DrawDevDo.f k l0).bind fun bt338 => ((impl_DevDo.f k bt338.1 bt338.2.1 bt338.2.2.1 bt338.2.2.2.1 bt338.2.2.2.2.1 bt338.2.2.2.2.2).bind fun bt349 => ((spec_DevDo.f k bt338.1 bt338.2.1 bt338.2.2.1 bt338.2.2.2.1 bt338.2.2.2.2.1 bt338.2.2.2.2.2).bind fun bt359 => (if bt349.2.2.2.1 = bt359.2.2.2.1 then (if (bt349.2.2.2.2 != bt359.2.2.2.2) = true then (laws_FnDevices.j0 k bt338.2.2.2.1 bt338.2.2.2.2.1 bt338.2.2.2.2.2 bt349.2.2.2.1 bt349.2.2.2.2 true bt338.1 bt338.2.1 bt338.2.2.1 bt349.1 bt349.2.1 bt349.2.2.1) else ((spec_SameDev.f k bt349.1 bt349.2.1 bt349.2.2.1 bt359.1 bt359.2.1 bt359.2.2.1).bind fun t369 => (if t369 = true then ((impl_DevOk.f k bt338.1 bt338.2.1 bt338.2.2.1).bind fun t370 => ((spec_DevOk.f k bt338.1 bt338.2.1 bt338.2.2.1).bind fun t371 => (laws_FnDevices.j0 k bt338.2.2.2.1 bt338.2.2.2.2.1 bt338.2.2.2.2.2 bt349.2.2.2.1 bt349.2.2.2.2 (t370 != t371) bt338.1 bt338.2.1 bt338.2.2.1 bt349.1 bt349.2.1 bt349.2.2.1))) else (laws_FnDevices.j0 k bt338.2.2.2.1 bt338.2.2.2.2.1 bt338.2.2.2.2.2 bt349.2.2.2.1 bt349.2.2.2.2 true bt338.1 bt338.2.1 bt338.2.2.1 bt349.1 bt349.2.1 bt349.2.2.1)))) else (laws_FnDevices.j0 k bt338.2.2.2.1 bt338.2.2.2.2.1 bt338.2.2.2.2.2 bt349.2.2.2.1 bt349.2.2.2.2 true bt338.1 bt338.2.1 bt338.2.2.1 bt349.1 bt349.2.1 bt349.2.2.1))))) = some true := by rw [if_neg (show ¬ (false = true) by decide)] at H; exact H
    clear H
    have H := H1
    clear H1
    replace H := Option.bind_eq_some_iff.mp H
    obtain ⟨⟨t338, t341, t342, t345, t346, t347⟩, A40, H⟩ := H
    replace H : ((impl_DevDo.f k t338 t341 t342 t345 t346 t347).bind fun bt349 => ((spec_DevDo.f k t338 t341 t342 t345 t346 t347).bind fun bt359 => (if bt349.2.2.2.1 = bt359.2.2.2.1 then (if (bt349.2.2.2.2 != bt359.2.2.2.2) = true then (laws_FnDevices.j0 k t345 t346 t347 bt349.2.2.2.1 bt349.2.2.2.2 true t338 t341 t342 bt349.1 bt349.2.1 bt349.2.2.1) else ((spec_SameDev.f k bt349.1 bt349.2.1 bt349.2.2.1 bt359.1 bt359.2.1 bt359.2.2.1).bind fun t369 => (if t369 = true then ((impl_DevOk.f k t338 t341 t342).bind fun t370 => ((spec_DevOk.f k t338 t341 t342).bind fun t371 => (laws_FnDevices.j0 k t345 t346 t347 bt349.2.2.2.1 bt349.2.2.2.2 (t370 != t371) t338 t341 t342 bt349.1 bt349.2.1 bt349.2.2.1))) else (laws_FnDevices.j0 k t345 t346 t347 bt349.2.2.2.1 bt349.2.2.2.2 true t338 t341 t342 bt349.1 bt349.2.1 bt349.2.2.1)))) else (laws_FnDevices.j0 k t345 t346 t347 bt349.2.2.2.1 bt349.2.2.2.2 true t338 t341 t342 bt349.1 bt349.2.1 bt349.2.2.1)))) = some true := H
    have A4 := Aside0.mk A40
    clear A40
    replace H := Option.bind_eq_some_iff.mp H
    obtain ⟨⟨t349, t352, t353, t356, t357⟩, A50, H⟩ := H
    replace H : ((spec_DevDo.f k t338 t341 t342 t345 t346 t347).bind fun bt359 => (if t356 = bt359.2.2.2.1 then (if (t357 != bt359.2.2.2.2) = true then (laws_FnDevices.j0 k t345 t346 t347 t356 t357 true t338 t341 t342 t349 t352 t353) else ((spec_SameDev.f k t349 t352 t353 bt359.1 bt359.2.1 bt359.2.2.1).bind fun t369 => (if t369 = true then ((impl_DevOk.f k t338 t341 t342).bind fun t370 => ((spec_DevOk.f k t338 t341 t342).bind fun t371 => (laws_FnDevices.j0 k t345 t346 t347 t356 t357 (t370 != t371) t338 t341 t342 t349 t352 t353))) else (laws_FnDevices.j0 k t345 t346 t347 t356 t357 true t338 t341 t342 t349 t352 t353)))) else (laws_FnDevices.j0 k t345 t346 t347 t356 t357 true t338 t341 t342 t349 t352 t353))) = some true := H
    have A5 := Aside0.mk A50
    clear A50
    replace H := Option.bind_eq_some_iff.mp H
    obtain ⟨⟨t359, t362, t363, t366, t367⟩, A60, H⟩ := H
    replace H : (if t356 = t366 then (if (t357 != t367) = true then (laws_FnDevices.j0 k t345 t346 t347 t356 t357 true t338 t341 t342 t349 t352 t353) else ((spec_SameDev.f k t349 t352 t353 t359 t362 t363).bind fun t369 => (if t369 = true then ((impl_DevOk.f k t338 t341 t342).bind fun t370 => ((spec_DevOk.f k t338 t341 t342).bind fun t371 => (laws_FnDevices.j0 k t345 t346 t347 t356 t357 (t370 != t371) t338 t341 t342 t349 t352 t353))) else (laws_FnDevices.j0 k t345 t346 t347 t356 t357 true t338 t341 t342 t349 t352 t353)))) else (laws_FnDevices.j0 k t345 t346 t347 t356 t357 true t338 t341 t342 t349 t352 t353)) = some true := H
    have A6 := Aside0.mk A60
    clear A60
    have HC7 := Aside0.mk H
    clear H
    go_enter Try.func11, Try.ntmps11
    go_upto_region 6 with (first | ((with_reducible refine gate_callee (f := 13) rfl ?_); refine goesL_ (some 17) rfl rfl Try.func13 (by kernel_rfl) rfl #[.slice A0 l0.length c0] rfl (by (try simp only [List.map_toArray, List.map_cons, List.map_nil]); first | done | rfl | (simp only [List.length_drop, List.length_take]; rfl)) ?_; (with_reducible refine (laws_big.calls _ _ l0 false _ ?side1 ?side2 A2.out).mono ?_); (case side1 => repeat (first | exact HR0.out | (with_reducible refine Kd.C_alloc ?_ _) | (with_reducible refine Kd.C_drewN ?_ _) | (with_reducible refine Kd.C_drew ?_))); (case side2 => exact HC0.out); rintro e w' ⟨rfl, ⟨nd, rfl⟩⟩; refine ⟨_, rfl, ?_⟩) | ((with_reducible refine gate_callee (f := 40) rfl ?_); refine goesL_ (some 20) rfl rfl Try.func40 (by kernel_rfl) rfl #[.slice A0 l0.length c0] rfl (by (try simp only [List.map_toArray, List.map_cons, List.map_nil]); first | done | rfl | (simp only [List.length_drop, List.length_take]; rfl)) ?_; (with_reducible refine (spec_DrawDevDo.calls k _ _ l0 t338 t341 t342 t345 t346 t347 _ ?side1 ?side2 A4.out).mono ?_); (case side1 => repeat (first | exact HR0.out | (with_reducible refine Kd.C_alloc ?_ _) | (with_reducible refine Kd.C_drewN ?_ _) | (with_reducible refine Kd.C_drew ?_))); (case side2 => exact HC0.out); rintro e w8 ⟨v339, v343, rfl, ho0, ho1, hb⟩; refine ⟨_, rfl, ?_⟩; have n0_ := Aside0.mk (Kd.Q_lower ho0 (below_size (by repeat (first | (with_reducible first | exact HB.out | apply below_alloc | apply pw_below_drewN | apply below_drew1) | exact HB.out)))); have n1_ := Aside0.mk (Kd.Q_lower ho1 (below_size (by repeat (first | (with_reducible first | exact HB.out | apply below_alloc | apply pw_below_drewN | apply below_drew1) | exact HB.out)))); have n2_ := Aside0.mk (below_step (by repeat (first | (with_reducible first | exact HB.out | apply below_alloc | apply pw_below_drewN | apply below_drew1) | exact HB.out)) hb); clear HB; have HO340 := n0_; have HO344 := n1_; have HB := n2_; clear n0_ n1_ n2_; (try clear hb); (try clear hb2); (try clear hk); (try clear hi); (try clear ho0); (try clear ho1)) | ((with_reducible refine gate_dst (N := 3) rfl ?_); (try (refine gate_guard (by rfl) ?_; dsimp only)); refine box_event ?hg (N := 3) ?hd (cs := #[.slice none 0 0, .int .i64 0, .slice none 0 0]) (t := 26) ?hr ?_; (case hd => rfl); (case hg => rfl); (case hr => first | (go_simp; done) | (go_simp; rfl)); intro gb348 hg w9 hbox hb; have n0_ := Aside0.mk (Kd.Q_below (by (with_reducible repeat (first | apply Kd.Q_alloc | apply Kd.Q_drewN | apply Kd.Q_drew)); exact HO340.out) hb); have n1_ := Aside0.mk (Kd.Q_below (by (with_reducible repeat (first | apply Kd.Q_alloc | apply Kd.Q_drewN | apply Kd.Q_drew)); exact HO344.out) hb); have n2_ := Aside0.mk (below_step (by repeat (first | (with_reducible first | exact HB.out | apply below_alloc | apply pw_below_drewN | apply below_drew1) | exact HB.out)) hb); have n3_ := Aside0.mk (hbox); have n4_ := Aside0.mk ((by rw [hg]; exact (below_size (by repeat (first | (with_reducible first | exact HB.out | apply below_alloc | apply pw_below_drewN | apply below_drew1) | exact HB.out))) : w.heap.size ≤ gb348)); have n5_ := Aside0.mk ((by rw [hg]; exact (below_size (by repeat (first | (with_reducible first | exact HB.out | apply below_alloc | apply pw_below_drewN | apply below_drew1) | exact HB.out))) : w.heap.size ≤ gb348)); clear HO340; clear HO344; clear HB; have HO340 := n0_; have HO344 := n1_; have HB := n2_; have BK348 := n3_; have GW348 := n4_; have GE348 := n5_; clear n0_ n1_ n2_ n3_ n4_ n5_; clear hb hbox hg; obtain ⟨Ao10, co10, eo10, _⟩ := Kd.Q_slice HO340.out; subst eo10; have hcz11_0 : w9.cell? ⟨gb348, 0, none⟩ = some (.slice none 0 0) := (blk_cell BK348.out 0).trans rfl; have hcz11_1 : w9.cell? ⟨gb348, 1, none⟩ = some (.int .i64 0) := (blk_cell BK348.out 1).trans rfl; have hcz11_2 : w9.cell? ⟨gb348, 2, none⟩ = some (.slice none 0 0) := (blk_cell BK348.out 2).trans rfl; have hfz11_0 := blk_frozen BK348.out 0; have hfz11_1 := blk_frozen BK348.out 1; have hfz11_2 := blk_frozen BK348.out 2; obtain ⟨Ao12, co12, eo12, _⟩ := Kd.Q_slice HO344.out; subst eo12) | ((with_reducible refine gate_callee (f := 41) rfl ?_); refine goesL_ (some 30) rfl rfl Try.func41 (by kernel_rfl) rfl #[.agg #[.slice Ao10 t338.length co10, .int .i64 t341, .slice Ao12 t342.length co12], .bool t345, .int .i64 t346, .int .i64 t347] rfl (by (try simp only [List.map_toArray, List.map_cons, List.map_nil]); first | done | rfl | (simp only [List.length_drop, List.length_take]; rfl)) ?_; (with_reducible refine (impl_DevDo.calls k _ _ t338 t341 _ _ t342 t345 t346 t347 t349 t352 t353 t356 t357 _ ?side1 ?side2 ?side3 ?side4 A5.out).mono ?_); (case side1 => refine (Kd.Q_reads' (e := 3) (base := w.heap.size) (ok := fun k_ => some k_ ≠ (.slice Ao12 t342.length co12 : Value).ownBlock) (n := t338.length) (c := co10) ?_).2.2; exact (by (with_reducible repeat (first | apply Kd.Q_alloc | apply Kd.Q_drewN | apply Kd.Q_drew)); exact (Kd.Q_mono (Kd.Q_far (p := ⟨gb348, 2, none⟩) (Kd.Q_far (p := ⟨gb348, 1, none⟩) (Kd.Q_far (p := ⟨gb348, 0, none⟩) (Kd.Q_types HO340.out BK348.out (by decide)) (fun _ hk => hk.2) (.slice Ao10 t338.length co10)) (fun _ hk => hk.2) (.int .i64 t341)) (fun _ hk => hk.2) (.slice Ao12 t342.length co12)) (fun _ h_ => h_.1)))); (case side2 => exact (Kd.Q_reads' HO340.out).2.1); (case side3 => refine (Kd.Q_reads' (e := 3) (base := w.heap.size) (ok := fun k_ => some k_ ≠ (.slice Ao10 t338.length co10 : Value).ownBlock) (n := t342.length) (c := co12) ?_).2.2; exact (by (with_reducible repeat (first | apply Kd.Q_alloc | apply Kd.Q_drewN | apply Kd.Q_drew)); exact (Kd.Q_mono (Kd.Q_far (p := ⟨gb348, 2, none⟩) (Kd.Q_far (p := ⟨gb348, 1, none⟩) (Kd.Q_far (p := ⟨gb348, 0, none⟩) (Kd.Q_types HO344.out BK348.out (by decide)) (fun _ hk => hk.2) (.slice Ao10 t338.length co10)) (fun _ hk => hk.2) (.int .i64 t341)) (fun _ hk => hk.2) (.slice Ao12 t342.length co12)) (fun _ h_ => h_.1)))); (case side4 => exact (Kd.Q_reads' HO344.out).2.1); rintro e w13 ⟨v350, v354, rfl, ho0, ho1, hb⟩; refine ⟨_, rfl, ?_⟩; have n0_ := Aside0.mk (Kd.Q_mono (Kd.Q_told (Kd.Q_told (Kd.Q_old (by (with_reducible repeat (first | apply Kd.Q_alloc | apply Kd.Q_drewN | apply Kd.Q_drew)); exact (Kd.Q_mono (Kd.Q_far (p := ⟨gb348, 2, none⟩) (Kd.Q_far (p := ⟨gb348, 1, none⟩) (Kd.Q_far (p := ⟨gb348, 0, none⟩) (Kd.Q_types HO340.out BK348.out (by decide)) (fun _ hk => hk.2) (.slice Ao10 t338.length co10)) (fun _ hk => hk.2) (.int .i64 t341)) (fun _ hk => hk.2) (.slice Ao12 t342.length co12)) (fun _ h_ => h_.1))) hb) (Kd.R_base ho0)) (Kd.R_base ho1)) (fun _ h_ => h_.1)); have n1_ := Aside0.mk (Kd.Q_mono (Kd.Q_told (Kd.Q_told (Kd.Q_old (by (with_reducible repeat (first | apply Kd.Q_alloc | apply Kd.Q_drewN | apply Kd.Q_drew)); exact (Kd.Q_mono (Kd.Q_far (p := ⟨gb348, 2, none⟩) (Kd.Q_far (p := ⟨gb348, 1, none⟩) (Kd.Q_far (p := ⟨gb348, 0, none⟩) (Kd.Q_types HO344.out BK348.out (by decide)) (fun _ hk => hk.2) (.slice Ao10 t338.length co10)) (fun _ hk => hk.2) (.int .i64 t341)) (fun _ hk => hk.2) (.slice Ao12 t342.length co12)) (fun _ h_ => h_.1))) hb) (Kd.R_base ho0)) (Kd.R_base ho1)) (fun _ h_ => h_.1)); have n2_ := Aside0.mk (Kd.R_lower (Kd.R_new' (Kd.R_new' ho0 (Kd.Q_lt (by (with_reducible repeat (first | apply Kd.Q_alloc | apply Kd.Q_drewN | apply Kd.Q_drew)); exact (Kd.Q_mono (Kd.Q_far (p := ⟨gb348, 2, none⟩) (Kd.Q_far (p := ⟨gb348, 1, none⟩) (Kd.Q_far (p := ⟨gb348, 0, none⟩) (Kd.Q_types HO340.out BK348.out (by decide)) (fun _ hk => hk.2) (.slice Ao10 t338.length co10)) (fun _ hk => hk.2) (.int .i64 t341)) (fun _ hk => hk.2) (.slice Ao12 t342.length co12)) (fun _ h_ => h_.1))))) (Kd.Q_lt (by (with_reducible repeat (first | apply Kd.Q_alloc | apply Kd.Q_drewN | apply Kd.Q_drew)); exact (Kd.Q_mono (Kd.Q_far (p := ⟨gb348, 2, none⟩) (Kd.Q_far (p := ⟨gb348, 1, none⟩) (Kd.Q_far (p := ⟨gb348, 0, none⟩) (Kd.Q_types HO344.out BK348.out (by decide)) (fun _ hk => hk.2) (.slice Ao10 t338.length co10)) (fun _ hk => hk.2) (.int .i64 t341)) (fun _ hk => hk.2) (.slice Ao12 t342.length co12)) (fun _ h_ => h_.1))))) (below_size (by repeat (first | (with_reducible first | exact HB.out | apply below_alloc | apply pw_below_drewN | apply below_drew1 | refine below_set ?_ GE348.out) | exact HB.out)))); have n3_ := Aside0.mk (Kd.R_lower (Kd.R_new' (Kd.R_new' ho1 (Kd.Q_lt (by (with_reducible repeat (first | apply Kd.Q_alloc | apply Kd.Q_drewN | apply Kd.Q_drew)); exact (Kd.Q_mono (Kd.Q_far (p := ⟨gb348, 2, none⟩) (Kd.Q_far (p := ⟨gb348, 1, none⟩) (Kd.Q_far (p := ⟨gb348, 0, none⟩) (Kd.Q_types HO340.out BK348.out (by decide)) (fun _ hk => hk.2) (.slice Ao10 t338.length co10)) (fun _ hk => hk.2) (.int .i64 t341)) (fun _ hk => hk.2) (.slice Ao12 t342.length co12)) (fun _ h_ => h_.1))))) (Kd.Q_lt (by (with_reducible repeat (first | apply Kd.Q_alloc | apply Kd.Q_drewN | apply Kd.Q_drew)); exact (Kd.Q_mono (Kd.Q_far (p := ⟨gb348, 2, none⟩) (Kd.Q_far (p := ⟨gb348, 1, none⟩) (Kd.Q_far (p := ⟨gb348, 0, none⟩) (Kd.Q_types HO344.out BK348.out (by decide)) (fun _ hk => hk.2) (.slice Ao10 t338.length co10)) (fun _ hk => hk.2) (.int .i64 t341)) (fun _ hk => hk.2) (.slice Ao12 t342.length co12)) (fun _ h_ => h_.1))))) (below_size (by repeat (first | (with_reducible first | exact HB.out | apply below_alloc | apply pw_below_drewN | apply below_drew1 | refine below_set ?_ GE348.out) | exact HB.out)))); have n4_ := Aside0.mk (blk_below (g := gb348) (o := .cells #[.slice Ao10 t338.length co10, .int .i64 t341, .slice Ao12 t342.length co12] 26 (0, 0)) (by (with_reducible repeat (first | refine blk_drewN ?_ _ | refine blk_drew ?_ | refine blk_alloc ?_ _)); refine blk_put (cs := #[.slice Ao10 t338.length co10, .int .i64 t341, .slice none 0 0]) ?_ 2 _ rfl; (with_reducible repeat (first | refine blk_drewN ?_ _ | refine blk_drew ?_ | refine blk_alloc ?_ _)); refine blk_put (cs := #[.slice Ao10 t338.length co10, .int .i64 0, .slice none 0 0]) ?_ 1 _ rfl; (with_reducible repeat (first | refine blk_drewN ?_ _ | refine blk_drew ?_ | refine blk_alloc ?_ _)); refine blk_put (cs := #[.slice none 0 0, .int .i64 0, .slice none 0 0]) ?_ 0 _ rfl; (with_reducible repeat (first | refine blk_drewN ?_ _ | refine blk_drew ?_ | refine blk_alloc ?_ _)); exact BK348.out) hb); have n5_ := Aside0.mk (below_step (by repeat (first | (with_reducible first | exact HB.out | apply below_alloc | apply pw_below_drewN | apply below_drew1 | refine below_set ?_ GE348.out) | exact HB.out)) hb); clear HO340; clear HO344; clear BK348; clear HB; have HO340 := n0_; have HO344 := n1_; have HO351 := n2_; have HO355 := n3_; have BK348 := n4_; have HB := n5_; clear n0_ n1_ n2_ n3_ n4_ n5_; (try clear hb); (try clear hb2); (try clear hk); (try clear hi); (try clear ho0); (try clear ho1)) | ((with_reducible refine gate_dst (N := 7) rfl ?_); (try (refine gate_guard (by rfl) ?_; dsimp only)); refine box_event ?hg (N := 7) ?hd (cs := #[.slice none 0 0, .int .i64 0, .slice none 0 0]) (t := 26) ?hr ?_; (case hd => rfl); (case hg => rfl); (case hr => first | (go_simp; done) | (go_simp; rfl)); intro gb358 hg w14 hbox hb; have n0_ := Aside0.mk (Kd.Q_below (by (with_reducible repeat (first | apply Kd.Q_alloc | apply Kd.Q_drewN | apply Kd.Q_drew)); exact HO340.out) hb); have n1_ := Aside0.mk (Kd.Q_below (by (with_reducible repeat (first | apply Kd.Q_alloc | apply Kd.Q_drewN | apply Kd.Q_drew)); exact HO344.out) hb); have n2_ := Aside0.mk (Kd.R_below (by (with_reducible repeat (first | apply Kd.R_alloc | apply Kd.R_drewN | apply Kd.R_drew)); exact HO351.out) hb); have n3_ := Aside0.mk (Kd.R_below (by (with_reducible repeat (first | apply Kd.R_alloc | apply Kd.R_drewN | apply Kd.R_drew)); exact HO355.out) hb); have n4_ := Aside0.mk (blk_below (g := gb348) (o := .cells #[.slice Ao10 t338.length co10, .int .i64 t341, .slice Ao12 t342.length co12] 26 (0, 0)) (by (with_reducible repeat (first | refine blk_drewN ?_ _ | refine blk_drew ?_ | refine blk_alloc ?_ _)); exact BK348.out) hb); have n5_ := Aside0.mk (below_step (by repeat (first | (with_reducible first | exact HB.out | apply below_alloc | apply pw_below_drewN | apply below_drew1 | refine below_set ?_ GE348.out) | exact HB.out)) hb); have n6_ := Aside0.mk (hbox); have n7_ := Aside0.mk ((by rw [hg]; exact (below_size (by repeat (first | (with_reducible first | exact HB.out | apply below_alloc | apply pw_below_drewN | apply below_drew1 | refine below_set ?_ GE348.out) | exact HB.out))) : w.heap.size ≤ gb358)); have n8_ := Aside0.mk ((by rw [hg]; exact (below_size (by repeat (first | (with_reducible first | exact HB.out | apply below_alloc | apply pw_below_drewN | apply below_drew1 | refine below_set ?_ GE348.out) | exact HB.out))) : w.heap.size ≤ gb358)); have n9_ := Aside0.mk ((by rw [hg]; exact Nat.ne_of_lt (blk_lt (g := gb348) (o := .cells #[.slice Ao10 t338.length co10, .int .i64 t341, .slice Ao12 t342.length co12] 26 (0, 0)) (by (with_reducible repeat (first | refine blk_drewN ?_ _ | refine blk_drew ?_ | refine blk_alloc ?_ _)); exact BK348.out)) : gb348 ≠ gb358)); have n10_ := Aside0.mk ((by rw [hg]; exact Nat.ne_of_gt (blk_lt (g := gb348) (o := .cells #[.slice Ao10 t338.length co10, .int .i64 t341, .slice Ao12 t342.length co12] 26 (0, 0)) (by (with_reducible repeat (first | refine blk_drewN ?_ _ | refine blk_drew ?_ | refine blk_alloc ?_ _)); exact BK348.out)) : gb358 ≠ gb348)); clear HO340; clear HO344; clear HO351; clear HO355; clear BK348; clear HB; have HO340 := n0_; have HO344 := n1_; have HO351 := n2_; have HO355 := n3_; have BK348 := n4_; have HB := n5_; have BK358 := n6_; have GW358 := n7_; have GE358 := n8_; have NB348_358 := n9_; have NB358_348 := n10_; clear n0_ n1_ n2_ n3_ n4_ n5_ n6_ n7_ n8_ n9_ n10_; clear hb hbox hg; obtain ⟨Ao15, co15, eo15⟩ := Kd.R_slice HO351.out; subst eo15; have hnb16 := NB358_348.out; have hnc16 := NB348_358.out; have hcz17_0 : w14.cell? ⟨gb358, 0, none⟩ = some (.slice none 0 0) := (blk_cell BK358.out 0).trans rfl; have hcz17_1 : w14.cell? ⟨gb358, 1, none⟩ = some (.int .i64 0) := (blk_cell BK358.out 1).trans rfl; have hcz17_2 : w14.cell? ⟨gb358, 2, none⟩ = some (.slice none 0 0) := (blk_cell BK358.out 2).trans rfl; have hfz17_0 := blk_frozen BK358.out 0; have hfz17_1 := blk_frozen BK358.out 1; have hfz17_2 := blk_frozen BK358.out 2; obtain ⟨Ao18, co18, eo18⟩ := Kd.R_slice HO355.out; subst eo18; have hcz19_0 : w14.cell? ⟨gb348, 0, none⟩ = some (.slice Ao10 t338.length co10) := (blk_cell BK348.out 0).trans rfl; have hcz19_1 : w14.cell? ⟨gb348, 1, none⟩ = some (.int .i64 t341) := (blk_cell BK348.out 1).trans rfl; have hcz19_2 : w14.cell? ⟨gb348, 2, none⟩ = some (.slice Ao12 t342.length co12) := (blk_cell BK348.out 2).trans rfl; have hfz19_0 := blk_frozen BK348.out 0; have hfz19_1 := blk_frozen BK348.out 1; have hfz19_2 := blk_frozen BK348.out 2) | ((with_reducible refine gate_callee (f := 42) rfl ?_); refine goesL_ (some 39) rfl rfl Try.func42 (by kernel_rfl) rfl #[.agg #[.slice Ao10 t338.length co10, .int .i64 t341, .slice Ao12 t342.length co12], .bool t345, .int .i64 t346, .int .i64 t347] rfl (by (try simp only [List.map_toArray, List.map_cons, List.map_nil]); first | done | rfl | (simp only [List.length_drop, List.length_take]; rfl)) ?_; (with_reducible refine (spec_DevDo.calls k _ _ t338 t341 _ _ t342 t345 t346 t347 t359 t362 t363 t366 t367 _ ?side1 ?side2 ?side3 ?side4 A6.out).mono ?_); (case side1 => refine (Kd.Q_reads' (e := 3) (base := w.heap.size) (ok := fun k_ => ((some k_ ≠ (.slice Ao12 t342.length co12 : Value).ownBlock ∧ some k_ ≠ (.slice Ao15 t349.length co15 : Value).ownBlock) ∧ some k_ ≠ (.slice Ao18 t353.length co18 : Value).ownBlock)) (n := t338.length) (c := co10) ?_).2.2; exact (by (with_reducible repeat (first | apply Kd.Q_alloc | apply Kd.Q_drewN | apply Kd.Q_drew)); exact (Kd.Q_mono (Kd.Q_far (p := ⟨gb358, 2, none⟩) (Kd.Q_far (p := ⟨gb358, 1, none⟩) (Kd.Q_far (p := ⟨gb358, 0, none⟩) (Kd.Q_types HO340.out BK358.out (by decide)) (fun _ hk => hk.2) (.slice Ao15 t349.length co15)) (fun _ hk => hk.2) (.int .i64 t352)) (fun _ hk => hk.2) (.slice Ao18 t353.length co18)) (fun _ h_ => h_.1)))); (case side2 => exact (Kd.Q_reads' HO340.out).2.1); (case side3 => refine (Kd.Q_reads' (e := 3) (base := w.heap.size) (ok := fun k_ => ((some k_ ≠ (.slice Ao10 t338.length co10 : Value).ownBlock ∧ some k_ ≠ (.slice Ao15 t349.length co15 : Value).ownBlock) ∧ some k_ ≠ (.slice Ao18 t353.length co18 : Value).ownBlock)) (n := t342.length) (c := co12) ?_).2.2; exact (by (with_reducible repeat (first | apply Kd.Q_alloc | apply Kd.Q_drewN | apply Kd.Q_drew)); exact (Kd.Q_mono (Kd.Q_far (p := ⟨gb358, 2, none⟩) (Kd.Q_far (p := ⟨gb358, 1, none⟩) (Kd.Q_far (p := ⟨gb358, 0, none⟩) (Kd.Q_types HO344.out BK358.out (by decide)) (fun _ hk => hk.2) (.slice Ao15 t349.length co15)) (fun _ hk => hk.2) (.int .i64 t352)) (fun _ hk => hk.2) (.slice Ao18 t353.length co18)) (fun _ h_ => h_.1)))); (case side4 => exact (Kd.Q_reads' HO344.out).2.1); rintro e w20 ⟨v360, v364, rfl, ho0, ho1, hb⟩; refine ⟨_, rfl, ?_⟩; have n0_ := Aside0.mk (Kd.Q_mono (Kd.Q_told (Kd.Q_told (Kd.Q_old (by (with_reducible repeat (first | apply Kd.Q_alloc | apply Kd.Q_drewN | apply Kd.Q_drew)); exact (Kd.Q_mono (Kd.Q_far (p := ⟨gb358, 2, none⟩) (Kd.Q_far (p := ⟨gb358, 1, none⟩) (Kd.Q_far (p := ⟨gb358, 0, none⟩) (Kd.Q_types HO340.out BK358.out (by decide)) (fun _ hk => hk.2) (.slice Ao15 t349.length co15)) (fun _ hk => hk.2) (.int .i64 t352)) (fun _ hk => hk.2) (.slice Ao18 t353.length co18)) (fun _ h_ => h_.1))) hb) (Kd.R_base ho0)) (Kd.Q_base ho1)) (fun _ h_ => h_.1)); have n1_ := Aside0.mk (Kd.Q_mono (Kd.Q_told (Kd.Q_told (Kd.Q_old (by (with_reducible repeat (first | apply Kd.Q_alloc | apply Kd.Q_drewN | apply Kd.Q_drew)); exact (Kd.Q_mono (Kd.Q_far (p := ⟨gb358, 2, none⟩) (Kd.Q_far (p := ⟨gb358, 1, none⟩) (Kd.Q_far (p := ⟨gb358, 0, none⟩) (Kd.Q_types HO344.out BK358.out (by decide)) (fun _ hk => hk.2) (.slice Ao15 t349.length co15)) (fun _ hk => hk.2) (.int .i64 t352)) (fun _ hk => hk.2) (.slice Ao18 t353.length co18)) (fun _ h_ => h_.1))) hb) (Kd.R_base ho0)) (Kd.Q_base ho1)) (fun _ h_ => h_.1)); have n2_ := Aside0.mk (Kd.R_mono (Kd.R_told (Kd.R_told (Kd.R_old (by (with_reducible repeat (first | apply Kd.R_alloc | apply Kd.R_drewN | apply Kd.R_drew)); exact (Kd.R_mono (Kd.R_far (p := ⟨gb358, 2, none⟩) (Kd.R_far (p := ⟨gb358, 1, none⟩) (Kd.R_far (p := ⟨gb358, 0, none⟩) (Kd.R_types HO351.out BK358.out (by decide)) (fun _ hk => hk.2) (.slice Ao15 t349.length co15)) (fun _ hk => hk.2) (.int .i64 t352)) (fun _ hk => hk.2) (.slice Ao18 t353.length co18)) (fun _ h_ => h_.1))) hb) (Kd.R_base ho0)) (Kd.Q_base ho1)) (fun _ h_ => h_.1)); have n3_ := Aside0.mk (Kd.R_mono (Kd.R_told (Kd.R_told (Kd.R_old (by (with_reducible repeat (first | apply Kd.R_alloc | apply Kd.R_drewN | apply Kd.R_drew)); exact (Kd.R_mono (Kd.R_far (p := ⟨gb358, 2, none⟩) (Kd.R_far (p := ⟨gb358, 1, none⟩) (Kd.R_far (p := ⟨gb358, 0, none⟩) (Kd.R_types HO355.out BK358.out (by decide)) (fun _ hk => hk.2) (.slice Ao15 t349.length co15)) (fun _ hk => hk.2) (.int .i64 t352)) (fun _ hk => hk.2) (.slice Ao18 t353.length co18)) (fun _ h_ => h_.1))) hb) (Kd.R_base ho0)) (Kd.Q_base ho1)) (fun _ h_ => h_.1)); have n4_ := Aside0.mk (Kd.R_lower (Kd.R_new' (Kd.R_new' (Kd.R_new' (Kd.R_new' ho0 (Kd.Q_lt (by (with_reducible repeat (first | apply Kd.Q_alloc | apply Kd.Q_drewN | apply Kd.Q_drew)); exact (Kd.Q_mono (Kd.Q_far (p := ⟨gb358, 2, none⟩) (Kd.Q_far (p := ⟨gb358, 1, none⟩) (Kd.Q_far (p := ⟨gb358, 0, none⟩) (Kd.Q_types HO340.out BK358.out (by decide)) (fun _ hk => hk.2) (.slice Ao15 t349.length co15)) (fun _ hk => hk.2) (.int .i64 t352)) (fun _ hk => hk.2) (.slice Ao18 t353.length co18)) (fun _ h_ => h_.1))))) (Kd.Q_lt (by (with_reducible repeat (first | apply Kd.Q_alloc | apply Kd.Q_drewN | apply Kd.Q_drew)); exact (Kd.Q_mono (Kd.Q_far (p := ⟨gb358, 2, none⟩) (Kd.Q_far (p := ⟨gb358, 1, none⟩) (Kd.Q_far (p := ⟨gb358, 0, none⟩) (Kd.Q_types HO344.out BK358.out (by decide)) (fun _ hk => hk.2) (.slice Ao15 t349.length co15)) (fun _ hk => hk.2) (.int .i64 t352)) (fun _ hk => hk.2) (.slice Ao18 t353.length co18)) (fun _ h_ => h_.1))))) (Kd.R_lt (by (with_reducible repeat (first | apply Kd.R_alloc | apply Kd.R_drewN | apply Kd.R_drew)); exact (Kd.R_mono (Kd.R_far (p := ⟨gb358, 2, none⟩) (Kd.R_far (p := ⟨gb358, 1, none⟩) (Kd.R_far (p := ⟨gb358, 0, none⟩) (Kd.R_types HO351.out BK358.out (by decide)) (fun _ hk => hk.2) (.slice Ao15 t349.length co15)) (fun _ hk => hk.2) (.int .i64 t352)) (fun _ hk => hk.2) (.slice Ao18 t353.length co18)) (fun _ h_ => h_.1))))) (Kd.R_lt (by (with_reducible repeat (first | apply Kd.R_alloc | apply Kd.R_drewN | apply Kd.R_drew)); exact (Kd.R_mono (Kd.R_far (p := ⟨gb358, 2, none⟩) (Kd.R_far (p := ⟨gb358, 1, none⟩) (Kd.R_far (p := ⟨gb358, 0, none⟩) (Kd.R_types HO355.out BK358.out (by decide)) (fun _ hk => hk.2) (.slice Ao15 t349.length co15)) (fun _ hk => hk.2) (.int .i64 t352)) (fun _ hk => hk.2) (.slice Ao18 t353.length co18)) (fun _ h_ => h_.1))))) (below_size (by repeat (first | (with_reducible first | exact HB.out | apply below_alloc | apply pw_below_drewN | apply below_drew1 | refine below_set ?_ GE348.out | refine below_set ?_ GE358.out) | exact HB.out)))); have n5_ := Aside0.mk (Kd.Q_lower (Kd.Q_new' (Kd.Q_new' (Kd.Q_new' (Kd.Q_new' ho1 (Kd.Q_lt (by (with_reducible repeat (first | apply Kd.Q_alloc | apply Kd.Q_drewN | apply Kd.Q_drew)); exact (Kd.Q_mono (Kd.Q_far (p := ⟨gb358, 2, none⟩) (Kd.Q_far (p := ⟨gb358, 1, none⟩) (Kd.Q_far (p := ⟨gb358, 0, none⟩) (Kd.Q_types HO340.out BK358.out (by decide)) (fun _ hk => hk.2) (.slice Ao15 t349.length co15)) (fun _ hk => hk.2) (.int .i64 t352)) (fun _ hk => hk.2) (.slice Ao18 t353.length co18)) (fun _ h_ => h_.1))))) (Kd.Q_lt (by (with_reducible repeat (first | apply Kd.Q_alloc | apply Kd.Q_drewN | apply Kd.Q_drew)); exact (Kd.Q_mono (Kd.Q_far (p := ⟨gb358, 2, none⟩) (Kd.Q_far (p := ⟨gb358, 1, none⟩) (Kd.Q_far (p := ⟨gb358, 0, none⟩) (Kd.Q_types HO344.out BK358.out (by decide)) (fun _ hk => hk.2) (.slice Ao15 t349.length co15)) (fun _ hk => hk.2) (.int .i64 t352)) (fun _ hk => hk.2) (.slice Ao18 t353.length co18)) (fun _ h_ => h_.1))))) (Kd.R_lt (by (with_reducible repeat (first | apply Kd.R_alloc | apply Kd.R_drewN | apply Kd.R_drew)); exact (Kd.R_mono (Kd.R_far (p := ⟨gb358, 2, none⟩) (Kd.R_far (p := ⟨gb358, 1, none⟩) (Kd.R_far (p := ⟨gb358, 0, none⟩) (Kd.R_types HO351.out BK358.out (by decide)) (fun _ hk => hk.2) (.slice Ao15 t349.length co15)) (fun _ hk => hk.2) (.int .i64 t352)) (fun _ hk => hk.2) (.slice Ao18 t353.length co18)) (fun _ h_ => h_.1))))) (Kd.R_lt (by (with_reducible repeat (first | apply Kd.R_alloc | apply Kd.R_drewN | apply Kd.R_drew)); exact (Kd.R_mono (Kd.R_far (p := ⟨gb358, 2, none⟩) (Kd.R_far (p := ⟨gb358, 1, none⟩) (Kd.R_far (p := ⟨gb358, 0, none⟩) (Kd.R_types HO355.out BK358.out (by decide)) (fun _ hk => hk.2) (.slice Ao15 t349.length co15)) (fun _ hk => hk.2) (.int .i64 t352)) (fun _ hk => hk.2) (.slice Ao18 t353.length co18)) (fun _ h_ => h_.1))))) (below_size (by repeat (first | (with_reducible first | exact HB.out | apply below_alloc | apply pw_below_drewN | apply below_drew1 | refine below_set ?_ GE348.out | refine below_set ?_ GE358.out) | exact HB.out)))); have n6_ := Aside0.mk (blk_below (g := gb348) (o := .cells #[.slice Ao10 t338.length co10, .int .i64 t341, .slice Ao12 t342.length co12] 26 (0, 0)) (by (with_reducible repeat (first | refine blk_drewN ?_ _ | refine blk_drew ?_ | refine blk_alloc ?_ _)); refine blk_far ?_ NB348_358.out _; (with_reducible repeat (first | refine blk_drewN ?_ _ | refine blk_drew ?_ | refine blk_alloc ?_ _)); refine blk_far ?_ NB348_358.out _; (with_reducible repeat (first | refine blk_drewN ?_ _ | refine blk_drew ?_ | refine blk_alloc ?_ _)); refine blk_far ?_ NB348_358.out _; (with_reducible repeat (first | refine blk_drewN ?_ _ | refine blk_drew ?_ | refine blk_alloc ?_ _)); exact BK348.out) hb); have n7_ := Aside0.mk (blk_below (g := gb358) (o := .cells #[.slice Ao15 t349.length co15, .int .i64 t352, .slice Ao18 t353.length co18] 26 (0, 0)) (by (with_reducible repeat (first | refine blk_drewN ?_ _ | refine blk_drew ?_ | refine blk_alloc ?_ _)); refine blk_put (cs := #[.slice Ao15 t349.length co15, .int .i64 t352, .slice none 0 0]) ?_ 2 _ rfl; (with_reducible repeat (first | refine blk_drewN ?_ _ | refine blk_drew ?_ | refine blk_alloc ?_ _)); refine blk_put (cs := #[.slice Ao15 t349.length co15, .int .i64 0, .slice none 0 0]) ?_ 1 _ rfl; (with_reducible repeat (first | refine blk_drewN ?_ _ | refine blk_drew ?_ | refine blk_alloc ?_ _)); refine blk_put (cs := #[.slice none 0 0, .int .i64 0, .slice none 0 0]) ?_ 0 _ rfl; (with_reducible repeat (first | refine blk_drewN ?_ _ | refine blk_drew ?_ | refine blk_alloc ?_ _)); exact BK358.out) hb); have n8_ := Aside0.mk (below_step (by repeat (first | (with_reducible first | exact HB.out | apply below_alloc | apply pw_below_drewN | apply below_drew1 | refine below_set ?_ GE348.out | refine below_set ?_ GE358.out) | exact HB.out)) hb); clear HO340; clear HO344; clear HO351; clear HO355; clear BK348; clear BK358; clear HB; have HO340 := n0_; have HO344 := n1_; have HO351 := n2_; have HO355 := n3_; have HO361 := n4_; have HO365 := n5_; have BK348 := n6_; have BK358 := n7_; have HB := n8_; clear n0_ n1_ n2_ n3_ n4_ n5_ n6_ n7_ n8_; (try clear hb); (try clear hb2); (try clear hk); (try clear hi); (try clear ho0); (try clear ho1)) | ((with_reducible refine gate_dst (N := 10) rfl ?_); (try (refine gate_guard (by rfl) ?_; dsimp only)); refine box_event ?hg (N := 10) ?hd (cs := #[.slice none 0 0, .int .i64 0, .slice none 0 0]) (t := 26) ?hr ?_; (case hd => rfl); (case hg => rfl); (case hr => first | (go_simp; done) | (go_simp; rfl)); intro gb368 hg w21 hbox hb; have n0_ := Aside0.mk (Kd.Q_below (by (with_reducible repeat (first | apply Kd.Q_alloc | apply Kd.Q_drewN | apply Kd.Q_drew)); exact HO340.out) hb); have n1_ := Aside0.mk (Kd.Q_below (by (with_reducible repeat (first | apply Kd.Q_alloc | apply Kd.Q_drewN | apply Kd.Q_drew)); exact HO344.out) hb); have n2_ := Aside0.mk (Kd.R_below (by (with_reducible repeat (first | apply Kd.R_alloc | apply Kd.R_drewN | apply Kd.R_drew)); exact HO351.out) hb); have n3_ := Aside0.mk (Kd.R_below (by (with_reducible repeat (first | apply Kd.R_alloc | apply Kd.R_drewN | apply Kd.R_drew)); exact HO355.out) hb); have n4_ := Aside0.mk (Kd.R_below (by (with_reducible repeat (first | apply Kd.R_alloc | apply Kd.R_drewN | apply Kd.R_drew)); exact HO361.out) hb); have n5_ := Aside0.mk (Kd.Q_below (by (with_reducible repeat (first | apply Kd.Q_alloc | apply Kd.Q_drewN | apply Kd.Q_drew)); exact HO365.out) hb); have n6_ := Aside0.mk (blk_below (g := gb348) (o := .cells #[.slice Ao10 t338.length co10, .int .i64 t341, .slice Ao12 t342.length co12] 26 (0, 0)) (by (with_reducible repeat (first | refine blk_drewN ?_ _ | refine blk_drew ?_ | refine blk_alloc ?_ _)); exact BK348.out) hb); have n7_ := Aside0.mk (blk_below (g := gb358) (o := .cells #[.slice Ao15 t349.length co15, .int .i64 t352, .slice Ao18 t353.length co18] 26 (0, 0)) (by (with_reducible repeat (first | refine blk_drewN ?_ _ | refine blk_drew ?_ | refine blk_alloc ?_ _)); exact BK358.out) hb); have n8_ := Aside0.mk (below_step (by repeat (first | (with_reducible first | exact HB.out | apply below_alloc | apply pw_below_drewN | apply below_drew1 | refine below_set ?_ GE348.out | refine below_set ?_ GE358.out) | exact HB.out)) hb); have n9_ := Aside0.mk (hbox); have n10_ := Aside0.mk ((by rw [hg]; exact (below_size (by repeat (first | (with_reducible first | exact HB.out | apply below_alloc | apply pw_below_drewN | apply below_drew1 | refine below_set ?_ GE348.out | refine below_set ?_ GE358.out) | exact HB.out))) : w.heap.size ≤ gb368)); have n11_ := Aside0.mk ((by rw [hg]; exact (below_size (by repeat (first | (with_reducible first | exact HB.out | apply below_alloc | apply pw_below_drewN | apply below_drew1 | refine below_set ?_ GE348.out | refine below_set ?_ GE358.out) | exact HB.out))) : w.heap.size ≤ gb368)); have n12_ := Aside0.mk ((by rw [hg]; exact Nat.ne_of_lt (blk_lt (g := gb348) (o := .cells #[.slice Ao10 t338.length co10, .int .i64 t341, .slice Ao12 t342.length co12] 26 (0, 0)) (by (with_reducible repeat (first | refine blk_drewN ?_ _ | refine blk_drew ?_ | refine blk_alloc ?_ _)); exact BK348.out)) : gb348 ≠ gb368)); have n13_ := Aside0.mk ((by rw [hg]; exact Nat.ne_of_gt (blk_lt (g := gb348) (o := .cells #[.slice Ao10 t338.length co10, .int .i64 t341, .slice Ao12 t342.length co12] 26 (0, 0)) (by (with_reducible repeat (first | refine blk_drewN ?_ _ | refine blk_drew ?_ | refine blk_alloc ?_ _)); exact BK348.out)) : gb368 ≠ gb348)); have n14_ := Aside0.mk ((by rw [hg]; exact Nat.ne_of_lt (blk_lt (g := gb358) (o := .cells #[.slice Ao15 t349.length co15, .int .i64 t352, .slice Ao18 t353.length co18] 26 (0, 0)) (by (with_reducible repeat (first | refine blk_drewN ?_ _ | refine blk_drew ?_ | refine blk_alloc ?_ _)); exact BK358.out)) : gb358 ≠ gb368)); have n15_ := Aside0.mk ((by rw [hg]; exact Nat.ne_of_gt (blk_lt (g := gb358) (o := .cells #[.slice Ao15 t349.length co15, .int .i64 t352, .slice Ao18 t353.length co18] 26 (0, 0)) (by (with_reducible repeat (first | refine blk_drewN ?_ _ | refine blk_drew ?_ | refine blk_alloc ?_ _)); exact BK358.out)) : gb368 ≠ gb358)); clear HO340; clear HO344; clear HO351; clear HO355; clear HO361; clear HO365; clear BK348; clear BK358; clear HB; have HO340 := n0_; have HO344 := n1_; have HO351 := n2_; have HO355 := n3_; have HO361 := n4_; have HO365 := n5_; have BK348 := n6_; have BK358 := n7_; have HB := n8_; have BK368 := n9_; have GW368 := n10_; have GE368 := n11_; have NB348_368 := n12_; have NB368_348 := n13_; have NB358_368 := n14_; have NB368_358 := n15_; clear n0_ n1_ n2_ n3_ n4_ n5_ n6_ n7_ n8_ n9_ n10_ n11_ n12_ n13_ n14_ n15_; clear hb hbox hg; obtain ⟨Ao22, co22, eo22⟩ := Kd.R_slice HO361.out; subst eo22; have hnb23 := NB368_348.out; have hnc23 := NB348_368.out; have hnb24 := NB368_358.out; have hnc24 := NB358_368.out; have hcz25_0 : w21.cell? ⟨gb368, 0, none⟩ = some (.slice none 0 0) := (blk_cell BK368.out 0).trans rfl; have hcz25_1 : w21.cell? ⟨gb368, 1, none⟩ = some (.int .i64 0) := (blk_cell BK368.out 1).trans rfl; have hcz25_2 : w21.cell? ⟨gb368, 2, none⟩ = some (.slice none 0 0) := (blk_cell BK368.out 2).trans rfl; have hfz25_0 := blk_frozen BK368.out 0; have hfz25_1 := blk_frozen BK368.out 1; have hfz25_2 := blk_frozen BK368.out 2; obtain ⟨Ao26, co26, eo26, _⟩ := Kd.Q_slice HO365.out; subst eo26))
    (try simp only [Act.put, List.setIfInBounds_toArray, List.set_cons_zero, List.set_cons_succ])
    go_cut [63] (fun v63 wc => ∃ (kq : Nat) (x63_6 : Bool), v63 = .bool x63_6 ∧ Aside0 (laws_FnDevices.j0 kq t345 t346 t347 t356 t357 x63_6 t338 t341 t342 t349 t352 t353 = some true) ∧ Aside0 (kq ≤ k) ∧ Aside0 (Kd.Q (Kd.int .i64) 3 wc w.heap.size (fun k_ => some k_ ≠ ((.slice Ao12 t342.length co12) : Value).ownBlock ∧ some k_ ≠ ((.slice Ao15 t349.length co15) : Value).ownBlock ∧ some k_ ≠ ((.slice Ao18 t353.length co18) : Value).ownBlock ∧ some k_ ≠ ((.slice Ao22 t359.length co22) : Value).ownBlock ∧ some k_ ≠ ((.slice Ao26 t363.length co26) : Value).ownBlock) (.slice Ao10 t338.length co10) t338) ∧ Aside0 (Kd.Q (Kd.int .i64) 3 wc w.heap.size (fun k_ => some k_ ≠ ((.slice Ao10 t338.length co10) : Value).ownBlock ∧ some k_ ≠ ((.slice Ao15 t349.length co15) : Value).ownBlock ∧ some k_ ≠ ((.slice Ao18 t353.length co18) : Value).ownBlock ∧ some k_ ≠ ((.slice Ao22 t359.length co22) : Value).ownBlock ∧ some k_ ≠ ((.slice Ao26 t363.length co26) : Value).ownBlock) (.slice Ao12 t342.length co12) t342) ∧ Aside0 (Kd.R (Kd.int .i64) 3 wc w.heap.size (fun k_ => some k_ ≠ ((.slice Ao10 t338.length co10) : Value).ownBlock ∧ some k_ ≠ ((.slice Ao12 t342.length co12) : Value).ownBlock ∧ some k_ ≠ ((.slice Ao18 t353.length co18) : Value).ownBlock ∧ some k_ ≠ ((.slice Ao22 t359.length co22) : Value).ownBlock ∧ some k_ ≠ ((.slice Ao26 t363.length co26) : Value).ownBlock) (.slice Ao15 t349.length co15) t349) ∧ Aside0 (Kd.R (Kd.int .i64) 3 wc w.heap.size (fun k_ => some k_ ≠ ((.slice Ao10 t338.length co10) : Value).ownBlock ∧ some k_ ≠ ((.slice Ao12 t342.length co12) : Value).ownBlock ∧ some k_ ≠ ((.slice Ao15 t349.length co15) : Value).ownBlock ∧ some k_ ≠ ((.slice Ao22 t359.length co22) : Value).ownBlock ∧ some k_ ≠ ((.slice Ao26 t363.length co26) : Value).ownBlock) (.slice Ao18 t353.length co18) t353) ∧ Aside0 (Kd.R (Kd.int .i64) 3 wc w.heap.size (fun k_ => some k_ ≠ ((.slice Ao10 t338.length co10) : Value).ownBlock ∧ some k_ ≠ ((.slice Ao12 t342.length co12) : Value).ownBlock ∧ some k_ ≠ ((.slice Ao15 t349.length co15) : Value).ownBlock ∧ some k_ ≠ ((.slice Ao18 t353.length co18) : Value).ownBlock ∧ some k_ ≠ ((.slice Ao26 t363.length co26) : Value).ownBlock) (.slice Ao22 t359.length co22) t359) ∧ Aside0 (Kd.Q (Kd.int .i64) 3 wc w.heap.size (fun k_ => some k_ ≠ ((.slice Ao10 t338.length co10) : Value).ownBlock ∧ some k_ ≠ ((.slice Ao12 t342.length co12) : Value).ownBlock ∧ some k_ ≠ ((.slice Ao15 t349.length co15) : Value).ownBlock ∧ some k_ ≠ ((.slice Ao18 t353.length co18) : Value).ownBlock ∧ some k_ ≠ ((.slice Ao22 t359.length co22) : Value).ownBlock) (.slice Ao26 t363.length co26) t363) ∧ Aside0 (wc.heap[gb348]? = some (.cells #[(.slice Ao10 t338.length co10), .int .i64 t341, (.slice Ao12 t342.length co12)] 26 (0, 0))) ∧ Aside0 (wc.heap[gb358]? = some (.cells #[(.slice Ao15 t349.length co15), .int .i64 t352, (.slice Ao18 t353.length co18)] 26 (0, 0))) ∧ Aside0 (wc.heap[gb368]? = some (.cells #[(.slice Ao22 t359.length co22), .int .i64 t362, (.slice Ao26 t363.length co26)] 26 (0, 0))) ∧ Aside0 (Below w.heap.size w wc))
    case first =>
      have H := HC7.out
      clear HC7
      by_cases c27 : t356 = t366
      · rw [if_pos c27] at H
        have c27b0 : (t356 == t366) = true := beq_iff_eq.mpr c27
        have c27b1 : (t356 != t366) = false := bne_eq_false_iff_eq.mpr c27
        clear c27
        (first | rw [c27b0] | (simp only [i64_w, i32_w]; rw [c27b0]) | skip)
        by_cases c28 : (t357 != t367) = true
        · rw [if_pos c28] at H
          have c28b0 : (t357 != t367) = true := c28
          (try (have c28b1 : decide (t357 = t367) = false := by simpa using c28))
          (try (have c28b2 : (t357 == t367) = false := by simpa using c28))
          (try (have c28b3 : ¬ (t357 = t367) := by simpa using c28))
          clear c28
          exact absurd H (by cases k <;> simp [laws_FnDevices.j0])
        · rw [if_neg c28] at H
          have c28b0 : (t357 != t367) = false := by simpa using c28
          (try (have c28b1 : decide (t357 = t367) = true := by simpa using c28))
          (try (have c28b2 : (t357 == t367) = true := by simpa using c28))
          clear c28
          replace H := Option.bind_eq_some_iff.mp H
          obtain ⟨t369, A290, H⟩ := H
          replace H : (if t369 = true then ((impl_DevOk.f k t338 t341 t342).bind fun t370 => ((spec_DevOk.f k t338 t341 t342).bind fun t371 => (laws_FnDevices.j0 k t345 t346 t347 t356 t357 (t370 != t371) t338 t341 t342 t349 t352 t353))) else (laws_FnDevices.j0 k t345 t346 t347 t356 t357 true t338 t341 t342 t349 t352 t353)) = some true := H
          have A29 := Aside0.mk A290
          clear A290
          by_cases c30 : t369 = true
          · subst c30
            have H1 : ((impl_DevOk.f k t338 t341 t342).bind fun t370 => ((spec_DevOk.f k t338 t341 t342).bind fun t371 => (laws_FnDevices.j0 k t345 t346 t347 t356 t357 (t370 != t371) t338 t341 t342 t349 t352 t353))) = some true := by rw [if_pos rfl] at H; exact H
            clear H
            have H := H1
            clear H1
            replace H := Option.bind_eq_some_iff.mp H
            obtain ⟨t370, A310, H⟩ := H
            replace H : ((spec_DevOk.f k t338 t341 t342).bind fun t371 => (laws_FnDevices.j0 k t345 t346 t347 t356 t357 (t370 != t371) t338 t341 t342 t349 t352 t353)) = some true := H
            have A31 := Aside0.mk A310
            clear A310
            replace H := Option.bind_eq_some_iff.mp H
            obtain ⟨t371, A320, H⟩ := H
            replace H : (laws_FnDevices.j0 k t345 t346 t347 t356 t357 (t370 != t371) t338 t341 t342 t349 t352 t353) = some true := H
            have A32 := Aside0.mk A320
            clear A320
            have H' := Aside0.mk H
            clear H
            try go_wp2
            have n0_ : Aside0 (Kd.Q (Kd.int .i64) 3 (((w21.setCell ⟨gb368, 0, none⟩ (.slice Ao22 t359.length co22)).setCell ⟨gb368, 1, none⟩ (.int .i64 t362)).setCell ⟨gb368, 2, none⟩ (.slice Ao26 t363.length co26)) w.heap.size (fun k_ => some k_ ≠ (.slice Ao12 t342.length co12 : Value).ownBlock ∧ some k_ ≠ (.slice Ao15 t349.length co15 : Value).ownBlock ∧ some k_ ≠ (.slice Ao18 t353.length co18 : Value).ownBlock ∧ some k_ ≠ (.slice Ao22 t359.length co22 : Value).ownBlock ∧ some k_ ≠ (.slice Ao26 t363.length co26 : Value).ownBlock) (.slice Ao10 t338.length co10) t338) := ⟨by (with_reducible repeat (first | apply Kd.Q_alloc | apply Kd.Q_drewN | apply Kd.Q_drew)); exact Kd.Q_mono (Kd.Q_far (p := ⟨gb368, 2, none⟩) (Kd.Q_far (p := ⟨gb368, 1, none⟩) (Kd.Q_far (p := ⟨gb368, 0, none⟩) (Kd.Q_types HO340.out BK368.out (by decide)) (fun _ hk => hk.2) (.slice Ao22 t359.length co22)) (fun _ hk => hk.2) (.int .i64 t362)) (fun _ hk => hk.2) (.slice Ao26 t363.length co26)) (fun _ hk => ⟨hk.1.1.1.1.1, ⟨hk.1.1.1.1.2, ⟨hk.1.1.1.2, ⟨hk.1.1.2, hk.1.2⟩⟩⟩⟩)⟩
            have n1_ : Aside0 (Kd.Q (Kd.int .i64) 3 (((w21.setCell ⟨gb368, 0, none⟩ (.slice Ao22 t359.length co22)).setCell ⟨gb368, 1, none⟩ (.int .i64 t362)).setCell ⟨gb368, 2, none⟩ (.slice Ao26 t363.length co26)) w.heap.size (fun k_ => some k_ ≠ (.slice Ao10 t338.length co10 : Value).ownBlock ∧ some k_ ≠ (.slice Ao15 t349.length co15 : Value).ownBlock ∧ some k_ ≠ (.slice Ao18 t353.length co18 : Value).ownBlock ∧ some k_ ≠ (.slice Ao22 t359.length co22 : Value).ownBlock ∧ some k_ ≠ (.slice Ao26 t363.length co26 : Value).ownBlock) (.slice Ao12 t342.length co12) t342) := ⟨by (with_reducible repeat (first | apply Kd.Q_alloc | apply Kd.Q_drewN | apply Kd.Q_drew)); exact Kd.Q_mono (Kd.Q_far (p := ⟨gb368, 2, none⟩) (Kd.Q_far (p := ⟨gb368, 1, none⟩) (Kd.Q_far (p := ⟨gb368, 0, none⟩) (Kd.Q_types HO344.out BK368.out (by decide)) (fun _ hk => hk.2) (.slice Ao22 t359.length co22)) (fun _ hk => hk.2) (.int .i64 t362)) (fun _ hk => hk.2) (.slice Ao26 t363.length co26)) (fun _ hk => ⟨hk.1.1.1.1.1, ⟨hk.1.1.1.1.2, ⟨hk.1.1.1.2, ⟨hk.1.1.2, hk.1.2⟩⟩⟩⟩)⟩
            have n2_ : Aside0 (Kd.R (Kd.int .i64) 3 (((w21.setCell ⟨gb368, 0, none⟩ (.slice Ao22 t359.length co22)).setCell ⟨gb368, 1, none⟩ (.int .i64 t362)).setCell ⟨gb368, 2, none⟩ (.slice Ao26 t363.length co26)) w.heap.size (fun k_ => some k_ ≠ (.slice Ao10 t338.length co10 : Value).ownBlock ∧ some k_ ≠ (.slice Ao12 t342.length co12 : Value).ownBlock ∧ some k_ ≠ (.slice Ao18 t353.length co18 : Value).ownBlock ∧ some k_ ≠ (.slice Ao22 t359.length co22 : Value).ownBlock ∧ some k_ ≠ (.slice Ao26 t363.length co26 : Value).ownBlock) (.slice Ao15 t349.length co15) t349) := ⟨by (with_reducible repeat (first | apply Kd.R_alloc | apply Kd.R_drewN | apply Kd.R_drew)); exact Kd.R_mono (Kd.R_far (p := ⟨gb368, 2, none⟩) (Kd.R_far (p := ⟨gb368, 1, none⟩) (Kd.R_far (p := ⟨gb368, 0, none⟩) (Kd.R_types HO351.out BK368.out (by decide)) (fun _ hk => hk.2) (.slice Ao22 t359.length co22)) (fun _ hk => hk.2) (.int .i64 t362)) (fun _ hk => hk.2) (.slice Ao26 t363.length co26)) (fun _ hk => ⟨hk.1.1.1.1.2, ⟨hk.1.1.1.2, ⟨hk.1.1.1.1.1, ⟨hk.1.1.2, hk.1.2⟩⟩⟩⟩)⟩
            have n3_ : Aside0 (Kd.R (Kd.int .i64) 3 (((w21.setCell ⟨gb368, 0, none⟩ (.slice Ao22 t359.length co22)).setCell ⟨gb368, 1, none⟩ (.int .i64 t362)).setCell ⟨gb368, 2, none⟩ (.slice Ao26 t363.length co26)) w.heap.size (fun k_ => some k_ ≠ (.slice Ao10 t338.length co10 : Value).ownBlock ∧ some k_ ≠ (.slice Ao12 t342.length co12 : Value).ownBlock ∧ some k_ ≠ (.slice Ao15 t349.length co15 : Value).ownBlock ∧ some k_ ≠ (.slice Ao22 t359.length co22 : Value).ownBlock ∧ some k_ ≠ (.slice Ao26 t363.length co26 : Value).ownBlock) (.slice Ao18 t353.length co18) t353) := ⟨by (with_reducible repeat (first | apply Kd.R_alloc | apply Kd.R_drewN | apply Kd.R_drew)); exact Kd.R_mono (Kd.R_far (p := ⟨gb368, 2, none⟩) (Kd.R_far (p := ⟨gb368, 1, none⟩) (Kd.R_far (p := ⟨gb368, 0, none⟩) (Kd.R_types HO355.out BK368.out (by decide)) (fun _ hk => hk.2) (.slice Ao22 t359.length co22)) (fun _ hk => hk.2) (.int .i64 t362)) (fun _ hk => hk.2) (.slice Ao26 t363.length co26)) (fun _ hk => ⟨hk.1.1.1.1.2, ⟨hk.1.1.1.2, ⟨hk.1.1.1.1.1, ⟨hk.1.1.2, hk.1.2⟩⟩⟩⟩)⟩
            have n4_ : Aside0 (Kd.R (Kd.int .i64) 3 (((w21.setCell ⟨gb368, 0, none⟩ (.slice Ao22 t359.length co22)).setCell ⟨gb368, 1, none⟩ (.int .i64 t362)).setCell ⟨gb368, 2, none⟩ (.slice Ao26 t363.length co26)) w.heap.size (fun k_ => some k_ ≠ (.slice Ao10 t338.length co10 : Value).ownBlock ∧ some k_ ≠ (.slice Ao12 t342.length co12 : Value).ownBlock ∧ some k_ ≠ (.slice Ao15 t349.length co15 : Value).ownBlock ∧ some k_ ≠ (.slice Ao18 t353.length co18 : Value).ownBlock ∧ some k_ ≠ (.slice Ao26 t363.length co26 : Value).ownBlock) (.slice Ao22 t359.length co22) t359) := ⟨by (with_reducible repeat (first | apply Kd.R_alloc | apply Kd.R_drewN | apply Kd.R_drew)); exact Kd.R_mono (Kd.R_far (p := ⟨gb368, 2, none⟩) (Kd.R_far (p := ⟨gb368, 1, none⟩) (Kd.R_far (p := ⟨gb368, 0, none⟩) (Kd.R_types HO361.out BK368.out (by decide)) (fun _ hk => hk.2) (.slice Ao22 t359.length co22)) (fun _ hk => hk.2) (.int .i64 t362)) (fun _ hk => hk.2) (.slice Ao26 t363.length co26)) (fun _ hk => ⟨hk.1.1.1.1.2, ⟨hk.1.1.1.2, ⟨hk.1.1.2, ⟨hk.1.2, hk.1.1.1.1.1⟩⟩⟩⟩)⟩
            have n5_ : Aside0 (Kd.Q (Kd.int .i64) 3 (((w21.setCell ⟨gb368, 0, none⟩ (.slice Ao22 t359.length co22)).setCell ⟨gb368, 1, none⟩ (.int .i64 t362)).setCell ⟨gb368, 2, none⟩ (.slice Ao26 t363.length co26)) w.heap.size (fun k_ => some k_ ≠ (.slice Ao10 t338.length co10 : Value).ownBlock ∧ some k_ ≠ (.slice Ao12 t342.length co12 : Value).ownBlock ∧ some k_ ≠ (.slice Ao15 t349.length co15 : Value).ownBlock ∧ some k_ ≠ (.slice Ao18 t353.length co18 : Value).ownBlock ∧ some k_ ≠ (.slice Ao22 t359.length co22 : Value).ownBlock) (.slice Ao26 t363.length co26) t363) := ⟨by (with_reducible repeat (first | apply Kd.Q_alloc | apply Kd.Q_drewN | apply Kd.Q_drew)); exact Kd.Q_mono (Kd.Q_far (p := ⟨gb368, 2, none⟩) (Kd.Q_far (p := ⟨gb368, 1, none⟩) (Kd.Q_far (p := ⟨gb368, 0, none⟩) (Kd.Q_types HO365.out BK368.out (by decide)) (fun _ hk => hk.2) (.slice Ao22 t359.length co22)) (fun _ hk => hk.2) (.int .i64 t362)) (fun _ hk => hk.2) (.slice Ao26 t363.length co26)) (fun _ hk => ⟨hk.1.1.1.1.2, ⟨hk.1.1.1.2, ⟨hk.1.1.2, ⟨hk.1.2, hk.1.1.1.1.1⟩⟩⟩⟩)⟩
            have n6_ : Aside0 ((((w21.setCell ⟨gb368, 0, none⟩ (.slice Ao22 t359.length co22)).setCell ⟨gb368, 1, none⟩ (.int .i64 t362)).setCell ⟨gb368, 2, none⟩ (.slice Ao26 t363.length co26)).heap[gb348]? = some (.cells #[.slice Ao10 t338.length co10, .int .i64 t341, .slice Ao12 t342.length co12] 26 (0, 0))) := ⟨by (with_reducible repeat (first | refine blk_drewN ?_ _ | refine blk_drew ?_ | refine blk_alloc ?_ _)); refine blk_far ?_ NB348_368.out _; (with_reducible repeat (first | refine blk_drewN ?_ _ | refine blk_drew ?_ | refine blk_alloc ?_ _)); refine blk_far ?_ NB348_368.out _; (with_reducible repeat (first | refine blk_drewN ?_ _ | refine blk_drew ?_ | refine blk_alloc ?_ _)); refine blk_far ?_ NB348_368.out _; (with_reducible repeat (first | refine blk_drewN ?_ _ | refine blk_drew ?_ | refine blk_alloc ?_ _)); exact BK348.out⟩
            have n7_ : Aside0 ((((w21.setCell ⟨gb368, 0, none⟩ (.slice Ao22 t359.length co22)).setCell ⟨gb368, 1, none⟩ (.int .i64 t362)).setCell ⟨gb368, 2, none⟩ (.slice Ao26 t363.length co26)).heap[gb358]? = some (.cells #[.slice Ao15 t349.length co15, .int .i64 t352, .slice Ao18 t353.length co18] 26 (0, 0))) := ⟨by (with_reducible repeat (first | refine blk_drewN ?_ _ | refine blk_drew ?_ | refine blk_alloc ?_ _)); refine blk_far ?_ NB358_368.out _; (with_reducible repeat (first | refine blk_drewN ?_ _ | refine blk_drew ?_ | refine blk_alloc ?_ _)); refine blk_far ?_ NB358_368.out _; (with_reducible repeat (first | refine blk_drewN ?_ _ | refine blk_drew ?_ | refine blk_alloc ?_ _)); refine blk_far ?_ NB358_368.out _; (with_reducible repeat (first | refine blk_drewN ?_ _ | refine blk_drew ?_ | refine blk_alloc ?_ _)); exact BK358.out⟩
            have n8_ : Aside0 ((((w21.setCell ⟨gb368, 0, none⟩ (.slice Ao22 t359.length co22)).setCell ⟨gb368, 1, none⟩ (.int .i64 t362)).setCell ⟨gb368, 2, none⟩ (.slice Ao26 t363.length co26)).heap[gb368]? = some (.cells #[.slice Ao22 t359.length co22, .int .i64 t362, .slice Ao26 t363.length co26] 26 (0, 0))) := ⟨by (with_reducible repeat (first | refine blk_drewN ?_ _ | refine blk_drew ?_ | refine blk_alloc ?_ _)); refine blk_put (cs := #[.slice Ao22 t359.length co22, .int .i64 t362, .slice none 0 0]) ?_ 2 _ rfl; (with_reducible repeat (first | refine blk_drewN ?_ _ | refine blk_drew ?_ | refine blk_alloc ?_ _)); refine blk_put (cs := #[.slice Ao22 t359.length co22, .int .i64 0, .slice none 0 0]) ?_ 1 _ rfl; (with_reducible repeat (first | refine blk_drewN ?_ _ | refine blk_drew ?_ | refine blk_alloc ?_ _)); refine blk_put (cs := #[.slice none 0 0, .int .i64 0, .slice none 0 0]) ?_ 0 _ rfl; (with_reducible repeat (first | refine blk_drewN ?_ _ | refine blk_drew ?_ | refine blk_alloc ?_ _)); exact BK368.out⟩
            have n9_ : Aside0 (Below w.heap.size w (((w21.setCell ⟨gb368, 0, none⟩ (.slice Ao22 t359.length co22)).setCell ⟨gb368, 1, none⟩ (.int .i64 t362)).setCell ⟨gb368, 2, none⟩ (.slice Ao26 t363.length co26))) := ⟨by repeat (first | (with_reducible first | exact HB.out | apply below_alloc | apply pw_below_drewN | apply below_drew1 | refine below_set ?_ GE348.out | refine below_set ?_ GE358.out | refine below_set ?_ GE368.out) | exact HB.out)⟩
            (try clear HO340)
            (try clear HO344)
            (try clear HO351)
            (try clear HO355)
            (try clear HO361)
            (try clear HO365)
            (try clear BK348)
            (try clear BK358)
            (try clear BK368)
            (try clear HB)
            generalize (((w21.setCell ⟨gb368, 0, none⟩ (.slice Ao22 t359.length co22)).setCell ⟨gb368, 1, none⟩ (.int .i64 t362)).setCell ⟨gb368, 2, none⟩ (.slice Ao26 t363.length co26)) = w33 at n0_ n1_ n2_ n3_ n4_ n5_ n6_ n7_ n8_ n9_ ⊢
            have HO340 := n0_
            have HO344 := n1_
            have HO351 := n2_
            have HO355 := n3_
            have HO361 := n4_
            have HO365 := n5_
            have BK348 := n6_
            have BK358 := n7_
            have BK368 := n8_
            have HB := n9_
            clear n0_ n1_ n2_ n3_ n4_ n5_ n6_ n7_ n8_ n9_
            have n0_ := Aside0.mk (Kd.Q_drew HO340.out)
            have n1_ := Aside0.mk (Kd.Q_drew HO344.out)
            have n2_ := Aside0.mk (Kd.R_drew HO351.out)
            have n3_ := Aside0.mk (Kd.R_drew HO355.out)
            have n4_ := Aside0.mk (Kd.R_drew HO361.out)
            have n5_ := Aside0.mk (Kd.Q_drew HO365.out)
            have n6_ := Aside0.mk (blk_drew BK348.out)
            have n7_ := Aside0.mk (blk_drew BK358.out)
            have n8_ := Aside0.mk (blk_drew BK368.out)
            have n9_ := Aside0.mk (below_drew1 HB.out)
            clear HO340
            clear HO344
            clear HO351
            clear HO355
            clear HO361
            clear HO365
            clear BK348
            clear BK358
            clear BK368
            clear HB
            have HO340 := n0_
            have HO344 := n1_
            have HO351 := n2_
            have HO355 := n3_
            have HO361 := n4_
            have HO365 := n5_
            have BK348 := n6_
            have BK358 := n7_
            have BK368 := n8_
            have HB := n9_
            clear n0_ n1_ n2_ n3_ n4_ n5_ n6_ n7_ n8_ n9_
            refine start_ (n := 21) (S := fun w' => w'.cell? ⟨gb358, 0, none⟩ = some (.slice Ao15 t349.length co15) ∧ w'.cell? ⟨gb358, 1, none⟩ = some (.int .i64 t352) ∧ w'.cell? ⟨gb358, 2, none⟩ = some (.slice Ao18 t353.length co18) ∧ w'.cell? ⟨gb368, 0, none⟩ = some (.slice Ao22 t359.length co22) ∧ w'.cell? ⟨gb368, 1, none⟩ = some (.int .i64 t362) ∧ w'.cell? ⟨gb368, 2, none⟩ = some (.slice Ao26 t363.length co26) ∧ w'.cell? ⟨gb348, 0, none⟩ = some (.slice Ao10 t338.length co10) ∧ w'.cell? ⟨gb348, 1, none⟩ = some (.int .i64 t341) ∧ w'.cell? ⟨gb348, 2, none⟩ = some (.slice Ao12 t342.length co12)) (ds := []) #[false, false, false, false, false, false, false, false, false, false, false, false, false, false, false, false, false, false, false, false, false] (by kernel_rfl) rfl rfl ⟨(blk_cell BK358.out 0).trans rfl, (blk_cell BK358.out 1).trans rfl, (blk_cell BK358.out 2).trans rfl, (blk_cell BK368.out 0).trans rfl, (blk_cell BK368.out 1).trans rfl, (blk_cell BK368.out 2).trans rfl, (blk_cell BK348.out 0).trans rfl, (blk_cell BK348.out 1).trans rfl, (blk_cell BK348.out 2).trans rfl⟩ (fun hHeld => ?_); refine with_tabW laws_FnDevices.tab6 laws_FnDevices.bits6 (fun HT_ HW_ => ?_)
            generalize w33.drew = w34 at HO340 HO344 HO351 HO355 HO361 HO365 BK348 BK358 BK368 HB hHeld ⊢
            refine pure_ (i := 0) (N := some 43) (v := ?_) (a' := ?_) #[true, false, false, false, false, false, false, false, false, false, false, false, false, false, false, false, false, false, false, false, false] rfl rfl (any_of HT_.out (by kernel_rfl)) (fun _ _ _ h => h) (Or.inl ⟨by rfl, ?_⟩) ?_ ?_
            rotate_left
            · intro w'
              go_simp
              with_reducible rfl
            rotate_left
            · simp only [Act.put, List.setIfInBounds_toArray, List.set_cons_zero, List.set_cons_succ, i64_w, i32_w]
              rfl
            refine pure_ (i := 1) (N := some 44) (v := ?_) (a' := ?_) #[true, true, false, false, false, false, false, false, false, false, false, false, false, false, false, false, false, false, false, false, false] rfl rfl (any_of HT_.out (by kernel_rfl)) (fun _ _ _ h => h) (Or.inl ⟨by rfl, ?_⟩) ?_ ?_
            rotate_left
            · intro w'
              go_simp
              with_reducible rfl
            rotate_left
            · simp only [Act.put, List.setIfInBounds_toArray, List.set_cons_zero, List.set_cons_succ, i64_w, i32_w]
              rfl
            refine pure_ (i := 2) (N := some 45) (v := ?_) (a' := ?_) #[true, true, true, false, false, false, false, false, false, false, false, false, false, false, false, false, false, false, false, false, false] rfl rfl (any_of HT_.out (by kernel_rfl)) (fun _ _ _ h => h) (Or.inl ⟨by rfl, ?_⟩) ?_ ?_
            rotate_left
            · intro w'
              go_simp
              with_reducible rfl
            rotate_left
            · simp only [Act.put, List.setIfInBounds_toArray, List.set_cons_zero, List.set_cons_succ, i64_w, i32_w]
              rfl
            refine pure_ (i := 3) (N := some 46) (v := ?_) (a' := ?_) #[true, true, true, true, false, false, false, false, false, false, false, false, false, false, false, false, false, false, false, false, false] rfl rfl (any_of HT_.out (by kernel_rfl)) (fun _ _ _ h => h) (Or.inl ⟨by rfl, ?_⟩) ?_ ?_
            rotate_left
            · intro w'
              go_simp
              with_reducible rfl
            rotate_left
            · simp only [Act.put, List.setIfInBounds_toArray, List.set_cons_zero, List.set_cons_succ, i64_w, i32_w]
              rfl
            refine pure_ (i := 4) (N := some 47) (v := ?_) (a' := ?_) #[true, true, true, true, true, false, false, false, false, false, false, false, false, false, false, false, false, false, false, false, false] rfl rfl (any_of HT_.out (by kernel_rfl)) (fun _ _ _ h => h) (Or.inl ⟨by rfl, ?_⟩) ?_ ?_
            rotate_left
            · intro w'
              go_simp
              with_reducible rfl
            rotate_left
            · simp only [Act.put, List.setIfInBounds_toArray, List.set_cons_zero, List.set_cons_succ, i64_w, i32_w]
              rfl
            refine pure_ (i := 5) (N := some 48) (v := ?_) (a' := ?_) #[true, true, true, true, true, true, false, false, false, false, false, false, false, false, false, false, false, false, false, false, false] rfl rfl (any_of HT_.out (by kernel_rfl)) (fun _ _ _ h => h) (Or.inl ⟨by rfl, ?_⟩) ?_ ?_
            rotate_left
            · intro w'
              go_simp
              with_reducible rfl
            rotate_left
            · simp only [Act.put, List.setIfInBounds_toArray, List.set_cons_zero, List.set_cons_succ, i64_w, i32_w]
              rfl
            refine pure_ (i := 6) (N := some 49) (v := ?_) (a' := ?_) #[true, true, true, true, true, true, true, false, false, false, false, false, false, false, false, false, false, false, false, false, false] rfl rfl (any_of HT_.out (by kernel_rfl)) (fun _ _ _ h => h) (Or.inl ⟨by rfl, ?_⟩) ?_ ?_
            rotate_left
            · intro w'
              go_simp
              with_reducible rfl
            rotate_left
            · simp only [Act.put, List.setIfInBounds_toArray, List.set_cons_zero, List.set_cons_succ, i64_w, i32_w]
              rfl
            refine pure_ (i := 7) (N := some 50) (v := ?_) (a' := ?_) #[true, true, true, true, true, true, true, true, false, false, false, false, false, false, false, false, false, false, false, false, false] rfl rfl (any_of HT_.out (by kernel_rfl)) (fun _ _ _ h => h) (Or.inl ⟨by rfl, ?_⟩) ?_ ?_
            rotate_left
            · intro w'
              go_simp
              with_reducible rfl
            rotate_left
            · simp only [Act.put, List.setIfInBounds_toArray, List.set_cons_zero, List.set_cons_succ, i64_w, i32_w]
              rfl
            refine pure_ (i := 8) (N := some 51) (v := ?_) (a' := ?_) #[true, true, true, true, true, true, true, true, true, false, false, false, false, false, false, false, false, false, false, false, false] rfl rfl (any_of HT_.out (by kernel_rfl)) (fun _ _ _ h => h) (Or.inl ⟨by rfl, ?_⟩) ?_ ?_
            rotate_left
            · intro w'
              go_simp
              with_reducible rfl
            rotate_left
            · simp only [Act.put, List.setIfInBounds_toArray, List.set_cons_zero, List.set_cons_succ, i64_w, i32_w]
              rfl
            refine take_ (i := 9) (N := some 52) (v := ?_) (a' := ?_) #[true, true, true, true, true, true, true, true, true, true, false, false, false, false, false, false, false, false, false, false, false] rfl rfl (take_ofW HT_.out HW_.out (by kernel_rfl)) (fun _ _ _ h => h) (Or.inl ⟨by rfl, ?_⟩) hHeld ?_ ?_
            rotate_left
            · rintro w' ⟨s0, s1, s2, s3, s4, s5, s6, s7, s8⟩
              go_simp
              with_reducible rfl
            rotate_left
            · simp only [Act.put, List.setIfInBounds_toArray, List.set_cons_zero, List.set_cons_succ, i64_w, i32_w]
              rfl
            refine take_ (i := 10) (N := some 53) (v := ?_) (a' := ?_) #[true, true, true, true, true, true, true, true, true, true, true, false, false, false, false, false, false, false, false, false, false] rfl rfl (take_ofW HT_.out HW_.out (by kernel_rfl)) (fun _ _ _ h => h) (Or.inl ⟨by rfl, ?_⟩) hHeld ?_ ?_
            rotate_left
            · rintro w' ⟨s0, s1, s2, s3, s4, s5, s6, s7, s8⟩
              go_simp
              with_reducible rfl
            rotate_left
            · simp only [Act.put, List.setIfInBounds_toArray, List.set_cons_zero, List.set_cons_succ, i64_w, i32_w]
              rfl
            refine one_ (i := 11) (N := some 54) #[true, true, true, true, true, true, true, true, true, true, true, true, false, false, false, false, false, false, false, false, false] rfl rfl (one_of HT_.out (by kernel_rfl)) (by decide) (fun K hK => ?_)
            refine goes_ Try.func31 (by kernel_rfl) rfl #[.agg #[.slice Ao15 t349.length co15, .int .i64 t352, .slice Ao18 t353.length co18], .agg #[.slice Ao22 t359.length co22, .int .i64 t362, .slice Ao26 t363.length co26]] (by rfl) rfl rfl (by (try simp only [List.map_toArray, List.map_cons, List.map_nil]); first | done | rfl | (simp only [List.length_drop, List.length_take]; rfl)) ?_
            with_reducible refine (spec_SameDev.calls k _ _ t349 t352 _ _ t353 _ _ t359 t362 _ _ t363 true _ ?side1 ?side2 ?side3 ?side4 ?side5 ?side6 ?side7 ?side8 A29.out).mono ?_
            (case side1 => repeat (first | exact (Kd.R_reads' HO351.out).2.2 | (with_reducible refine Kd.C_alloc ?_ _) | (with_reducible refine Kd.C_drewN ?_ _) | (with_reducible refine Kd.C_drew ?_)))
            (case side2 => exact (Kd.R_reads' HO351.out).2.1)
            (case side3 => repeat (first | exact (Kd.R_reads' HO355.out).2.2 | (with_reducible refine Kd.C_alloc ?_ _) | (with_reducible refine Kd.C_drewN ?_ _) | (with_reducible refine Kd.C_drew ?_)))
            (case side4 => exact (Kd.R_reads' HO355.out).2.1)
            (case side5 => repeat (first | exact (Kd.R_reads' HO361.out).2.2 | (with_reducible refine Kd.C_alloc ?_ _) | (with_reducible refine Kd.C_drewN ?_ _) | (with_reducible refine Kd.C_drew ?_)))
            (case side6 => exact (Kd.R_reads' HO361.out).2.1)
            (case side7 => repeat (first | exact (Kd.Q_reads' HO365.out).2.2 | (with_reducible refine Kd.C_alloc ?_ _) | (with_reducible refine Kd.C_drewN ?_ _) | (with_reducible refine Kd.C_drew ?_)))
            (case side8 => exact (Kd.Q_reads' HO365.out).2.1)
            rintro e w35 ⟨rfl, hb⟩
            refine ⟨_, rfl, ?_⟩
            have n0_ := Aside0.mk (Kd.Q_below (by (with_reducible repeat (first | apply Kd.Q_alloc | apply Kd.Q_drewN | apply Kd.Q_drew)); exact HO340.out) hb)
            have n1_ := Aside0.mk (Kd.Q_below (by (with_reducible repeat (first | apply Kd.Q_alloc | apply Kd.Q_drewN | apply Kd.Q_drew)); exact HO344.out) hb)
            have n2_ := Aside0.mk (Kd.R_below (by (with_reducible repeat (first | apply Kd.R_alloc | apply Kd.R_drewN | apply Kd.R_drew)); exact HO351.out) hb)
            have n3_ := Aside0.mk (Kd.R_below (by (with_reducible repeat (first | apply Kd.R_alloc | apply Kd.R_drewN | apply Kd.R_drew)); exact HO355.out) hb)
            have n4_ := Aside0.mk (Kd.R_below (by (with_reducible repeat (first | apply Kd.R_alloc | apply Kd.R_drewN | apply Kd.R_drew)); exact HO361.out) hb)
            have n5_ := Aside0.mk (Kd.Q_below (by (with_reducible repeat (first | apply Kd.Q_alloc | apply Kd.Q_drewN | apply Kd.Q_drew)); exact HO365.out) hb)
            have n6_ := Aside0.mk (blk_below (g := gb348) (o := .cells #[.slice Ao10 t338.length co10, .int .i64 t341, .slice Ao12 t342.length co12] 26 (0, 0)) (by (with_reducible repeat (first | refine blk_drewN ?_ _ | refine blk_drew ?_ | refine blk_alloc ?_ _)); exact BK348.out) hb)
            have n7_ := Aside0.mk (blk_below (g := gb358) (o := .cells #[.slice Ao15 t349.length co15, .int .i64 t352, .slice Ao18 t353.length co18] 26 (0, 0)) (by (with_reducible repeat (first | refine blk_drewN ?_ _ | refine blk_drew ?_ | refine blk_alloc ?_ _)); exact BK358.out) hb)
            have n8_ := Aside0.mk (blk_below (g := gb368) (o := .cells #[.slice Ao22 t359.length co22, .int .i64 t362, .slice Ao26 t363.length co26] 26 (0, 0)) (by (with_reducible repeat (first | refine blk_drewN ?_ _ | refine blk_drew ?_ | refine blk_alloc ?_ _)); exact BK368.out) hb)
            have n9_ := Aside0.mk (below_step (by repeat (first | (with_reducible first | exact HB.out | apply below_alloc | apply pw_below_drewN | apply below_drew1 | refine below_set ?_ GE348.out | refine below_set ?_ GE358.out | refine below_set ?_ GE368.out) | exact HB.out)) hb)
            clear HO340
            clear HO344
            clear HO351
            clear HO355
            clear HO361
            clear HO365
            clear BK348
            clear BK358
            clear BK368
            clear HB
            have HO340 := n0_
            have HO344 := n1_
            have HO351 := n2_
            have HO355 := n3_
            have HO361 := n4_
            have HO365 := n5_
            have BK348 := n6_
            have BK358 := n7_
            have BK368 := n8_
            have HB := n9_
            clear n0_ n1_ n2_ n3_ n4_ n5_ n6_ n7_ n8_ n9_
            (try clear hb)
            (try clear hb2)
            (try clear hk)
            (try clear hi)
            refine hK.out _ _ ⟨(blk_cell BK358.out 0).trans rfl, (blk_cell BK358.out 1).trans rfl, (blk_cell BK358.out 2).trans rfl, (blk_cell BK368.out 0).trans rfl, (blk_cell BK368.out 1).trans rfl, (blk_cell BK368.out 2).trans rfl, (blk_cell BK348.out 0).trans rfl, (blk_cell BK348.out 1).trans rfl, (blk_cell BK348.out 2).trans rfl⟩ (fun hHeld => ?_)
            clear hK K
            refine norm_ (a' := ?_) ?_ ?_
            rotate_left
            · show Act.put _ (some 54) _ = _
              simp only [Act.put, List.setIfInBounds_toArray, List.set_cons_zero, List.set_cons_succ, i64_w, i32_w]
              rfl
            refine pure_ (i := 12) (N := some 55) (v := ?_) (a' := ?_) #[true, true, true, true, true, true, true, true, true, true, true, true, true, false, false, false, false, false, false, false, false] rfl rfl (any_of HT_.out (by kernel_rfl)) (fun _ _ _ h => h) (Or.inl ⟨by rfl, ?_⟩) ?_ ?_
            rotate_left
            · intro w'
              go_simp
              with_reducible rfl
            rotate_left
            · simp only [Act.put, List.setIfInBounds_toArray, List.set_cons_zero, List.set_cons_succ, i64_w, i32_w]
              rfl
            refine pure_ (i := 13) (N := some 56) (v := ?_) (a' := ?_) #[true, true, true, true, true, true, true, true, true, true, true, true, true, true, false, false, false, false, false, false, false] rfl rfl (any_of HT_.out (by kernel_rfl)) (fun _ _ _ h => h) (Or.inl ⟨by rfl, ?_⟩) ?_ ?_
            rotate_left
            · intro w'
              go_simp
              with_reducible rfl
            rotate_left
            · simp only [Act.put, List.setIfInBounds_toArray, List.set_cons_zero, List.set_cons_succ, i64_w, i32_w]
              rfl
            refine pure_ (i := 14) (N := some 57) (v := ?_) (a' := ?_) #[true, true, true, true, true, true, true, true, true, true, true, true, true, true, true, false, false, false, false, false, false] rfl rfl (any_of HT_.out (by kernel_rfl)) (fun _ _ _ h => h) (Or.inl ⟨by rfl, ?_⟩) ?_ ?_
            rotate_left
            · intro w'
              go_simp
              with_reducible rfl
            rotate_left
            · simp only [Act.put, List.setIfInBounds_toArray, List.set_cons_zero, List.set_cons_succ, i64_w, i32_w]
              rfl
            refine take_ (i := 15) (N := some 58) (v := ?_) (a' := ?_) #[true, true, true, true, true, true, true, true, true, true, true, true, true, true, true, true, false, false, false, false, false] rfl rfl (take_ofW HT_.out HW_.out (by kernel_rfl)) (fun _ _ _ h => h) (Or.inl ⟨by rfl, ?_⟩) hHeld ?_ ?_
            rotate_left
            · rintro w' ⟨s0, s1, s2, s3, s4, s5, s6, s7, s8⟩
              go_simp
              with_reducible rfl
            rotate_left
            · simp only [Act.put, List.setIfInBounds_toArray, List.set_cons_zero, List.set_cons_succ, i64_w, i32_w]
              rfl
            refine take_ (i := 17) (N := some 60) (v := ?_) (a' := ?_) #[true, true, true, true, true, true, true, true, true, true, true, true, true, true, true, true, false, true, false, false, false] rfl rfl (take_ofW HT_.out HW_.out (by kernel_rfl)) (fun _ _ _ h => h) (Or.inl ⟨by rfl, ?_⟩) hHeld ?_ ?_
            rotate_left
            · rintro w' ⟨s0, s1, s2, s3, s4, s5, s6, s7, s8⟩
              go_simp
              with_reducible rfl
            rotate_left
            · simp only [Act.put, List.setIfInBounds_toArray, List.set_cons_zero, List.set_cons_succ, i64_w, i32_w]
              rfl
            refine one_ (i := 16) (N := some 59) #[true, true, true, true, true, true, true, true, true, true, true, true, true, true, true, true, true, true, false, false, false] rfl rfl (one_of HT_.out (by kernel_rfl)) (by decide) (fun K hK => ?_)
            refine goes_ Try.func37 (by kernel_rfl) rfl #[.agg #[.slice Ao10 t338.length co10, .int .i64 t341, .slice Ao12 t342.length co12]] (by rfl) rfl rfl (by (try simp only [List.map_toArray, List.map_cons, List.map_nil]); first | done | rfl | (simp only [List.length_drop, List.length_take]; rfl)) ?_
            with_reducible refine (impl_DevOk.calls k _ _ t338 t341 _ _ t342 t370 _ ?side1 ?side2 ?side3 ?side4 A31.out).mono ?_
            (case side1 => repeat (first | exact (Kd.Q_reads' HO340.out).2.2 | (with_reducible refine Kd.C_alloc ?_ _) | (with_reducible refine Kd.C_drewN ?_ _) | (with_reducible refine Kd.C_drew ?_)))
            (case side2 => exact (Kd.Q_reads' HO340.out).2.1)
            (case side3 => repeat (first | exact (Kd.Q_reads' HO344.out).2.2 | (with_reducible refine Kd.C_alloc ?_ _) | (with_reducible refine Kd.C_drewN ?_ _) | (with_reducible refine Kd.C_drew ?_)))
            (case side4 => exact (Kd.Q_reads' HO344.out).2.1)
            rintro e w36 ⟨rfl, hb⟩
            refine ⟨_, rfl, ?_⟩
            have n0_ := Aside0.mk (Kd.Q_below (by (with_reducible repeat (first | apply Kd.Q_alloc | apply Kd.Q_drewN | apply Kd.Q_drew)); exact HO340.out) hb)
            have n1_ := Aside0.mk (Kd.Q_below (by (with_reducible repeat (first | apply Kd.Q_alloc | apply Kd.Q_drewN | apply Kd.Q_drew)); exact HO344.out) hb)
            have n2_ := Aside0.mk (Kd.R_below (by (with_reducible repeat (first | apply Kd.R_alloc | apply Kd.R_drewN | apply Kd.R_drew)); exact HO351.out) hb)
            have n3_ := Aside0.mk (Kd.R_below (by (with_reducible repeat (first | apply Kd.R_alloc | apply Kd.R_drewN | apply Kd.R_drew)); exact HO355.out) hb)
            have n4_ := Aside0.mk (Kd.R_below (by (with_reducible repeat (first | apply Kd.R_alloc | apply Kd.R_drewN | apply Kd.R_drew)); exact HO361.out) hb)
            have n5_ := Aside0.mk (Kd.Q_below (by (with_reducible repeat (first | apply Kd.Q_alloc | apply Kd.Q_drewN | apply Kd.Q_drew)); exact HO365.out) hb)
            have n6_ := Aside0.mk (blk_below (g := gb348) (o := .cells #[.slice Ao10 t338.length co10, .int .i64 t341, .slice Ao12 t342.length co12] 26 (0, 0)) (by (with_reducible repeat (first | refine blk_drewN ?_ _ | refine blk_drew ?_ | refine blk_alloc ?_ _)); exact BK348.out) hb)
            have n7_ := Aside0.mk (blk_below (g := gb358) (o := .cells #[.slice Ao15 t349.length co15, .int .i64 t352, .slice Ao18 t353.length co18] 26 (0, 0)) (by (with_reducible repeat (first | refine blk_drewN ?_ _ | refine blk_drew ?_ | refine blk_alloc ?_ _)); exact BK358.out) hb)
            have n8_ := Aside0.mk (blk_below (g := gb368) (o := .cells #[.slice Ao22 t359.length co22, .int .i64 t362, .slice Ao26 t363.length co26] 26 (0, 0)) (by (with_reducible repeat (first | refine blk_drewN ?_ _ | refine blk_drew ?_ | refine blk_alloc ?_ _)); exact BK368.out) hb)
            have n9_ := Aside0.mk (below_step (by repeat (first | (with_reducible first | exact HB.out | apply below_alloc | apply pw_below_drewN | apply below_drew1 | refine below_set ?_ GE348.out | refine below_set ?_ GE358.out | refine below_set ?_ GE368.out) | exact HB.out)) hb)
            clear HO340
            clear HO344
            clear HO351
            clear HO355
            clear HO361
            clear HO365
            clear BK348
            clear BK358
            clear BK368
            clear HB
            have HO340 := n0_
            have HO344 := n1_
            have HO351 := n2_
            have HO355 := n3_
            have HO361 := n4_
            have HO365 := n5_
            have BK348 := n6_
            have BK358 := n7_
            have BK368 := n8_
            have HB := n9_
            clear n0_ n1_ n2_ n3_ n4_ n5_ n6_ n7_ n8_ n9_
            (try clear hb)
            (try clear hb2)
            (try clear hk)
            (try clear hi)
            refine hK.out _ _ ⟨(blk_cell BK358.out 0).trans rfl, (blk_cell BK358.out 1).trans rfl, (blk_cell BK358.out 2).trans rfl, (blk_cell BK368.out 0).trans rfl, (blk_cell BK368.out 1).trans rfl, (blk_cell BK368.out 2).trans rfl, (blk_cell BK348.out 0).trans rfl, (blk_cell BK348.out 1).trans rfl, (blk_cell BK348.out 2).trans rfl⟩ (fun hHeld => ?_)
            clear hK K
            refine norm_ (a' := ?_) ?_ ?_
            rotate_left
            · show Act.put _ (some 59) _ = _
              simp only [Act.put, List.setIfInBounds_toArray, List.set_cons_zero, List.set_cons_succ, i64_w, i32_w]
              rfl
            refine one_ (i := 18) (N := some 61) #[true, true, true, true, true, true, true, true, true, true, true, true, true, true, true, true, true, true, true, false, false] rfl rfl (one_of HT_.out (by kernel_rfl)) (by decide) (fun K hK => ?_)
            refine goes_ Try.func36 (by kernel_rfl) rfl #[.agg #[.slice Ao10 t338.length co10, .int .i64 t341, .slice Ao12 t342.length co12]] (by rfl) rfl rfl (by (try simp only [List.map_toArray, List.map_cons, List.map_nil]); first | done | rfl | (simp only [List.length_drop, List.length_take]; rfl)) ?_
            with_reducible refine (spec_DevOk.calls k _ _ t338 t341 _ _ t342 t371 _ ?side1 ?side2 ?side3 ?side4 A32.out).mono ?_
            (case side1 => repeat (first | exact (Kd.Q_reads' HO340.out).2.2 | (with_reducible refine Kd.C_alloc ?_ _) | (with_reducible refine Kd.C_drewN ?_ _) | (with_reducible refine Kd.C_drew ?_)))
            (case side2 => exact (Kd.Q_reads' HO340.out).2.1)
            (case side3 => repeat (first | exact (Kd.Q_reads' HO344.out).2.2 | (with_reducible refine Kd.C_alloc ?_ _) | (with_reducible refine Kd.C_drewN ?_ _) | (with_reducible refine Kd.C_drew ?_)))
            (case side4 => exact (Kd.Q_reads' HO344.out).2.1)
            rintro e w37 ⟨rfl, hb⟩
            refine ⟨_, rfl, ?_⟩
            have n0_ := Aside0.mk (Kd.Q_below (by (with_reducible repeat (first | apply Kd.Q_alloc | apply Kd.Q_drewN | apply Kd.Q_drew)); exact HO340.out) hb)
            have n1_ := Aside0.mk (Kd.Q_below (by (with_reducible repeat (first | apply Kd.Q_alloc | apply Kd.Q_drewN | apply Kd.Q_drew)); exact HO344.out) hb)
            have n2_ := Aside0.mk (Kd.R_below (by (with_reducible repeat (first | apply Kd.R_alloc | apply Kd.R_drewN | apply Kd.R_drew)); exact HO351.out) hb)
            have n3_ := Aside0.mk (Kd.R_below (by (with_reducible repeat (first | apply Kd.R_alloc | apply Kd.R_drewN | apply Kd.R_drew)); exact HO355.out) hb)
            have n4_ := Aside0.mk (Kd.R_below (by (with_reducible repeat (first | apply Kd.R_alloc | apply Kd.R_drewN | apply Kd.R_drew)); exact HO361.out) hb)
            have n5_ := Aside0.mk (Kd.Q_below (by (with_reducible repeat (first | apply Kd.Q_alloc | apply Kd.Q_drewN | apply Kd.Q_drew)); exact HO365.out) hb)
            have n6_ := Aside0.mk (blk_below (g := gb348) (o := .cells #[.slice Ao10 t338.length co10, .int .i64 t341, .slice Ao12 t342.length co12] 26 (0, 0)) (by (with_reducible repeat (first | refine blk_drewN ?_ _ | refine blk_drew ?_ | refine blk_alloc ?_ _)); exact BK348.out) hb)
            have n7_ := Aside0.mk (blk_below (g := gb358) (o := .cells #[.slice Ao15 t349.length co15, .int .i64 t352, .slice Ao18 t353.length co18] 26 (0, 0)) (by (with_reducible repeat (first | refine blk_drewN ?_ _ | refine blk_drew ?_ | refine blk_alloc ?_ _)); exact BK358.out) hb)
            have n8_ := Aside0.mk (blk_below (g := gb368) (o := .cells #[.slice Ao22 t359.length co22, .int .i64 t362, .slice Ao26 t363.length co26] 26 (0, 0)) (by (with_reducible repeat (first | refine blk_drewN ?_ _ | refine blk_drew ?_ | refine blk_alloc ?_ _)); exact BK368.out) hb)
            have n9_ := Aside0.mk (below_step (by repeat (first | (with_reducible first | exact HB.out | apply below_alloc | apply pw_below_drewN | apply below_drew1 | refine below_set ?_ GE348.out | refine below_set ?_ GE358.out | refine below_set ?_ GE368.out) | exact HB.out)) hb)
            clear HO340
            clear HO344
            clear HO351
            clear HO355
            clear HO361
            clear HO365
            clear BK348
            clear BK358
            clear BK368
            clear HB
            have HO340 := n0_
            have HO344 := n1_
            have HO351 := n2_
            have HO355 := n3_
            have HO361 := n4_
            have HO365 := n5_
            have BK348 := n6_
            have BK358 := n7_
            have BK368 := n8_
            have HB := n9_
            clear n0_ n1_ n2_ n3_ n4_ n5_ n6_ n7_ n8_ n9_
            (try clear hb)
            (try clear hb2)
            (try clear hk)
            (try clear hi)
            refine hK.out _ _ ⟨(blk_cell BK358.out 0).trans rfl, (blk_cell BK358.out 1).trans rfl, (blk_cell BK358.out 2).trans rfl, (blk_cell BK368.out 0).trans rfl, (blk_cell BK368.out 1).trans rfl, (blk_cell BK368.out 2).trans rfl, (blk_cell BK348.out 0).trans rfl, (blk_cell BK348.out 1).trans rfl, (blk_cell BK348.out 2).trans rfl⟩ (fun hHeld => ?_)
            clear hK K
            refine norm_ (a' := ?_) ?_ ?_
            rotate_left
            · show Act.put _ (some 61) _ = _
              simp only [Act.put, List.setIfInBounds_toArray, List.set_cons_zero, List.set_cons_succ, i64_w, i32_w]
              rfl
            refine pure_ (i := 19) (N := some 62) (v := ?_) (a' := ?_) #[true, true, true, true, true, true, true, true, true, true, true, true, true, true, true, true, true, true, true, true, false] rfl rfl (any_of HT_.out (by kernel_rfl)) (fun _ _ _ h => h) (Or.inl ⟨by rfl, ?_⟩) ?_ ?_
            rotate_left
            · intro w'
              go_simp
              with_reducible rfl
            rotate_left
            · simp only [Act.put, List.setIfInBounds_toArray, List.set_cons_zero, List.set_cons_succ, i64_w, i32_w]
              rfl
            refine pure_ (i := 20) (N := some 63) (v := ?_) (a' := ?_) #[true, true, true, true, true, true, true, true, true, true, true, true, true, true, true, true, true, true, true, true, true] rfl rfl (any_of HT_.out (by kernel_rfl)) (fun _ _ _ h => h) (Or.inl ⟨by rfl, ?_⟩) ?_ ?_
            rotate_left
            · intro w'
              go_simp
              with_reducible rfl
            rotate_left
            · simp only [Act.put, List.setIfInBounds_toArray, List.set_cons_zero, List.set_cons_succ, i64_w, i32_w]
              rfl
            refine done_ (done_of HT_.out (by kernel_rfl)) ?_
            try go_wp2
            go_meet
            case rel => exact ⟨_, ((t370 != t371)), (by first | rfl | (simp; done) | (simp [*]; done)), H', ⟨by first | omega | exact Nat.le_refl _⟩, ⟨by (with_reducible repeat (first | apply Kd.Q_alloc | apply Kd.Q_drewN | apply Kd.Q_drew)); exact HO340.out⟩, ⟨by (with_reducible repeat (first | apply Kd.Q_alloc | apply Kd.Q_drewN | apply Kd.Q_drew)); exact HO344.out⟩, ⟨by (with_reducible repeat (first | apply Kd.R_alloc | apply Kd.R_drewN | apply Kd.R_drew)); exact HO351.out⟩, ⟨by (with_reducible repeat (first | apply Kd.R_alloc | apply Kd.R_drewN | apply Kd.R_drew)); exact HO355.out⟩, ⟨by (with_reducible repeat (first | apply Kd.R_alloc | apply Kd.R_drewN | apply Kd.R_drew)); exact HO361.out⟩, ⟨by (with_reducible repeat (first | apply Kd.Q_alloc | apply Kd.Q_drewN | apply Kd.Q_drew)); exact HO365.out⟩, ⟨by (with_reducible repeat (first | refine blk_drewN ?_ _ | refine blk_drew ?_ | refine blk_alloc ?_ _)); exact BK348.out⟩, ⟨by (with_reducible repeat (first | refine blk_drewN ?_ _ | refine blk_drew ?_ | refine blk_alloc ?_ _)); exact BK358.out⟩, ⟨by (with_reducible repeat (first | refine blk_drewN ?_ _ | refine blk_drew ?_ | refine blk_alloc ?_ _)); exact BK368.out⟩, ⟨by repeat (first | (with_reducible first | exact HB.out | apply below_alloc | apply pw_below_drewN | apply below_drew1 | refine below_set ?_ GE348.out | refine below_set ?_ GE358.out | refine below_set ?_ GE368.out) | exact HB.out)⟩⟩
          · replace c30 := Bool.eq_false_iff.mpr c30
            subst c30
            have H1 : (laws_FnDevices.j0 k t345 t346 t347 t356 t357 true t338 t341 t342 t349 t352 t353) = some true := by rw [if_neg (show ¬ (false = true) by decide)] at H; exact H
            clear H
            have H := H1
            clear H1
            exact absurd H (by cases k <;> simp [laws_FnDevices.j0])
      · rw [if_neg c27] at H
        have c27b0 : (t356 == t366) = false := beq_eq_false_iff_ne.mpr c27
        have c27b1 : (t356 != t366) = true := bne_iff_ne.mpr c27
        (first | rw [c27b0] | (simp only [i64_w, i32_w]; rw [c27b0]) | skip)
        exact absurd H (by cases k <;> simp [laws_FnDevices.j0])
    case rest =>
      clear HC7
      try clear c1
      try clear c2
      try clear p2
      try clear c3
      try clear c4
      try clear c11
      try clear c13
      try clear c16
      try clear c23
      try clear c24
      try clear c27
      try clear c27b0
      try clear c27b1
      try clear c28
      try clear c28b0
      try clear c28b1
      try clear c28b2
      try clear c30
      try clear c31
      try clear c36
      try clear c37
      try clear hcz11_0
      try clear hcz11_1
      try clear hcz11_2
      try clear hcz17_0
      try clear hcz17_1
      try clear hcz17_2
      try clear hcz19_0
      try clear hcz19_1
      try clear hcz19_2
      try clear hcz25_0
      try clear hcz25_1
      try clear hcz25_2
      try clear hfz11_0
      try clear hfz11_1
      try clear hfz11_2
      try clear hfz17_0
      try clear hfz17_1
      try clear hfz17_2
      try clear hfz19_0
      try clear hfz19_1
      try clear hfz19_2
      try clear hfz25_0
      try clear hfz25_1
      try clear hfz25_2
      obtain ⟨kq, x63_6, rfl, HA, HJ6, HO_349000, HO_349002, HO_359000, HO_359002, HO_369000, HO_369002, BK348, BK358, BK368, HB⟩ := hcut
      cases kq with
      | zero => exact absurd HA.out (by simp [laws_FnDevices.j0])
      | succ kj6 =>
        have H := HA.out
        clear HA
        simp only [laws_FnDevices.j0] at H
        by_cases c38 : x63_6 = true
        · subst c38
          have H1 : (some false) = some true := by rw [if_pos rfl] at H; exact H
          clear H
          have H := H1
          clear H1
          exact absurd (Option.some.inj H) (by decide)
        · replace c38 := Bool.eq_false_iff.mpr c38
          subst c38
          have H1 : (if t357 = true then ((impl_DevOk.f kj6 t349 t352 t353).bind fun t373 => (if t373 = true then (if t345 = true then (laws_FnDevices.j1 kj6 t345 t346 t347 t356 (t356 != t347) t338 t341 t342 t349 t352 t353) else (laws_FnDevices.j1 kj6 t345 t346 t347 t356 false t338 t341 t342 t349 t352 t353)) else (laws_FnDevices.j1 kj6 t345 t346 t347 t356 true t338 t341 t342 t349 t352 t353))) else (if t356 = 0 then ((spec_SameDev.f kj6 t349 t352 t353 t338 t341 t342).bind fun t372 => (some t372)) else (some false))) = some true := by rw [if_neg (show ¬ (false = true) by decide)] at H; exact H
          clear H
          have H := H1
          clear H1
          by_cases c39 : t357 = true
          · subst c39
            have H1 : ((impl_DevOk.f kj6 t349 t352 t353).bind fun t373 => (if t373 = true then (if t345 = true then (laws_FnDevices.j1 kj6 t345 t346 t347 t356 (t356 != t347) t338 t341 t342 t349 t352 t353) else (laws_FnDevices.j1 kj6 t345 t346 t347 t356 false t338 t341 t342 t349 t352 t353)) else (laws_FnDevices.j1 kj6 t345 t346 t347 t356 true t338 t341 t342 t349 t352 t353))) = some true := by rw [if_pos rfl] at H; exact H
            clear H
            have H := H1
            clear H1
            have HC40 := Aside0.mk H
            clear H
            go_upto_region 10 with (fail)
            go_cut [83] (fun v83 wc => ∃ (kq : Nat) (x83_39 : Bool), v83 = .bool x83_39 ∧ Aside0 (laws_FnDevices.j1 kq t345 t346 t347 t356 x83_39 t338 t341 t342 t349 t352 t353 = some true) ∧ Aside0 (kq ≤ kj6) ∧ Aside0 (Kd.Q (Kd.int .i64) 3 wc w.heap.size (fun k_ => some k_ ≠ ((.slice Ao12 t342.length co12) : Value).ownBlock ∧ some k_ ≠ ((.slice Ao15 t349.length co15) : Value).ownBlock ∧ some k_ ≠ ((.slice Ao18 t353.length co18) : Value).ownBlock ∧ some k_ ≠ ((.slice Ao22 t359.length co22) : Value).ownBlock ∧ some k_ ≠ ((.slice Ao26 t363.length co26) : Value).ownBlock) (.slice Ao10 t338.length co10) t338) ∧ Aside0 (Kd.Q (Kd.int .i64) 3 wc w.heap.size (fun k_ => some k_ ≠ ((.slice Ao10 t338.length co10) : Value).ownBlock ∧ some k_ ≠ ((.slice Ao15 t349.length co15) : Value).ownBlock ∧ some k_ ≠ ((.slice Ao18 t353.length co18) : Value).ownBlock ∧ some k_ ≠ ((.slice Ao22 t359.length co22) : Value).ownBlock ∧ some k_ ≠ ((.slice Ao26 t363.length co26) : Value).ownBlock) (.slice Ao12 t342.length co12) t342) ∧ Aside0 (Kd.R (Kd.int .i64) 3 wc w.heap.size (fun k_ => some k_ ≠ ((.slice Ao10 t338.length co10) : Value).ownBlock ∧ some k_ ≠ ((.slice Ao12 t342.length co12) : Value).ownBlock ∧ some k_ ≠ ((.slice Ao18 t353.length co18) : Value).ownBlock ∧ some k_ ≠ ((.slice Ao22 t359.length co22) : Value).ownBlock ∧ some k_ ≠ ((.slice Ao26 t363.length co26) : Value).ownBlock) (.slice Ao15 t349.length co15) t349) ∧ Aside0 (Kd.R (Kd.int .i64) 3 wc w.heap.size (fun k_ => some k_ ≠ ((.slice Ao10 t338.length co10) : Value).ownBlock ∧ some k_ ≠ ((.slice Ao12 t342.length co12) : Value).ownBlock ∧ some k_ ≠ ((.slice Ao15 t349.length co15) : Value).ownBlock ∧ some k_ ≠ ((.slice Ao22 t359.length co22) : Value).ownBlock ∧ some k_ ≠ ((.slice Ao26 t363.length co26) : Value).ownBlock) (.slice Ao18 t353.length co18) t353) ∧ Aside0 (Kd.R (Kd.int .i64) 3 wc w.heap.size (fun k_ => some k_ ≠ ((.slice Ao10 t338.length co10) : Value).ownBlock ∧ some k_ ≠ ((.slice Ao12 t342.length co12) : Value).ownBlock ∧ some k_ ≠ ((.slice Ao15 t349.length co15) : Value).ownBlock ∧ some k_ ≠ ((.slice Ao18 t353.length co18) : Value).ownBlock ∧ some k_ ≠ ((.slice Ao26 t363.length co26) : Value).ownBlock) (.slice Ao22 t359.length co22) t359) ∧ Aside0 (Kd.Q (Kd.int .i64) 3 wc w.heap.size (fun k_ => some k_ ≠ ((.slice Ao10 t338.length co10) : Value).ownBlock ∧ some k_ ≠ ((.slice Ao12 t342.length co12) : Value).ownBlock ∧ some k_ ≠ ((.slice Ao15 t349.length co15) : Value).ownBlock ∧ some k_ ≠ ((.slice Ao18 t353.length co18) : Value).ownBlock ∧ some k_ ≠ ((.slice Ao22 t359.length co22) : Value).ownBlock) (.slice Ao26 t363.length co26) t363) ∧ Aside0 (wc.heap[gb348]? = some (.cells #[(.slice Ao10 t338.length co10), .int .i64 t341, (.slice Ao12 t342.length co12)] 26 (0, 0))) ∧ Aside0 (wc.heap[gb358]? = some (.cells #[(.slice Ao15 t349.length co15), .int .i64 t352, (.slice Ao18 t353.length co18)] 26 (0, 0))) ∧ Aside0 (wc.heap[gb368]? = some (.cells #[(.slice Ao22 t359.length co22), .int .i64 t362, (.slice Ao26 t363.length co26)] 26 (0, 0))) ∧ Aside0 (Below w.heap.size w wc))
            case first =>
              have H := HC40.out
              clear HC40
              replace H := Option.bind_eq_some_iff.mp H
              obtain ⟨t373, A410, H⟩ := H
              replace H : (if t373 = true then (if t345 = true then (laws_FnDevices.j1 kj6 t345 t346 t347 t356 (t356 != t347) t338 t341 t342 t349 t352 t353) else (laws_FnDevices.j1 kj6 t345 t346 t347 t356 false t338 t341 t342 t349 t352 t353)) else (laws_FnDevices.j1 kj6 t345 t346 t347 t356 true t338 t341 t342 t349 t352 t353)) = some true := H
              have A41 := Aside0.mk A410
              clear A410
              by_cases c42 : t373 = true
              · subst c42
                have H1 : (if t345 = true then (laws_FnDevices.j1 kj6 t345 t346 t347 t356 (t356 != t347) t338 t341 t342 t349 t352 t353) else (laws_FnDevices.j1 kj6 t345 t346 t347 t356 false t338 t341 t342 t349 t352 t353)) = some true := by rw [if_pos rfl] at H; exact H
                clear H
                have H := H1
                clear H1
                by_cases c43 : t345 = true
                · subst c43
                  have H1 : (laws_FnDevices.j1 kj6 true t346 t347 t356 (t356 != t347) t338 t341 t342 t349 t352 t353) = some true := by rw [if_pos rfl] at H; exact H
                  clear H
                  have H := H1
                  clear H1
                  have H' := Aside0.mk H
                  clear H
                  have hnb44 := NB358_348.out
                  have hnc44 := NB348_358.out
                  have hnb45 := NB358_368.out
                  have hnc45 := NB368_358.out
                  have hcz46_0 : wc.cell? ⟨gb358, 0, none⟩ = some (.slice Ao15 t349.length co15) := (blk_cell BK358.out 0).trans rfl
                  have hcz46_1 : wc.cell? ⟨gb358, 1, none⟩ = some (.int .i64 t352) := (blk_cell BK358.out 1).trans rfl
                  have hcz46_2 : wc.cell? ⟨gb358, 2, none⟩ = some (.slice Ao18 t353.length co18) := (blk_cell BK358.out 2).trans rfl
                  have hfz46_0 := blk_frozen BK358.out 0
                  have hfz46_1 := blk_frozen BK358.out 1
                  have hfz46_2 := blk_frozen BK358.out 2
                  go_wp2_with (first | ((with_reducible refine gate_callee (f := 37) rfl ?_); refine goesL_ (some 74) rfl rfl Try.func37 (by kernel_rfl) rfl #[.agg #[.slice Ao15 t349.length co15, .int .i64 t352, .slice Ao18 t353.length co18]] rfl (by (try simp only [List.map_toArray, List.map_cons, List.map_nil]); first | done | rfl | (simp only [List.length_drop, List.length_take]; rfl)) ?_; (with_reducible refine (impl_DevOk.calls kj6 _ _ t349 t352 _ _ t353 true _ ?side1 ?side2 ?side3 ?side4 A41.out).mono ?_); (case side1 => repeat (first | exact (Kd.R_reads' HO_359000.out).2.2 | (with_reducible refine Kd.C_alloc ?_ _) | (with_reducible refine Kd.C_drewN ?_ _) | (with_reducible refine Kd.C_drew ?_))); (case side2 => exact (Kd.R_reads' HO_359000.out).2.1); (case side3 => repeat (first | exact (Kd.R_reads' HO_359002.out).2.2 | (with_reducible refine Kd.C_alloc ?_ _) | (with_reducible refine Kd.C_drewN ?_ _) | (with_reducible refine Kd.C_drew ?_))); (case side4 => exact (Kd.R_reads' HO_359002.out).2.1); rintro e w47 ⟨rfl, hb⟩; refine ⟨_, rfl, ?_⟩; have n0_ := Aside0.mk (Kd.Q_below (by (with_reducible repeat (first | apply Kd.Q_alloc | apply Kd.Q_drewN | apply Kd.Q_drew)); exact HO_349000.out) hb); have n1_ := Aside0.mk (Kd.Q_below (by (with_reducible repeat (first | apply Kd.Q_alloc | apply Kd.Q_drewN | apply Kd.Q_drew)); exact HO_349002.out) hb); have n2_ := Aside0.mk (Kd.R_below (by (with_reducible repeat (first | apply Kd.R_alloc | apply Kd.R_drewN | apply Kd.R_drew)); exact HO_359000.out) hb); have n3_ := Aside0.mk (Kd.R_below (by (with_reducible repeat (first | apply Kd.R_alloc | apply Kd.R_drewN | apply Kd.R_drew)); exact HO_359002.out) hb); have n4_ := Aside0.mk (Kd.R_below (by (with_reducible repeat (first | apply Kd.R_alloc | apply Kd.R_drewN | apply Kd.R_drew)); exact HO_369000.out) hb); have n5_ := Aside0.mk (Kd.Q_below (by (with_reducible repeat (first | apply Kd.Q_alloc | apply Kd.Q_drewN | apply Kd.Q_drew)); exact HO_369002.out) hb); have n6_ := Aside0.mk (blk_below (g := gb348) (o := .cells #[.slice Ao10 t338.length co10, .int .i64 t341, .slice Ao12 t342.length co12] 26 (0, 0)) (by (with_reducible repeat (first | refine blk_drewN ?_ _ | refine blk_drew ?_ | refine blk_alloc ?_ _)); exact BK348.out) hb); have n7_ := Aside0.mk (blk_below (g := gb358) (o := .cells #[.slice Ao15 t349.length co15, .int .i64 t352, .slice Ao18 t353.length co18] 26 (0, 0)) (by (with_reducible repeat (first | refine blk_drewN ?_ _ | refine blk_drew ?_ | refine blk_alloc ?_ _)); exact BK358.out) hb); have n8_ := Aside0.mk (blk_below (g := gb368) (o := .cells #[.slice Ao22 t359.length co22, .int .i64 t362, .slice Ao26 t363.length co26] 26 (0, 0)) (by (with_reducible repeat (first | refine blk_drewN ?_ _ | refine blk_drew ?_ | refine blk_alloc ?_ _)); exact BK368.out) hb); have n9_ := Aside0.mk (below_step (by repeat (first | (with_reducible first | exact HB.out | apply below_alloc | apply pw_below_drewN | apply below_drew1 | refine below_set ?_ GE348.out | refine below_set ?_ GE358.out | refine below_set ?_ GE368.out) | exact HB.out)) hb); clear HO_349000; clear HO_349002; clear HO_359000; clear HO_359002; clear HO_369000; clear HO_369002; clear BK348; clear BK358; clear BK368; clear HB; have HO_349000 := n0_; have HO_349002 := n1_; have HO_359000 := n2_; have HO_359002 := n3_; have HO_369000 := n4_; have HO_369002 := n5_; have BK348 := n6_; have BK358 := n7_; have BK368 := n8_; have HB := n9_; clear n0_ n1_ n2_ n3_ n4_ n5_ n6_ n7_ n8_ n9_; (try clear hb); (try clear hb2); (try clear hk); (try clear hi)))
                  go_meet
                  case rel => exact ⟨_, ((t356 != t347)), (by first | rfl | (simp; done) | (simp [*]; done)), H', ⟨by have := HJ6.out; first | omega | exact Nat.le_refl _⟩, ⟨by (with_reducible repeat (first | apply Kd.Q_alloc | apply Kd.Q_drewN | apply Kd.Q_drew)); exact HO_349000.out⟩, ⟨by (with_reducible repeat (first | apply Kd.Q_alloc | apply Kd.Q_drewN | apply Kd.Q_drew)); exact HO_349002.out⟩, ⟨by (with_reducible repeat (first | apply Kd.R_alloc | apply Kd.R_drewN | apply Kd.R_drew)); exact HO_359000.out⟩, ⟨by (with_reducible repeat (first | apply Kd.R_alloc | apply Kd.R_drewN | apply Kd.R_drew)); exact HO_359002.out⟩, ⟨by (with_reducible repeat (first | apply Kd.R_alloc | apply Kd.R_drewN | apply Kd.R_drew)); exact HO_369000.out⟩, ⟨by (with_reducible repeat (first | apply Kd.Q_alloc | apply Kd.Q_drewN | apply Kd.Q_drew)); exact HO_369002.out⟩, ⟨by (with_reducible repeat (first | refine blk_drewN ?_ _ | refine blk_drew ?_ | refine blk_alloc ?_ _)); exact BK348.out⟩, ⟨by (with_reducible repeat (first | refine blk_drewN ?_ _ | refine blk_drew ?_ | refine blk_alloc ?_ _)); exact BK358.out⟩, ⟨by (with_reducible repeat (first | refine blk_drewN ?_ _ | refine blk_drew ?_ | refine blk_alloc ?_ _)); exact BK368.out⟩, ⟨by repeat (first | (with_reducible first | exact HB.out | apply below_alloc | apply pw_below_drewN | apply below_drew1 | refine below_set ?_ GE348.out | refine below_set ?_ GE358.out | refine below_set ?_ GE368.out) | exact HB.out)⟩⟩
                · replace c43 := Bool.eq_false_iff.mpr c43
                  subst c43
                  have H1 : (laws_FnDevices.j1 kj6 false t346 t347 t356 false t338 t341 t342 t349 t352 t353) = some true := by rw [if_neg (show ¬ (false = true) by decide)] at H; exact H
                  clear H
                  have H := H1
                  clear H1
                  have H' := Aside0.mk H
                  clear H
                  have hnb48 := NB358_348.out
                  have hnc48 := NB348_358.out
                  have hnb49 := NB358_368.out
                  have hnc49 := NB368_358.out
                  have hcz50_0 : wc.cell? ⟨gb358, 0, none⟩ = some (.slice Ao15 t349.length co15) := (blk_cell BK358.out 0).trans rfl
                  have hcz50_1 : wc.cell? ⟨gb358, 1, none⟩ = some (.int .i64 t352) := (blk_cell BK358.out 1).trans rfl
                  have hcz50_2 : wc.cell? ⟨gb358, 2, none⟩ = some (.slice Ao18 t353.length co18) := (blk_cell BK358.out 2).trans rfl
                  have hfz50_0 := blk_frozen BK358.out 0
                  have hfz50_1 := blk_frozen BK358.out 1
                  have hfz50_2 := blk_frozen BK358.out 2
                  go_wp2_with (first | ((with_reducible refine gate_callee (f := 37) rfl ?_); refine goesL_ (some 74) rfl rfl Try.func37 (by kernel_rfl) rfl #[.agg #[.slice Ao15 t349.length co15, .int .i64 t352, .slice Ao18 t353.length co18]] rfl (by (try simp only [List.map_toArray, List.map_cons, List.map_nil]); first | done | rfl | (simp only [List.length_drop, List.length_take]; rfl)) ?_; (with_reducible refine (impl_DevOk.calls kj6 _ _ t349 t352 _ _ t353 true _ ?side1 ?side2 ?side3 ?side4 A41.out).mono ?_); (case side1 => repeat (first | exact (Kd.R_reads' HO_359000.out).2.2 | (with_reducible refine Kd.C_alloc ?_ _) | (with_reducible refine Kd.C_drewN ?_ _) | (with_reducible refine Kd.C_drew ?_))); (case side2 => exact (Kd.R_reads' HO_359000.out).2.1); (case side3 => repeat (first | exact (Kd.R_reads' HO_359002.out).2.2 | (with_reducible refine Kd.C_alloc ?_ _) | (with_reducible refine Kd.C_drewN ?_ _) | (with_reducible refine Kd.C_drew ?_))); (case side4 => exact (Kd.R_reads' HO_359002.out).2.1); rintro e w51 ⟨rfl, hb⟩; refine ⟨_, rfl, ?_⟩; have n0_ := Aside0.mk (Kd.Q_below (by (with_reducible repeat (first | apply Kd.Q_alloc | apply Kd.Q_drewN | apply Kd.Q_drew)); exact HO_349000.out) hb); have n1_ := Aside0.mk (Kd.Q_below (by (with_reducible repeat (first | apply Kd.Q_alloc | apply Kd.Q_drewN | apply Kd.Q_drew)); exact HO_349002.out) hb); have n2_ := Aside0.mk (Kd.R_below (by (with_reducible repeat (first | apply Kd.R_alloc | apply Kd.R_drewN | apply Kd.R_drew)); exact HO_359000.out) hb); have n3_ := Aside0.mk (Kd.R_below (by (with_reducible repeat (first | apply Kd.R_alloc | apply Kd.R_drewN | apply Kd.R_drew)); exact HO_359002.out) hb); have n4_ := Aside0.mk (Kd.R_below (by (with_reducible repeat (first | apply Kd.R_alloc | apply Kd.R_drewN | apply Kd.R_drew)); exact HO_369000.out) hb); have n5_ := Aside0.mk (Kd.Q_below (by (with_reducible repeat (first | apply Kd.Q_alloc | apply Kd.Q_drewN | apply Kd.Q_drew)); exact HO_369002.out) hb); have n6_ := Aside0.mk (blk_below (g := gb348) (o := .cells #[.slice Ao10 t338.length co10, .int .i64 t341, .slice Ao12 t342.length co12] 26 (0, 0)) (by (with_reducible repeat (first | refine blk_drewN ?_ _ | refine blk_drew ?_ | refine blk_alloc ?_ _)); exact BK348.out) hb); have n7_ := Aside0.mk (blk_below (g := gb358) (o := .cells #[.slice Ao15 t349.length co15, .int .i64 t352, .slice Ao18 t353.length co18] 26 (0, 0)) (by (with_reducible repeat (first | refine blk_drewN ?_ _ | refine blk_drew ?_ | refine blk_alloc ?_ _)); exact BK358.out) hb); have n8_ := Aside0.mk (blk_below (g := gb368) (o := .cells #[.slice Ao22 t359.length co22, .int .i64 t362, .slice Ao26 t363.length co26] 26 (0, 0)) (by (with_reducible repeat (first | refine blk_drewN ?_ _ | refine blk_drew ?_ | refine blk_alloc ?_ _)); exact BK368.out) hb); have n9_ := Aside0.mk (below_step (by repeat (first | (with_reducible first | exact HB.out | apply below_alloc | apply pw_below_drewN | apply below_drew1 | refine below_set ?_ GE348.out | refine below_set ?_ GE358.out | refine below_set ?_ GE368.out) | exact HB.out)) hb); clear HO_349000; clear HO_349002; clear HO_359000; clear HO_359002; clear HO_369000; clear HO_369002; clear BK348; clear BK358; clear BK368; clear HB; have HO_349000 := n0_; have HO_349002 := n1_; have HO_359000 := n2_; have HO_359002 := n3_; have HO_369000 := n4_; have HO_369002 := n5_; have BK348 := n6_; have BK358 := n7_; have BK368 := n8_; have HB := n9_; clear n0_ n1_ n2_ n3_ n4_ n5_ n6_ n7_ n8_ n9_; (try clear hb); (try clear hb2); (try clear hk); (try clear hi)))
                  go_meet
                  case rel => exact ⟨_, (false), (by first | rfl | (simp; done) | (simp [*]; done)), H', ⟨by have := HJ6.out; first | omega | exact Nat.le_refl _⟩, ⟨by (with_reducible repeat (first | apply Kd.Q_alloc | apply Kd.Q_drewN | apply Kd.Q_drew)); exact HO_349000.out⟩, ⟨by (with_reducible repeat (first | apply Kd.Q_alloc | apply Kd.Q_drewN | apply Kd.Q_drew)); exact HO_349002.out⟩, ⟨by (with_reducible repeat (first | apply Kd.R_alloc | apply Kd.R_drewN | apply Kd.R_drew)); exact HO_359000.out⟩, ⟨by (with_reducible repeat (first | apply Kd.R_alloc | apply Kd.R_drewN | apply Kd.R_drew)); exact HO_359002.out⟩, ⟨by (with_reducible repeat (first | apply Kd.R_alloc | apply Kd.R_drewN | apply Kd.R_drew)); exact HO_369000.out⟩, ⟨by (with_reducible repeat (first | apply Kd.Q_alloc | apply Kd.Q_drewN | apply Kd.Q_drew)); exact HO_369002.out⟩, ⟨by (with_reducible repeat (first | refine blk_drewN ?_ _ | refine blk_drew ?_ | refine blk_alloc ?_ _)); exact BK348.out⟩, ⟨by (with_reducible repeat (first | refine blk_drewN ?_ _ | refine blk_drew ?_ | refine blk_alloc ?_ _)); exact BK358.out⟩, ⟨by (with_reducible repeat (first | refine blk_drewN ?_ _ | refine blk_drew ?_ | refine blk_alloc ?_ _)); exact BK368.out⟩, ⟨by repeat (first | (with_reducible first | exact HB.out | apply below_alloc | apply pw_below_drewN | apply below_drew1 | refine below_set ?_ GE348.out | refine below_set ?_ GE358.out | refine below_set ?_ GE368.out) | exact HB.out)⟩⟩
              · replace c42 := Bool.eq_false_iff.mpr c42
                subst c42
                have H1 : (laws_FnDevices.j1 kj6 t345 t346 t347 t356 true t338 t341 t342 t349 t352 t353) = some true := by rw [if_neg (show ¬ (false = true) by decide)] at H; exact H
                clear H
                have H := H1
                clear H1
                exact absurd H (by cases kj6 <;> simp [laws_FnDevices.j1])
            case rest =>
              clear HC40
              try clear c1
              try clear c2
              try clear p2
              try clear c3
              try clear c4
              try clear c11
              try clear c13
              try clear c16
              try clear c23
              try clear c24
              try clear c27
              try clear c27b0
              try clear c27b1
              try clear c28
              try clear c28b0
              try clear c28b1
              try clear c28b2
              try clear c30
              try clear c31
              try clear c36
              try clear c37
              try clear c38
              try clear c39
              try clear c40
              try clear c41
              try clear c42
              try clear c43
              try clear c44
              try clear c45
              try clear c48
              try clear c49
              try clear hcz11_0
              try clear hcz11_1
              try clear hcz11_2
              try clear hcz17_0
              try clear hcz17_1
              try clear hcz17_2
              try clear hcz19_0
              try clear hcz19_1
              try clear hcz19_2
              try clear hcz25_0
              try clear hcz25_1
              try clear hcz25_2
              try clear hcz46_0
              try clear hcz46_1
              try clear hcz46_2
              try clear hcz50_0
              try clear hcz50_1
              try clear hcz50_2
              try clear hfz11_0
              try clear hfz11_1
              try clear hfz11_2
              try clear hfz17_0
              try clear hfz17_1
              try clear hfz17_2
              try clear hfz19_0
              try clear hfz19_1
              try clear hfz19_2
              try clear hfz25_0
              try clear hfz25_1
              try clear hfz25_2
              try clear hfz46_0
              try clear hfz46_1
              try clear hfz46_2
              try clear hfz50_0
              try clear hfz50_1
              try clear hfz50_2
              try clear p2
              obtain ⟨kq, x83_39, rfl, HA, HJ39, HO_349000, HO_349002, HO_359000, HO_359002, HO_369000, HO_369002, BK348, BK358, BK368, HB⟩ := hcut
              cases kq with
              | zero => exact absurd HA.out (by simp [laws_FnDevices.j1])
              | succ kj39 =>
                have H := HA.out
                clear HA
                simp only [laws_FnDevices.j1] at H
                by_cases c52 : x83_39 = true
                · subst c52
                  have H1 : (some false) = some true := by rw [if_pos rfl] at H; exact H
                  clear H
                  have H := H1
                  clear H1
                  exact absurd (Option.some.inj H) (by decide)
                · replace c52 := Bool.eq_false_iff.mpr c52
                  subst c52
                  have H1 : (if t345 = true then (laws_FnDevices.j2 kj39 t345 t346 t347 t356 (decide (t346 < 16)) t338 t341 t342 t349 t352 t353) else (laws_FnDevices.j2 kj39 t345 t346 t347 t356 false t338 t341 t342 t349 t352 t353)) = some true := by rw [if_neg (show ¬ (false = true) by decide)] at H; exact H
                  clear H
                  have H := H1
                  clear H1
                  have HC53 := Aside0.mk H
                  clear H
                  go_upto_region 12 with (fail)
                  go_cut [88] (fun v88 wc => ∃ (kq : Nat) (x88_52 : Bool), v88 = .bool x88_52 ∧ Aside0 (laws_FnDevices.j2 kq t345 t346 t347 t356 x88_52 t338 t341 t342 t349 t352 t353 = some true) ∧ Aside0 (kq ≤ kj39) ∧ Aside0 (Kd.Q (Kd.int .i64) 3 wc w.heap.size (fun k_ => some k_ ≠ ((.slice Ao12 t342.length co12) : Value).ownBlock ∧ some k_ ≠ ((.slice Ao15 t349.length co15) : Value).ownBlock ∧ some k_ ≠ ((.slice Ao18 t353.length co18) : Value).ownBlock ∧ some k_ ≠ ((.slice Ao22 t359.length co22) : Value).ownBlock ∧ some k_ ≠ ((.slice Ao26 t363.length co26) : Value).ownBlock) (.slice Ao10 t338.length co10) t338) ∧ Aside0 (Kd.Q (Kd.int .i64) 3 wc w.heap.size (fun k_ => some k_ ≠ ((.slice Ao10 t338.length co10) : Value).ownBlock ∧ some k_ ≠ ((.slice Ao15 t349.length co15) : Value).ownBlock ∧ some k_ ≠ ((.slice Ao18 t353.length co18) : Value).ownBlock ∧ some k_ ≠ ((.slice Ao22 t359.length co22) : Value).ownBlock ∧ some k_ ≠ ((.slice Ao26 t363.length co26) : Value).ownBlock) (.slice Ao12 t342.length co12) t342) ∧ Aside0 (Kd.R (Kd.int .i64) 3 wc w.heap.size (fun k_ => some k_ ≠ ((.slice Ao10 t338.length co10) : Value).ownBlock ∧ some k_ ≠ ((.slice Ao12 t342.length co12) : Value).ownBlock ∧ some k_ ≠ ((.slice Ao18 t353.length co18) : Value).ownBlock ∧ some k_ ≠ ((.slice Ao22 t359.length co22) : Value).ownBlock ∧ some k_ ≠ ((.slice Ao26 t363.length co26) : Value).ownBlock) (.slice Ao15 t349.length co15) t349) ∧ Aside0 (Kd.R (Kd.int .i64) 3 wc w.heap.size (fun k_ => some k_ ≠ ((.slice Ao10 t338.length co10) : Value).ownBlock ∧ some k_ ≠ ((.slice Ao12 t342.length co12) : Value).ownBlock ∧ some k_ ≠ ((.slice Ao15 t349.length co15) : Value).ownBlock ∧ some k_ ≠ ((.slice Ao22 t359.length co22) : Value).ownBlock ∧ some k_ ≠ ((.slice Ao26 t363.length co26) : Value).ownBlock) (.slice Ao18 t353.length co18) t353) ∧ Aside0 (Kd.R (Kd.int .i64) 3 wc w.heap.size (fun k_ => some k_ ≠ ((.slice Ao10 t338.length co10) : Value).ownBlock ∧ some k_ ≠ ((.slice Ao12 t342.length co12) : Value).ownBlock ∧ some k_ ≠ ((.slice Ao15 t349.length co15) : Value).ownBlock ∧ some k_ ≠ ((.slice Ao18 t353.length co18) : Value).ownBlock ∧ some k_ ≠ ((.slice Ao26 t363.length co26) : Value).ownBlock) (.slice Ao22 t359.length co22) t359) ∧ Aside0 (Kd.Q (Kd.int .i64) 3 wc w.heap.size (fun k_ => some k_ ≠ ((.slice Ao10 t338.length co10) : Value).ownBlock ∧ some k_ ≠ ((.slice Ao12 t342.length co12) : Value).ownBlock ∧ some k_ ≠ ((.slice Ao15 t349.length co15) : Value).ownBlock ∧ some k_ ≠ ((.slice Ao18 t353.length co18) : Value).ownBlock ∧ some k_ ≠ ((.slice Ao22 t359.length co22) : Value).ownBlock) (.slice Ao26 t363.length co26) t363) ∧ Aside0 (wc.heap[gb348]? = some (.cells #[(.slice Ao10 t338.length co10), .int .i64 t341, (.slice Ao12 t342.length co12)] 26 (0, 0))) ∧ Aside0 (wc.heap[gb358]? = some (.cells #[(.slice Ao15 t349.length co15), .int .i64 t352, (.slice Ao18 t353.length co18)] 26 (0, 0))) ∧ Aside0 (wc.heap[gb368]? = some (.cells #[(.slice Ao22 t359.length co22), .int .i64 t362, (.slice Ao26 t363.length co26)] 26 (0, 0))) ∧ Aside0 (Below w.heap.size w wc))
                  case first =>
                    have H := HC53.out
                    clear HC53
                    by_cases c54 : t345 = true
                    · subst c54
                      have H1 : (laws_FnDevices.j2 kj39 true t346 t347 t356 (decide (t346 < 16)) t338 t341 t342 t349 t352 t353) = some true := by rw [if_pos rfl] at H; exact H
                      clear H
                      have H := H1
                      clear H1
                      have H' := Aside0.mk H
                      clear H
                      go_wp2
                      go_meet
                      case rel => exact ⟨_, (decide (t346 < 16)), (by first | rfl | (simp; done) | (simp [*]; done)), H', ⟨by have := HJ6.out; have := HJ39.out; first | omega | exact Nat.le_refl _⟩, ⟨by (with_reducible repeat (first | apply Kd.Q_alloc | apply Kd.Q_drewN | apply Kd.Q_drew)); exact HO_349000.out⟩, ⟨by (with_reducible repeat (first | apply Kd.Q_alloc | apply Kd.Q_drewN | apply Kd.Q_drew)); exact HO_349002.out⟩, ⟨by (with_reducible repeat (first | apply Kd.R_alloc | apply Kd.R_drewN | apply Kd.R_drew)); exact HO_359000.out⟩, ⟨by (with_reducible repeat (first | apply Kd.R_alloc | apply Kd.R_drewN | apply Kd.R_drew)); exact HO_359002.out⟩, ⟨by (with_reducible repeat (first | apply Kd.R_alloc | apply Kd.R_drewN | apply Kd.R_drew)); exact HO_369000.out⟩, ⟨by (with_reducible repeat (first | apply Kd.Q_alloc | apply Kd.Q_drewN | apply Kd.Q_drew)); exact HO_369002.out⟩, ⟨by (with_reducible repeat (first | refine blk_drewN ?_ _ | refine blk_drew ?_ | refine blk_alloc ?_ _)); exact BK348.out⟩, ⟨by (with_reducible repeat (first | refine blk_drewN ?_ _ | refine blk_drew ?_ | refine blk_alloc ?_ _)); exact BK358.out⟩, ⟨by (with_reducible repeat (first | refine blk_drewN ?_ _ | refine blk_drew ?_ | refine blk_alloc ?_ _)); exact BK368.out⟩, ⟨by repeat (first | (with_reducible first | exact HB.out | apply below_alloc | apply pw_below_drewN | apply below_drew1 | refine below_set ?_ GE348.out | refine below_set ?_ GE358.out | refine below_set ?_ GE368.out) | exact HB.out)⟩⟩
                    · replace c54 := Bool.eq_false_iff.mpr c54
                      subst c54
                      have H1 : (laws_FnDevices.j2 kj39 false t346 t347 t356 false t338 t341 t342 t349 t352 t353) = some true := by rw [if_neg (show ¬ (false = true) by decide)] at H; exact H
                      clear H
                      have H := H1
                      clear H1
                      have H' := Aside0.mk H
                      clear H
                      go_wp2
                      go_meet
                      case rel => exact ⟨_, (false), (by first | rfl | (simp; done) | (simp [*]; done)), H', ⟨by have := HJ6.out; have := HJ39.out; first | omega | exact Nat.le_refl _⟩, ⟨by (with_reducible repeat (first | apply Kd.Q_alloc | apply Kd.Q_drewN | apply Kd.Q_drew)); exact HO_349000.out⟩, ⟨by (with_reducible repeat (first | apply Kd.Q_alloc | apply Kd.Q_drewN | apply Kd.Q_drew)); exact HO_349002.out⟩, ⟨by (with_reducible repeat (first | apply Kd.R_alloc | apply Kd.R_drewN | apply Kd.R_drew)); exact HO_359000.out⟩, ⟨by (with_reducible repeat (first | apply Kd.R_alloc | apply Kd.R_drewN | apply Kd.R_drew)); exact HO_359002.out⟩, ⟨by (with_reducible repeat (first | apply Kd.R_alloc | apply Kd.R_drewN | apply Kd.R_drew)); exact HO_369000.out⟩, ⟨by (with_reducible repeat (first | apply Kd.Q_alloc | apply Kd.Q_drewN | apply Kd.Q_drew)); exact HO_369002.out⟩, ⟨by (with_reducible repeat (first | refine blk_drewN ?_ _ | refine blk_drew ?_ | refine blk_alloc ?_ _)); exact BK348.out⟩, ⟨by (with_reducible repeat (first | refine blk_drewN ?_ _ | refine blk_drew ?_ | refine blk_alloc ?_ _)); exact BK358.out⟩, ⟨by (with_reducible repeat (first | refine blk_drewN ?_ _ | refine blk_drew ?_ | refine blk_alloc ?_ _)); exact BK368.out⟩, ⟨by repeat (first | (with_reducible first | exact HB.out | apply below_alloc | apply pw_below_drewN | apply below_drew1 | refine below_set ?_ GE348.out | refine below_set ?_ GE358.out | refine below_set ?_ GE368.out) | exact HB.out)⟩⟩
                  case rest =>
                    clear HC53
                    try clear c1
                    try clear c2
                    try clear p2
                    try clear c3
                    try clear c4
                    try clear c5
                    try clear c11
                    try clear c13
                    try clear c16
                    try clear c23
                    try clear c24
                    try clear c27
                    try clear c27b0
                    try clear c27b1
                    try clear c28
                    try clear c28b0
                    try clear c28b1
                    try clear c28b2
                    try clear c30
                    try clear c31
                    try clear c36
                    try clear c37
                    try clear c38
                    try clear c39
                    try clear c40
                    try clear c41
                    try clear c42
                    try clear c43
                    try clear c44
                    try clear c45
                    try clear c48
                    try clear c49
                    try clear c52
                    try clear c54
                    try clear hcz11_0
                    try clear hcz11_1
                    try clear hcz11_2
                    try clear hcz17_0
                    try clear hcz17_1
                    try clear hcz17_2
                    try clear hcz19_0
                    try clear hcz19_1
                    try clear hcz19_2
                    try clear hcz25_0
                    try clear hcz25_1
                    try clear hcz25_2
                    try clear hcz46_0
                    try clear hcz46_1
                    try clear hcz46_2
                    try clear hcz50_0
                    try clear hcz50_1
                    try clear hcz50_2
                    try clear hfz11_0
                    try clear hfz11_1
                    try clear hfz11_2
                    try clear hfz17_0
                    try clear hfz17_1
                    try clear hfz17_2
                    try clear hfz19_0
                    try clear hfz19_1
                    try clear hfz19_2
                    try clear hfz25_0
                    try clear hfz25_1
                    try clear hfz25_2
                    try clear hfz46_0
                    try clear hfz46_1
                    try clear hfz46_2
                    try clear hfz50_0
                    try clear hfz50_1
                    try clear hfz50_2
                    try clear p2
                    obtain ⟨kq, x88_52, rfl, HA, HJ52, HO_349000, HO_349002, HO_359000, HO_359002, HO_369000, HO_369002, BK348, BK358, BK368, HB⟩ := hcut
                    cases kq with
                    | zero => exact absurd HA.out (by simp [laws_FnDevices.j2])
                    | succ kj52 =>
                      have H := HA.out
                      clear HA
                      simp only [laws_FnDevices.j2] at H
                      by_cases c55 : x88_52 = true
                      · subst c55
                        have H1 : ((impl_DevDo.f kj52 t349 t352 t353 false t346 0).bind fun bt374 => (if bt374.2.2.2.2 = true then (some (bt374.2.2.2.1 == t347)) else (some false))) = some true := by rw [if_pos rfl] at H; exact H
                        clear H
                        have H := H1
                        clear H1
                        replace H := Option.bind_eq_some_iff.mp H
                        obtain ⟨⟨t374, t377, t378, t381, t382⟩, A560, H⟩ := H
                        replace H : (if t382 = true then (some (t381 == t347)) else (some false)) = some true := H
                        have A56 := Aside0.mk A560
                        clear A560
                        by_cases c57 : t382 = true
                        · subst c57
                          have H1 : (some (t381 == t347)) = some true := by rw [if_pos rfl] at H; exact H
                          clear H
                          have H := H1
                          clear H1
                          have HV := Option.some.inj H
                          clear H
                          have hnb58 := NB358_348.out
                          have hnc58 := NB348_358.out
                          have hnb59 := NB358_368.out
                          have hnc59 := NB368_358.out
                          have hcz60_0 : wc.cell? ⟨gb358, 0, none⟩ = some (.slice Ao15 t349.length co15) := (blk_cell BK358.out 0).trans rfl
                          have hcz60_1 : wc.cell? ⟨gb358, 1, none⟩ = some (.int .i64 t352) := (blk_cell BK358.out 1).trans rfl
                          have hcz60_2 : wc.cell? ⟨gb358, 2, none⟩ = some (.slice Ao18 t353.length co18) := (blk_cell BK358.out 2).trans rfl
                          have hfz60_0 := blk_frozen BK358.out 0
                          have hfz60_1 := blk_frozen BK358.out 1
                          have hfz60_2 := blk_frozen BK358.out 2
                          go_wp2_with (first | ((with_reducible refine gate_callee (f := 41) rfl ?_); refine goesL_ (some 92) rfl rfl Try.func41 (by kernel_rfl) rfl #[.agg #[.slice Ao15 t349.length co15, .int .i64 t352, .slice Ao18 t353.length co18], .bool false, .int .i64 t346, .int .i64 0] rfl (by (try simp only [List.map_toArray, List.map_cons, List.map_nil]); first | done | rfl | (simp only [List.length_drop, List.length_take]; rfl)) ?_; (with_reducible refine (impl_DevDo.calls kj52 _ _ t349 t352 _ _ t353 false t346 0 t374 t377 t378 t381 true _ ?side1 ?side2 ?side3 ?side4 A56.out).mono ?_); (case side1 => repeat (first | exact (Kd.R_reads' HO_359000.out).2.2 | (with_reducible refine Kd.C_alloc ?_ _) | (with_reducible refine Kd.C_drewN ?_ _) | (with_reducible refine Kd.C_drew ?_))); (case side2 => exact (Kd.R_reads' HO_359000.out).2.1); (case side3 => repeat (first | exact (Kd.R_reads' HO_359002.out).2.2 | (with_reducible refine Kd.C_alloc ?_ _) | (with_reducible refine Kd.C_drewN ?_ _) | (with_reducible refine Kd.C_drew ?_))); (case side4 => exact (Kd.R_reads' HO_359002.out).2.1); rintro e w61 ⟨v375, v379, rfl, ho0, ho1, hb⟩; refine ⟨_, rfl, ?_⟩; have n0_ := Aside0.mk (Kd.Q_mono (Kd.Q_told (Kd.Q_told (Kd.Q_old (by (with_reducible repeat (first | apply Kd.Q_alloc | apply Kd.Q_drewN | apply Kd.Q_drew)); exact HO_349000.out) hb) (Kd.R_base ho0)) (Kd.R_base ho1)) (fun _ h_ => h_.1)); have n1_ := Aside0.mk (Kd.Q_mono (Kd.Q_told (Kd.Q_told (Kd.Q_old (by (with_reducible repeat (first | apply Kd.Q_alloc | apply Kd.Q_drewN | apply Kd.Q_drew)); exact HO_349002.out) hb) (Kd.R_base ho0)) (Kd.R_base ho1)) (fun _ h_ => h_.1)); have n2_ := Aside0.mk (Kd.R_mono (Kd.R_told (Kd.R_told (Kd.R_old (by (with_reducible repeat (first | apply Kd.R_alloc | apply Kd.R_drewN | apply Kd.R_drew)); exact HO_359000.out) hb) (Kd.R_base ho0)) (Kd.R_base ho1)) (fun _ h_ => h_.1)); have n3_ := Aside0.mk (Kd.R_mono (Kd.R_told (Kd.R_told (Kd.R_old (by (with_reducible repeat (first | apply Kd.R_alloc | apply Kd.R_drewN | apply Kd.R_drew)); exact HO_359002.out) hb) (Kd.R_base ho0)) (Kd.R_base ho1)) (fun _ h_ => h_.1)); have n4_ := Aside0.mk (Kd.R_mono (Kd.R_told (Kd.R_told (Kd.R_old (by (with_reducible repeat (first | apply Kd.R_alloc | apply Kd.R_drewN | apply Kd.R_drew)); exact HO_369000.out) hb) (Kd.R_base ho0)) (Kd.R_base ho1)) (fun _ h_ => h_.1)); have n5_ := Aside0.mk (Kd.Q_mono (Kd.Q_told (Kd.Q_told (Kd.Q_old (by (with_reducible repeat (first | apply Kd.Q_alloc | apply Kd.Q_drewN | apply Kd.Q_drew)); exact HO_369002.out) hb) (Kd.R_base ho0)) (Kd.R_base ho1)) (fun _ h_ => h_.1)); have n6_ := Aside0.mk (Kd.R_lower (Kd.R_new' (Kd.R_new' (Kd.R_new' (Kd.R_new' (Kd.R_new' (Kd.R_new' ho0 (Kd.Q_lt (by (with_reducible repeat (first | apply Kd.Q_alloc | apply Kd.Q_drewN | apply Kd.Q_drew)); exact HO_349000.out))) (Kd.Q_lt (by (with_reducible repeat (first | apply Kd.Q_alloc | apply Kd.Q_drewN | apply Kd.Q_drew)); exact HO_349002.out))) (Kd.R_lt (by (with_reducible repeat (first | apply Kd.R_alloc | apply Kd.R_drewN | apply Kd.R_drew)); exact HO_359000.out))) (Kd.R_lt (by (with_reducible repeat (first | apply Kd.R_alloc | apply Kd.R_drewN | apply Kd.R_drew)); exact HO_359002.out))) (Kd.R_lt (by (with_reducible repeat (first | apply Kd.R_alloc | apply Kd.R_drewN | apply Kd.R_drew)); exact HO_369000.out))) (Kd.Q_lt (by (with_reducible repeat (first | apply Kd.Q_alloc | apply Kd.Q_drewN | apply Kd.Q_drew)); exact HO_369002.out))) (below_size (by repeat (first | (with_reducible first | exact HB.out | apply below_alloc | apply pw_below_drewN | apply below_drew1 | refine below_set ?_ GE348.out | refine below_set ?_ GE358.out | refine below_set ?_ GE368.out) | exact HB.out)))); have n7_ := Aside0.mk (Kd.R_lower (Kd.R_new' (Kd.R_new' (Kd.R_new' (Kd.R_new' (Kd.R_new' (Kd.R_new' ho1 (Kd.Q_lt (by (with_reducible repeat (first | apply Kd.Q_alloc | apply Kd.Q_drewN | apply Kd.Q_drew)); exact HO_349000.out))) (Kd.Q_lt (by (with_reducible repeat (first | apply Kd.Q_alloc | apply Kd.Q_drewN | apply Kd.Q_drew)); exact HO_349002.out))) (Kd.R_lt (by (with_reducible repeat (first | apply Kd.R_alloc | apply Kd.R_drewN | apply Kd.R_drew)); exact HO_359000.out))) (Kd.R_lt (by (with_reducible repeat (first | apply Kd.R_alloc | apply Kd.R_drewN | apply Kd.R_drew)); exact HO_359002.out))) (Kd.R_lt (by (with_reducible repeat (first | apply Kd.R_alloc | apply Kd.R_drewN | apply Kd.R_drew)); exact HO_369000.out))) (Kd.Q_lt (by (with_reducible repeat (first | apply Kd.Q_alloc | apply Kd.Q_drewN | apply Kd.Q_drew)); exact HO_369002.out))) (below_size (by repeat (first | (with_reducible first | exact HB.out | apply below_alloc | apply pw_below_drewN | apply below_drew1 | refine below_set ?_ GE348.out | refine below_set ?_ GE358.out | refine below_set ?_ GE368.out) | exact HB.out)))); have n8_ := Aside0.mk (blk_below (g := gb348) (o := .cells #[.slice Ao10 t338.length co10, .int .i64 t341, .slice Ao12 t342.length co12] 26 (0, 0)) (by (with_reducible repeat (first | refine blk_drewN ?_ _ | refine blk_drew ?_ | refine blk_alloc ?_ _)); exact BK348.out) hb); have n9_ := Aside0.mk (blk_below (g := gb358) (o := .cells #[.slice Ao15 t349.length co15, .int .i64 t352, .slice Ao18 t353.length co18] 26 (0, 0)) (by (with_reducible repeat (first | refine blk_drewN ?_ _ | refine blk_drew ?_ | refine blk_alloc ?_ _)); exact BK358.out) hb); have n10_ := Aside0.mk (blk_below (g := gb368) (o := .cells #[.slice Ao22 t359.length co22, .int .i64 t362, .slice Ao26 t363.length co26] 26 (0, 0)) (by (with_reducible repeat (first | refine blk_drewN ?_ _ | refine blk_drew ?_ | refine blk_alloc ?_ _)); exact BK368.out) hb); have n11_ := Aside0.mk (below_step (by repeat (first | (with_reducible first | exact HB.out | apply below_alloc | apply pw_below_drewN | apply below_drew1 | refine below_set ?_ GE348.out | refine below_set ?_ GE358.out | refine below_set ?_ GE368.out) | exact HB.out)) hb); clear HO_349000; clear HO_349002; clear HO_359000; clear HO_359002; clear HO_369000; clear HO_369002; clear BK348; clear BK358; clear BK368; clear HB; have HO_349000 := n0_; have HO_349002 := n1_; have HO_359000 := n2_; have HO_359002 := n3_; have HO_369000 := n4_; have HO_369002 := n5_; have HO376 := n6_; have HO380 := n7_; have BK348 := n8_; have BK358 := n9_; have BK368 := n10_; have HB := n11_; clear n0_ n1_ n2_ n3_ n4_ n5_ n6_ n7_ n8_ n9_ n10_ n11_; (try clear hb); (try clear hb2); (try clear hk); (try clear hi); (try clear ho0); (try clear ho1)) | ((with_reducible refine gate_dst (N := 13) rfl ?_); (try (refine gate_guard (by rfl) ?_; dsimp only)); refine box_event ?hg (N := 13) ?hd (cs := #[.slice none 0 0, .int .i64 0, .slice none 0 0]) (t := 26) ?hr ?_; (case hd => rfl); (case hg => rfl); (case hr => first | (go_simp; done) | (go_simp; rfl)); intro gb383 hg w62 hbox hb; have n0_ := Aside0.mk (Kd.Q_below (by (with_reducible repeat (first | apply Kd.Q_alloc | apply Kd.Q_drewN | apply Kd.Q_drew)); exact HO_349000.out) hb); have n1_ := Aside0.mk (Kd.Q_below (by (with_reducible repeat (first | apply Kd.Q_alloc | apply Kd.Q_drewN | apply Kd.Q_drew)); exact HO_349002.out) hb); have n2_ := Aside0.mk (Kd.R_below (by (with_reducible repeat (first | apply Kd.R_alloc | apply Kd.R_drewN | apply Kd.R_drew)); exact HO_359000.out) hb); have n3_ := Aside0.mk (Kd.R_below (by (with_reducible repeat (first | apply Kd.R_alloc | apply Kd.R_drewN | apply Kd.R_drew)); exact HO_359002.out) hb); have n4_ := Aside0.mk (Kd.R_below (by (with_reducible repeat (first | apply Kd.R_alloc | apply Kd.R_drewN | apply Kd.R_drew)); exact HO_369000.out) hb); have n5_ := Aside0.mk (Kd.Q_below (by (with_reducible repeat (first | apply Kd.Q_alloc | apply Kd.Q_drewN | apply Kd.Q_drew)); exact HO_369002.out) hb); have n6_ := Aside0.mk (Kd.R_below (by (with_reducible repeat (first | apply Kd.R_alloc | apply Kd.R_drewN | apply Kd.R_drew)); exact HO376.out) hb); have n7_ := Aside0.mk (Kd.R_below (by (with_reducible repeat (first | apply Kd.R_alloc | apply Kd.R_drewN | apply Kd.R_drew)); exact HO380.out) hb); have n8_ := Aside0.mk (blk_below (g := gb348) (o := .cells #[.slice Ao10 t338.length co10, .int .i64 t341, .slice Ao12 t342.length co12] 26 (0, 0)) (by (with_reducible repeat (first | refine blk_drewN ?_ _ | refine blk_drew ?_ | refine blk_alloc ?_ _)); exact BK348.out) hb); have n9_ := Aside0.mk (blk_below (g := gb358) (o := .cells #[.slice Ao15 t349.length co15, .int .i64 t352, .slice Ao18 t353.length co18] 26 (0, 0)) (by (with_reducible repeat (first | refine blk_drewN ?_ _ | refine blk_drew ?_ | refine blk_alloc ?_ _)); exact BK358.out) hb); have n10_ := Aside0.mk (blk_below (g := gb368) (o := .cells #[.slice Ao22 t359.length co22, .int .i64 t362, .slice Ao26 t363.length co26] 26 (0, 0)) (by (with_reducible repeat (first | refine blk_drewN ?_ _ | refine blk_drew ?_ | refine blk_alloc ?_ _)); exact BK368.out) hb); have n11_ := Aside0.mk (below_step (by repeat (first | (with_reducible first | exact HB.out | apply below_alloc | apply pw_below_drewN | apply below_drew1 | refine below_set ?_ GE348.out | refine below_set ?_ GE358.out | refine below_set ?_ GE368.out) | exact HB.out)) hb); have n12_ := Aside0.mk (hbox); have n13_ := Aside0.mk ((by rw [hg]; exact (below_size (by repeat (first | (with_reducible first | exact HB.out | apply below_alloc | apply pw_below_drewN | apply below_drew1 | refine below_set ?_ GE348.out | refine below_set ?_ GE358.out | refine below_set ?_ GE368.out) | exact HB.out))) : w.heap.size ≤ gb383)); have n14_ := Aside0.mk ((by rw [hg]; exact (below_size (by repeat (first | (with_reducible first | exact HB.out | apply below_alloc | apply pw_below_drewN | apply below_drew1 | refine below_set ?_ GE348.out | refine below_set ?_ GE358.out | refine below_set ?_ GE368.out) | exact HB.out))) : w.heap.size ≤ gb383)); have n15_ := Aside0.mk ((by rw [hg]; exact Nat.ne_of_lt (blk_lt (g := gb348) (o := .cells #[.slice Ao10 t338.length co10, .int .i64 t341, .slice Ao12 t342.length co12] 26 (0, 0)) (by (with_reducible repeat (first | refine blk_drewN ?_ _ | refine blk_drew ?_ | refine blk_alloc ?_ _)); exact BK348.out)) : gb348 ≠ gb383)); have n16_ := Aside0.mk ((by rw [hg]; exact Nat.ne_of_gt (blk_lt (g := gb348) (o := .cells #[.slice Ao10 t338.length co10, .int .i64 t341, .slice Ao12 t342.length co12] 26 (0, 0)) (by (with_reducible repeat (first | refine blk_drewN ?_ _ | refine blk_drew ?_ | refine blk_alloc ?_ _)); exact BK348.out)) : gb383 ≠ gb348)); have n17_ := Aside0.mk ((by rw [hg]; exact Nat.ne_of_lt (blk_lt (g := gb358) (o := .cells #[.slice Ao15 t349.length co15, .int .i64 t352, .slice Ao18 t353.length co18] 26 (0, 0)) (by (with_reducible repeat (first | refine blk_drewN ?_ _ | refine blk_drew ?_ | refine blk_alloc ?_ _)); exact BK358.out)) : gb358 ≠ gb383)); have n18_ := Aside0.mk ((by rw [hg]; exact Nat.ne_of_gt (blk_lt (g := gb358) (o := .cells #[.slice Ao15 t349.length co15, .int .i64 t352, .slice Ao18 t353.length co18] 26 (0, 0)) (by (with_reducible repeat (first | refine blk_drewN ?_ _ | refine blk_drew ?_ | refine blk_alloc ?_ _)); exact BK358.out)) : gb383 ≠ gb358)); have n19_ := Aside0.mk ((by rw [hg]; exact Nat.ne_of_lt (blk_lt (g := gb368) (o := .cells #[.slice Ao22 t359.length co22, .int .i64 t362, .slice Ao26 t363.length co26] 26 (0, 0)) (by (with_reducible repeat (first | refine blk_drewN ?_ _ | refine blk_drew ?_ | refine blk_alloc ?_ _)); exact BK368.out)) : gb368 ≠ gb383)); have n20_ := Aside0.mk ((by rw [hg]; exact Nat.ne_of_gt (blk_lt (g := gb368) (o := .cells #[.slice Ao22 t359.length co22, .int .i64 t362, .slice Ao26 t363.length co26] 26 (0, 0)) (by (with_reducible repeat (first | refine blk_drewN ?_ _ | refine blk_drew ?_ | refine blk_alloc ?_ _)); exact BK368.out)) : gb383 ≠ gb368)); clear HO_349000; clear HO_349002; clear HO_359000; clear HO_359002; clear HO_369000; clear HO_369002; clear HO376; clear HO380; clear BK348; clear BK358; clear BK368; clear HB; have HO_349000 := n0_; have HO_349002 := n1_; have HO_359000 := n2_; have HO_359002 := n3_; have HO_369000 := n4_; have HO_369002 := n5_; have HO376 := n6_; have HO380 := n7_; have BK348 := n8_; have BK358 := n9_; have BK368 := n10_; have HB := n11_; have BK383 := n12_; have GW383 := n13_; have GE383 := n14_; have NB348_383 := n15_; have NB383_348 := n16_; have NB358_383 := n17_; have NB383_358 := n18_; have NB368_383 := n19_; have NB383_368 := n20_; clear n0_ n1_ n2_ n3_ n4_ n5_ n6_ n7_ n8_ n9_ n10_ n11_ n12_ n13_ n14_ n15_ n16_ n17_ n18_ n19_ n20_; clear hb hbox hg; obtain ⟨Ao63, co63, eo63⟩ := Kd.R_slice HO376.out; subst eo63; have hnb64 := NB383_348.out; have hnc64 := NB348_383.out; have hnb65 := NB383_358.out; have hnc65 := NB358_383.out; have hnb66 := NB383_368.out; have hnc66 := NB368_383.out; have hcz67_0 : w62.cell? ⟨gb383, 0, none⟩ = some (.slice none 0 0) := (blk_cell BK383.out 0).trans rfl; have hcz67_1 : w62.cell? ⟨gb383, 1, none⟩ = some (.int .i64 0) := (blk_cell BK383.out 1).trans rfl; have hcz67_2 : w62.cell? ⟨gb383, 2, none⟩ = some (.slice none 0 0) := (blk_cell BK383.out 2).trans rfl; have hfz67_0 := blk_frozen BK383.out 0; have hfz67_1 := blk_frozen BK383.out 1; have hfz67_2 := blk_frozen BK383.out 2; obtain ⟨Ao68, co68, eo68⟩ := Kd.R_slice HO380.out; subst eo68))
                          go_ret
                          exact ⟨by first | rfl | (simp [errW_none, errW_some] <;> rfl) | (simp [*, errW_none, errW_some] <;> rfl), by repeat (first | (with_reducible first | exact HB.out | apply below_alloc | apply pw_below_drewN | apply below_drew1 | refine below_set ?_ GE348.out | refine below_set ?_ GE358.out | refine below_set ?_ GE368.out | refine below_set ?_ GE383.out) | exact HB.out)⟩
                        · replace c57 := Bool.eq_false_iff.mpr c57
                          subst c57
                          have H1 : (some false) = some true := by rw [if_neg (show ¬ (false = true) by decide)] at H; exact H
                          clear H
                          have H := H1
                          clear H1
                          exact absurd (Option.some.inj H) (by decide)
                      · replace c55 := Bool.eq_false_iff.mpr c55
                        subst c55
                        have H1 : (if t346 = 20 then (if t345 = true then (if (t353.length : Int) = (wrap64 ((t342.length : Int) + 1)) then (if 0 ≤ (t342.length : Int) then (if (t342.length : Int) < (t353.length : Int) then (if (rd t353 (t342.length : Int)) = t347 then (some true) else (some false)) else (none)) else (none)) else (some false)) else (if (t353.length : Int) = (wrap64 ((t342.length : Int) - 1)) then (if 0 < (t342.length : Int) then (some (t356 == (rd t342 0))) else (none)) else (some false))) else (some true)) = some true := by rw [if_neg (show ¬ (false = true) by decide)] at H; exact H
                        clear H
                        have H := H1
                        clear H1
                        by_cases c69 : t346 = 20
                        · rw [if_pos c69] at H
                          have c69b0 : (t346 == 20) = true := beq_iff_eq.mpr c69
                          have c69b1 : (t346 != 20) = false := bne_eq_false_iff_eq.mpr c69
                          clear c69
                          by_cases c70 : t345 = true
                          · subst c70
                            have H1 : (if (t353.length : Int) = (wrap64 ((t342.length : Int) + 1)) then (if 0 ≤ (t342.length : Int) then (if (t342.length : Int) < (t353.length : Int) then (if (rd t353 (t342.length : Int)) = t347 then (some true) else (some false)) else (none)) else (none)) else (some false)) = some true := by rw [if_pos rfl] at H; exact H
                            clear H
                            have H := H1
                            clear H1
                            by_cases c71 : (t353.length : Int) = (wrap64 ((t342.length : Int) + 1))
                            · rw [if_pos c71] at H
                              have c71b0 : ((t353.length : Int) == (wrap64 ((t342.length : Int) + 1))) = true := beq_iff_eq.mpr c71
                              have c71b1 : ((t353.length : Int) != (wrap64 ((t342.length : Int) + 1))) = false := bne_eq_false_iff_eq.mpr c71
                              clear c71
                              by_cases c72 : 0 ≤ (t342.length : Int)
                              · rw [if_pos c72] at H
                                have c72b0 : decide (0 ≤ (t342.length : Int)) = true := decide_eq_true c72
                                have c72b1 : decide (0 ≤ t342.length) = true := decide_eq_true (by omega)
                                clear c72
                                by_cases c73 : (t342.length : Int) < (t353.length : Int)
                                · rw [if_pos c73] at H
                                  have c73b0 : decide ((t342.length : Int) < (t353.length : Int)) = true := decide_eq_true c73
                                  have c73b1 : decide (t342.length < t353.length) = true := decide_eq_true (Int.ofNat_lt.mp c73)
                                  clear c73
                                  by_cases c74 : (rd t353 (t342.length : Int)) = t347
                                  · rw [if_pos c74] at H
                                    have c74b0 : ((rd t353 (t342.length : Int)) == t347) = true := beq_iff_eq.mpr c74
                                    have c74b1 : ((rd t353 (t342.length : Int)) != t347) = false := bne_eq_false_iff_eq.mpr c74
                                    clear c74
                                    clear H
                                    have hnb75 := NB358_348.out
                                    have hnc75 := NB348_358.out
                                    have hnb76 := NB358_368.out
                                    have hnc76 := NB368_358.out
                                    have hcz77_0 : wc.cell? ⟨gb358, 0, none⟩ = some (.slice Ao15 t349.length co15) := (blk_cell BK358.out 0).trans rfl
                                    have hcz77_1 : wc.cell? ⟨gb358, 1, none⟩ = some (.int .i64 t352) := (blk_cell BK358.out 1).trans rfl
                                    have hcz77_2 : wc.cell? ⟨gb358, 2, none⟩ = some (.slice Ao18 t353.length co18) := (blk_cell BK358.out 2).trans rfl
                                    have hfz77_0 := blk_frozen BK358.out 0
                                    have hfz77_1 := blk_frozen BK358.out 1
                                    have hfz77_2 := blk_frozen BK358.out 2
                                    have hnb78 := NB348_368.out
                                    have hnc78 := NB368_348.out
                                    have hcz79_0 : wc.cell? ⟨gb348, 0, none⟩ = some (.slice Ao10 t338.length co10) := (blk_cell BK348.out 0).trans rfl
                                    have hcz79_1 : wc.cell? ⟨gb348, 1, none⟩ = some (.int .i64 t341) := (blk_cell BK348.out 1).trans rfl
                                    have hcz79_2 : wc.cell? ⟨gb348, 2, none⟩ = some (.slice Ao12 t342.length co12) := (blk_cell BK348.out 2).trans rfl
                                    have hfz79_0 := blk_frozen BK348.out 0
                                    have hfz79_1 := blk_frozen BK348.out 1
                                    have hfz79_2 := blk_frozen BK348.out 2
                                    have p384 : 0 ≤ ((t342.length : Int) : Int) := of_decide_eq_true (by first | (with_reducible assumption) | assumption)
                                    have q384 : (t342.length : Int) < (t353.length : Int) := of_decide_eq_true (by first | (with_reducible assumption) | assumption)
                                    obtain ⟨ad384, e384, hx384_0⟩ := Kd.at_int (Kd.R_reads' HO_359002.out).2.2 (t342.length : Int) p384 q384
                                    cases e384
                                    (try simp only [Go.IntWalk.toNatUp] at hx384_0)
                                    replace p384 := eq_true p384
                                    replace q384 := eq_true q384
                                    go_wp2
                                    go_ret
                                    exact ⟨by first | rfl | (simp [errW_none, errW_some] <;> rfl) | (simp [*, errW_none, errW_some] <;> rfl), by repeat (first | (with_reducible first | exact HB.out | apply below_alloc | apply pw_below_drewN | apply below_drew1 | refine below_set ?_ GE348.out | refine below_set ?_ GE358.out | refine below_set ?_ GE368.out) | exact HB.out)⟩
                                  · rw [if_neg c74] at H
                                    have c74b0 : ((rd t353 (t342.length : Int)) == t347) = false := beq_eq_false_iff_ne.mpr c74
                                    have c74b1 : ((rd t353 (t342.length : Int)) != t347) = true := bne_iff_ne.mpr c74
                                    exact absurd (Option.some.inj H) (by decide)
                                · rw [if_neg c73] at H
                                  exact absurd H (by simp)
                              · rw [if_neg c72] at H
                                exact absurd H (by simp)
                            · rw [if_neg c71] at H
                              have c71b0 : ((t353.length : Int) == (wrap64 ((t342.length : Int) + 1))) = false := beq_eq_false_iff_ne.mpr c71
                              have c71b1 : ((t353.length : Int) != (wrap64 ((t342.length : Int) + 1))) = true := bne_iff_ne.mpr c71
                              exact absurd (Option.some.inj H) (by decide)
                          · replace c70 := Bool.eq_false_iff.mpr c70
                            subst c70
                            have H1 : (if (t353.length : Int) = (wrap64 ((t342.length : Int) - 1)) then (if 0 < (t342.length : Int) then (some (t356 == (rd t342 0))) else (none)) else (some false)) = some true := by rw [if_neg (show ¬ (false = true) by decide)] at H; exact H
                            clear H
                            have H := H1
                            clear H1
                            by_cases c80 : (t353.length : Int) = (wrap64 ((t342.length : Int) - 1))
                            · rw [if_pos c80] at H
                              have c80b0 : ((t353.length : Int) == (wrap64 ((t342.length : Int) - 1))) = true := beq_iff_eq.mpr c80
                              have c80b1 : ((t353.length : Int) != (wrap64 ((t342.length : Int) - 1))) = false := bne_eq_false_iff_eq.mpr c80
                              clear c80
                              by_cases c81 : 0 < (t342.length : Int)
                              · rw [if_pos c81] at H
                                have c81b0 : decide (0 < (t342.length : Int)) = true := decide_eq_true c81
                                have c81b1 : decide (0 < t342.length) = true := decide_eq_true (by omega)
                                clear c81
                                have HV := Option.some.inj H
                                clear H
                                have hnb82 := NB358_348.out
                                have hnc82 := NB348_358.out
                                have hnb83 := NB358_368.out
                                have hnc83 := NB368_358.out
                                have hcz84_0 : wc.cell? ⟨gb358, 0, none⟩ = some (.slice Ao15 t349.length co15) := (blk_cell BK358.out 0).trans rfl
                                have hcz84_1 : wc.cell? ⟨gb358, 1, none⟩ = some (.int .i64 t352) := (blk_cell BK358.out 1).trans rfl
                                have hcz84_2 : wc.cell? ⟨gb358, 2, none⟩ = some (.slice Ao18 t353.length co18) := (blk_cell BK358.out 2).trans rfl
                                have hfz84_0 := blk_frozen BK358.out 0
                                have hfz84_1 := blk_frozen BK358.out 1
                                have hfz84_2 := blk_frozen BK358.out 2
                                have hnb85 := NB348_368.out
                                have hnc85 := NB368_348.out
                                have hcz86_0 : wc.cell? ⟨gb348, 0, none⟩ = some (.slice Ao10 t338.length co10) := (blk_cell BK348.out 0).trans rfl
                                have hcz86_1 : wc.cell? ⟨gb348, 1, none⟩ = some (.int .i64 t341) := (blk_cell BK348.out 1).trans rfl
                                have hcz86_2 : wc.cell? ⟨gb348, 2, none⟩ = some (.slice Ao12 t342.length co12) := (blk_cell BK348.out 2).trans rfl
                                have hfz86_0 := blk_frozen BK348.out 0
                                have hfz86_1 := blk_frozen BK348.out 1
                                have hfz86_2 := blk_frozen BK348.out 2
                                have p385 : 0 ≤ (0 : Int) := (by omega)
                                have q385 : 0 < (t342.length : Int) := of_decide_eq_true (by first | (with_reducible assumption) | assumption)
                                obtain ⟨ad385, e385, hx385_0⟩ := Kd.at_int (Kd.Q_reads' HO_349002.out).2.2 0 p385 q385
                                cases e385
                                have qi385 : (0 < t342.length) = True := eq_true (by omega)
                                (try rw [show ((0 : Int)).toNat = 0 from rfl] at hx385_0)
                                (try rw [Addr.add_zero'] at hx385_0)
                                replace p385 := eq_true p385
                                replace q385 := eq_true q385
                                go_wp2
                                go_ret
                                exact ⟨by first | rfl | (simp [errW_none, errW_some] <;> rfl) | (simp [*, errW_none, errW_some] <;> rfl), by repeat (first | (with_reducible first | exact HB.out | apply below_alloc | apply pw_below_drewN | apply below_drew1 | refine below_set ?_ GE348.out | refine below_set ?_ GE358.out | refine below_set ?_ GE368.out) | exact HB.out)⟩
                              · rw [if_neg c81] at H
                                exact absurd H (by simp)
                            · rw [if_neg c80] at H
                              have c80b0 : ((t353.length : Int) == (wrap64 ((t342.length : Int) - 1))) = false := beq_eq_false_iff_ne.mpr c80
                              have c80b1 : ((t353.length : Int) != (wrap64 ((t342.length : Int) - 1))) = true := bne_iff_ne.mpr c80
                              exact absurd (Option.some.inj H) (by decide)
                        · rw [if_neg c69] at H
                          have c69b0 : (t346 == 20) = false := beq_eq_false_iff_ne.mpr c69
                          have c69b1 : (t346 != 20) = true := bne_iff_ne.mpr c69
                          clear H
                          go_wp2
                          go_ret
                          exact ⟨by first | rfl | (simp [errW_none, errW_some] <;> rfl) | (simp [*, errW_none, errW_some] <;> rfl), by repeat (first | (with_reducible first | exact HB.out | apply below_alloc | apply pw_below_drewN | apply below_drew1 | refine below_set ?_ GE348.out | refine below_set ?_ GE358.out | refine below_set ?_ GE368.out) | exact HB.out)⟩
          · replace c39 := Bool.eq_false_iff.mpr c39
            subst c39
            have H1 : (if t356 = 0 then ((spec_SameDev.f kj6 t349 t352 t353 t338 t341 t342).bind fun t372 => (some t372)) else (some false)) = some true := by rw [if_neg (show ¬ (false = true) by decide)] at H; exact H
            clear H
            have H := H1
            clear H1
            by_cases c87 : t356 = 0
            · rw [if_pos c87] at H
              have c87b0 : (t356 == 0) = true := beq_iff_eq.mpr c87
              have c87b1 : (t356 != 0) = false := bne_eq_false_iff_eq.mpr c87
              clear c87
              replace H := Option.bind_eq_some_iff.mp H
              obtain ⟨t372, A880, H⟩ := H
              replace H : (some t372) = some true := H
              have A88 := Aside0.mk A880
              clear A880
              have HV := Option.some.inj H
              clear H
              have hnb89 := NB358_348.out
              have hnc89 := NB348_358.out
              have hnb90 := NB358_368.out
              have hnc90 := NB368_358.out
              have hcz91_0 : wc.cell? ⟨gb358, 0, none⟩ = some (.slice Ao15 t349.length co15) := (blk_cell BK358.out 0).trans rfl
              have hcz91_1 : wc.cell? ⟨gb358, 1, none⟩ = some (.int .i64 t352) := (blk_cell BK358.out 1).trans rfl
              have hcz91_2 : wc.cell? ⟨gb358, 2, none⟩ = some (.slice Ao18 t353.length co18) := (blk_cell BK358.out 2).trans rfl
              have hfz91_0 := blk_frozen BK358.out 0
              have hfz91_1 := blk_frozen BK358.out 1
              have hfz91_2 := blk_frozen BK358.out 2
              have hnb92 := NB348_368.out
              have hnc92 := NB368_348.out
              have hcz93_0 : wc.cell? ⟨gb348, 0, none⟩ = some (.slice Ao10 t338.length co10) := (blk_cell BK348.out 0).trans rfl
              have hcz93_1 : wc.cell? ⟨gb348, 1, none⟩ = some (.int .i64 t341) := (blk_cell BK348.out 1).trans rfl
              have hcz93_2 : wc.cell? ⟨gb348, 2, none⟩ = some (.slice Ao12 t342.length co12) := (blk_cell BK348.out 2).trans rfl
              have hfz93_0 := blk_frozen BK348.out 0
              have hfz93_1 := blk_frozen BK348.out 1
              have hfz93_2 := blk_frozen BK348.out 2
              go_wp2_with (first | (go_at_call 31; (with_reducible refine (spec_SameDev.calls kj6 _ _ t349 t352 _ _ t353 _ _ t338 t341 _ _ t342 t372 _ ?side1 ?side2 ?side3 ?side4 ?side5 ?side6 ?side7 ?side8 A88.out).mono ?_); (case side1 => repeat (first | exact (Kd.R_reads' HO_359000.out).2.2 | (with_reducible refine Kd.C_alloc ?_ _) | (with_reducible refine Kd.C_drewN ?_ _) | (with_reducible refine Kd.C_drew ?_))); (case side2 => exact (Kd.R_reads' HO_359000.out).2.1); (case side3 => repeat (first | exact (Kd.R_reads' HO_359002.out).2.2 | (with_reducible refine Kd.C_alloc ?_ _) | (with_reducible refine Kd.C_drewN ?_ _) | (with_reducible refine Kd.C_drew ?_))); (case side4 => exact (Kd.R_reads' HO_359002.out).2.1); (case side5 => repeat (first | exact (Kd.Q_reads' HO_349000.out).2.2 | (with_reducible refine Kd.C_alloc ?_ _) | (with_reducible refine Kd.C_drewN ?_ _) | (with_reducible refine Kd.C_drew ?_))); (case side6 => exact (Kd.Q_reads' HO_349000.out).2.1); (case side7 => repeat (first | exact (Kd.Q_reads' HO_349002.out).2.2 | (with_reducible refine Kd.C_alloc ?_ _) | (with_reducible refine Kd.C_drewN ?_ _) | (with_reducible refine Kd.C_drew ?_))); (case side8 => exact (Kd.Q_reads' HO_349002.out).2.1); rintro e w94 ⟨rfl, hb⟩; have n0_ := Aside0.mk (Kd.Q_below (by (with_reducible repeat (first | apply Kd.Q_alloc | apply Kd.Q_drewN | apply Kd.Q_drew)); exact HO_349000.out) hb); have n1_ := Aside0.mk (Kd.Q_below (by (with_reducible repeat (first | apply Kd.Q_alloc | apply Kd.Q_drewN | apply Kd.Q_drew)); exact HO_349002.out) hb); have n2_ := Aside0.mk (Kd.R_below (by (with_reducible repeat (first | apply Kd.R_alloc | apply Kd.R_drewN | apply Kd.R_drew)); exact HO_359000.out) hb); have n3_ := Aside0.mk (Kd.R_below (by (with_reducible repeat (first | apply Kd.R_alloc | apply Kd.R_drewN | apply Kd.R_drew)); exact HO_359002.out) hb); have n4_ := Aside0.mk (Kd.R_below (by (with_reducible repeat (first | apply Kd.R_alloc | apply Kd.R_drewN | apply Kd.R_drew)); exact HO_369000.out) hb); have n5_ := Aside0.mk (Kd.Q_below (by (with_reducible repeat (first | apply Kd.Q_alloc | apply Kd.Q_drewN | apply Kd.Q_drew)); exact HO_369002.out) hb); have n6_ := Aside0.mk (blk_below (g := gb348) (o := .cells #[.slice Ao10 t338.length co10, .int .i64 t341, .slice Ao12 t342.length co12] 26 (0, 0)) (by (with_reducible repeat (first | refine blk_drewN ?_ _ | refine blk_drew ?_ | refine blk_alloc ?_ _)); exact BK348.out) hb); have n7_ := Aside0.mk (blk_below (g := gb358) (o := .cells #[.slice Ao15 t349.length co15, .int .i64 t352, .slice Ao18 t353.length co18] 26 (0, 0)) (by (with_reducible repeat (first | refine blk_drewN ?_ _ | refine blk_drew ?_ | refine blk_alloc ?_ _)); exact BK358.out) hb); have n8_ := Aside0.mk (blk_below (g := gb368) (o := .cells #[.slice Ao22 t359.length co22, .int .i64 t362, .slice Ao26 t363.length co26] 26 (0, 0)) (by (with_reducible repeat (first | refine blk_drewN ?_ _ | refine blk_drew ?_ | refine blk_alloc ?_ _)); exact BK368.out) hb); have n9_ := Aside0.mk (below_step (by repeat (first | (with_reducible first | exact HB.out | apply below_alloc | apply pw_below_drewN | apply below_drew1 | refine below_set ?_ GE348.out | refine below_set ?_ GE358.out | refine below_set ?_ GE368.out) | exact HB.out)) hb); clear HO_349000; clear HO_349002; clear HO_359000; clear HO_359002; clear HO_369000; clear HO_369002; clear BK348; clear BK358; clear BK368; clear HB; have HO_349000 := n0_; have HO_349002 := n1_; have HO_359000 := n2_; have HO_359002 := n3_; have HO_369000 := n4_; have HO_369002 := n5_; have BK348 := n6_; have BK358 := n7_; have BK368 := n8_; have HB := n9_; clear n0_ n1_ n2_ n3_ n4_ n5_ n6_ n7_ n8_ n9_; (try clear hb); (try clear hb2); (try clear hk); (try clear hi)))
              go_ret
              exact ⟨by first | rfl | (simp [errW_none, errW_some] <;> rfl) | (simp [*, errW_none, errW_some] <;> rfl), by repeat (first | (with_reducible first | exact HB.out | apply below_alloc | apply pw_below_drewN | apply below_drew1 | refine below_set ?_ GE348.out | refine below_set ?_ GE358.out | refine below_set ?_ GE368.out) | exact HB.out)⟩
            · rw [if_neg c87] at H
              have c87b0 : (t356 == 0) = false := beq_eq_false_iff_ne.mpr c87
              have c87b1 : (t356 != 0) = true := bne_iff_ne.mpr c87
              exact absurd (Option.some.inj H) (by decide)

/-- THE ONE PURE STATEMENT of laws_FnDevices: yours. -/
def laws_FnDevices.Pure : Prop := ∀ (l0 : List Int), l0.length ≤ maxLen → l0.length * 1 ≤ 140737488351232 → (∀ x ∈ l0, (Lit.int .u8 x).wf = true) → ∃ k, laws_FnDevices.f k l0 = some true
theorem laws_FnDevices.walk (P : laws_FnDevices.Pure) (a0 : Option Addr) (len0 cap0 : Nat) (z0 : List Int) (w : World) (w0 : (a0 = none ∧ len0 = 0 ∧ cap0 = 0 ∧ z0 = []) ∨ ∃ x, a0 = some x ∧ len0 ≤ cap0 ∧ cap0 ≤ maxLen ∧ z0.length = cap0 ∧ (∀ i, i < z0.length → w.cell? (x.add i) = some (.int .u8 (z0.getD i 0))) ∧ ∀ n ∈ z0, (Lit.int .u8 n).wf = true) (y0 : len0 * 1 ≤ 140737488351232) :
    Calls Try.prog 11 #[.slice a0 len0 cap0] w fun e w' => e = .returned (.bool true) ∧ Below w.heap.size w w' := by
  obtain ⟨l0, rfl, hr0, hm0, hw0, hc0⟩ := ReadsInt.ofRowC w0
  obtain ⟨k, h⟩ := P l0 hm0 y0 hw0
  refine (laws_FnDevices.calls k _ _ l0 w (Kd.C_of_reads (d := (0 : Int)) (h1 := fun _ => rfl) hr0) hc0 h).mono ?_
  rintro e w' ⟨rfl, hd⟩
  exact ⟨rfl, hd⟩

end Go.Proofs.Ythikbgjlcdkoaaa.MFnDevices
