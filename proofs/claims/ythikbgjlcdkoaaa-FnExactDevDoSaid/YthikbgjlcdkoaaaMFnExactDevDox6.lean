-- Written for this claim by a program of the session (wip/mk.py) over the kit's print.
import Derived.Test.YthikbgjlcdkoaaaMFnExactDevDox0
import Derived.Test.YthikbgjlcdkoaaaMFnExactDevDox1
import Derived.Test.YthikbgjlcdkoaaaMFnExactDevDox3
import Derived.Test.YthikbgjlcdkoaaaMFnExactDevDox5
namespace Go.Proofs.Ythikbgjlcdkoaaa.MFnExactDevDo
open Go.RowKit Go.Proofs.YthikbgjlcdkoaaaW.PrintWords Go.Proofs.YthikbgjlcdkoaaaW.PrintLast Go.Proofs.YthikbgjlcdkoaaaW.PrintMore
attribute [local go_sem] max2_int min2_int max_two min_two max_three min_three max_four min_four   -- for this text's walks alone
set_option linter.unusedVariables false
set_option linter.unusedSimpArgs false

/-! ### laws_FnExactDevDo: function 12 -/
mutual
def laws_FnExactDevDo.j0 : Nat → Bool → Int → Int → Int → Bool → Int → Bool → Bool → List Int → Int → List Int → List Int → Int → List Int → List Int → Int → List Int → List Int → Int → List Int → Option (Bool)
  | 0, _, _, _, _, _, _, _, _, _, _, _, _, _, _, _, _, _, _, _, _ => none
  | k + 1, x1, x2, x3, x11, x12, x15, x16, x62, x235000, x235001, x235002, x253000, x253001, x253002, x261000, x261001, x261002, x271000, x271001, x271002 => if x62 = true then (some false) else ((laws_toDev.f k x235000 x235001 x235002).bind fun bt272 => ((laws_eqDev.f k x261000 x261001 x261002 bt272.1 bt272.2.1 bt272.2.2).bind fun t279 => (if t279 = true then ((laws_markDev.f k x261000 x261001 x261002 1).bind fun bt280 => (if bt280.1 < 0 then (laws_FnExactDevDo.j1 k x1 x2 x3 x11 x12 true x235000 x235001 x235002 x253000 x253001 x253002 x271000 x271001 x271002) else ((laws_eqDev.f k x271000 x271001 x271002 x253000 x253001 x253002).bind fun t283 => (if t283 = true then (if x15 = x11 then (laws_FnExactDevDo.j1 k x1 x2 x3 x11 x12 (x16 != x12) x235000 x235001 x235002 x253000 x253001 x253002 x271000 x271001 x271002) else (laws_FnExactDevDo.j1 k x1 x2 x3 x11 x12 true x235000 x235001 x235002 x253000 x253001 x253002 x271000 x271001 x271002)) else (laws_FnExactDevDo.j1 k x1 x2 x3 x11 x12 true x235000 x235001 x235002 x253000 x253001 x253002 x271000 x271001 x271002))))) else (some false))))
def laws_FnExactDevDo.j1 : Nat → Bool → Int → Int → Int → Bool → Bool → List Int → Int → List Int → List Int → Int → List Int → List Int → Int → List Int → Option (Bool)
  | 0, _, _, _, _, _, _, _, _, _, _, _, _, _, _, _ => none
  | k + 1, x1, x2, x3, x11, x12, x88, x235000, x235001, x235002, x253000, x253001, x253002, x271000, x271001, x271002 => if x88 = true then (some false) else ((laws_markDev.f k x271000 x271001 x271002 1).bind fun bt284 => ((laws_heldDev.f k bt284.2.1 x271001 bt284.2.2 1).bind fun t287 => (if t287 < 0 then (some false) else (if t287 = bt284.1 then ((laws_toDev.f k x235000 x235001 x235002).bind fun bt288 => ((impl_DevDo.f k bt288.1 bt288.2.1 bt288.2.2 x1 x2 x3).bind fun bt295 => ((laws_eqDev.f k bt295.1 bt295.2.1 bt295.2.2.1 x253000 x253001 x253002).bind fun t305 => (if t305 = true then (if bt295.2.2.2.1 = x11 then (laws_FnExactDevDo.j2 k bt284.1 (bt295.2.2.2.2 != x12) bt284.2.1 x271001 bt284.2.2) else (laws_FnExactDevDo.j2 k bt284.1 true bt284.2.1 x271001 bt284.2.2)) else (laws_FnExactDevDo.j2 k bt284.1 true bt284.2.1 x271001 bt284.2.2))))) else (some false)))))
def laws_FnExactDevDo.j2 : Nat → Int → Bool → List Int → Int → List Int → Option (Bool)
  | 0, _, _, _, _, _ => none
  | k + 1, x18, x123, x271000, x271001, x271002 => if x123 = true then (some false) else ((laws_heldDev.f k x271000 x271001 x271002 1).bind fun t306 => (if t306 < 0 then (some false) else (if t306 = x18 then (some true) else (some false))))
end
def laws_FnExactDevDo.f (k : Nat) (l0_0 : List Int) (a0_1 : Int) (l0_2 : List Int) (a1 : Bool) (a2 : Int) (a3 : Int) : Option (Bool) := (laws_szDev.f l0_0 a0_1 l0_2 1048576).bind fun t235 => (if t235 < 0 then (some true) else ((laws_toDev.f k l0_0 a0_1 l0_2).bind fun bt236 => ((spec_DevDo.f k bt236.1 bt236.2.1 bt236.2.2 a1 a2 a3).bind fun bt243 => ((laws_toDev.f k l0_0 a0_1 l0_2).bind fun bt253 => ((impl_DevDo.f k bt253.1 bt253.2.1 bt253.2.2 a1 a2 a3).bind fun bt261 => ((laws_eqDev.f k bt261.1 bt261.2.1 bt261.2.2.1 bt243.1 bt243.2.1 bt243.2.2.1).bind fun t271 => (if t271 = true then (if bt261.2.2.2.1 = bt243.2.2.2.1 then (laws_FnExactDevDo.j0 k a1 a2 a3 bt243.2.2.2.1 bt243.2.2.2.2 bt261.2.2.2.1 bt261.2.2.2.2 (bt261.2.2.2.2 != bt243.2.2.2.2) l0_0 a0_1 l0_2 bt243.1 bt243.2.1 bt243.2.2.1 bt253.1 bt253.2.1 bt253.2.2 bt261.1 bt261.2.1 bt261.2.2.1) else (laws_FnExactDevDo.j0 k a1 a2 a3 bt243.2.2.2.1 bt243.2.2.2.2 bt261.2.2.2.1 bt261.2.2.2.2 true l0_0 a0_1 l0_2 bt243.1 bt243.2.1 bt243.2.2.1 bt253.1 bt253.2.1 bt253.2.2 bt261.1 bt261.2.1 bt261.2.2.1)) else (laws_FnExactDevDo.j0 k a1 a2 a3 bt243.2.2.2.1 bt243.2.2.2.2 bt261.2.2.2.1 bt261.2.2.2.2 true l0_0 a0_1 l0_2 bt243.1 bt243.2.1 bt243.2.2.1 bt253.1 bt253.2.1 bt253.2.2 bt261.1 bt261.2.1 bt261.2.2.1))))))))
theorem laws_FnExactDevDo.mono_l : ∀ k, (∀ y0 y1 y2 y3 y4 y5 y6 y7 y8 y9 y10 y11 y12 y13 y14 y15 y16 y17 y18 y19, LeO (laws_FnExactDevDo.j0 k y0 y1 y2 y3 y4 y5 y6 y7 y8 y9 y10 y11 y12 y13 y14 y15 y16 y17 y18 y19) (laws_FnExactDevDo.j0 (k + 1) y0 y1 y2 y3 y4 y5 y6 y7 y8 y9 y10 y11 y12 y13 y14 y15 y16 y17 y18 y19)) ∧ (∀ y0 y1 y2 y3 y4 y5 y6 y7 y8 y9 y10 y11 y12 y13 y14, LeO (laws_FnExactDevDo.j1 k y0 y1 y2 y3 y4 y5 y6 y7 y8 y9 y10 y11 y12 y13 y14) (laws_FnExactDevDo.j1 (k + 1) y0 y1 y2 y3 y4 y5 y6 y7 y8 y9 y10 y11 y12 y13 y14)) ∧ (∀ y0 y1 y2 y3 y4, LeO (laws_FnExactDevDo.j2 k y0 y1 y2 y3 y4) (laws_FnExactDevDo.j2 (k + 1) y0 y1 y2 y3 y4))
  | 0 => ⟨fun _ _ _ _ _ _ _ _ _ _ _ _ _ _ _ _ _ _ _ _ r h => by simp [laws_FnExactDevDo.j0] at h, fun _ _ _ _ _ _ _ _ _ _ _ _ _ _ _ r h => by simp [laws_FnExactDevDo.j1] at h, fun _ _ _ _ _ r h => by simp [laws_FnExactDevDo.j2] at h⟩
  | k + 1 => by
    obtain ⟨ih0, ih1, ih2⟩ := laws_FnExactDevDo.mono_l k
    refine ⟨?_, ?_, ?_⟩
    · intro y0 y1 y2 y3 y4 y5 y6 y7 y8 y9 y10 y11 y12 y13 y14 y15 y16 y17 y18 y19
      unfold laws_FnExactDevDo.j0
      repeat' first
      | (with_reducible exact ih0 _ _ _ _ _ _ _ _ _ _ _ _ _ _ _ _ _ _ _ _)
      | (with_reducible exact ih1 _ _ _ _ _ _ _ _ _ _ _ _ _ _ _)
      | (with_reducible exact ih2 _ _ _ _ _)
      | (with_reducible exact impl_DevDo.mono _ _ _ _ _ _ _)
      | (with_reducible exact laws_eqDev.mono _ _ _ _ _ _ _)
      | (with_reducible exact laws_heldDev.mono _ _ _ _ _)
      | (with_reducible exact laws_markDev.mono _ _ _ _ _)
      | (with_reducible exact laws_toDev.mono _ _ _ _)
      | (with_reducible exact spec_DevDo.mono _ _ _ _ _ _ _)
      | (with_reducible exact LeO.refl _)
      | (with_reducible exact LeO.none _)
      | (with_reducible refine LeO.ite ?_ ?_)
      | (with_reducible refine LeO.bind ?_ (fun _ => ?_))
      | exact ih0 _ _ _ _ _ _ _ _ _ _ _ _ _ _ _ _ _ _ _ _
      | exact ih1 _ _ _ _ _ _ _ _ _ _ _ _ _ _ _
      | exact ih2 _ _ _ _ _
      | exact impl_DevDo.mono _ _ _ _ _ _ _
      | exact laws_eqDev.mono _ _ _ _ _ _ _
      | exact laws_heldDev.mono _ _ _ _ _
      | exact laws_markDev.mono _ _ _ _ _
      | exact laws_toDev.mono _ _ _ _
      | exact spec_DevDo.mono _ _ _ _ _ _ _
      | exact LeO.none _
      | refine LeO.ite ?_ ?_
      | refine LeO.bind ?_ (fun _ => ?_)
    · intro y0 y1 y2 y3 y4 y5 y6 y7 y8 y9 y10 y11 y12 y13 y14
      unfold laws_FnExactDevDo.j1
      repeat' first
      | (with_reducible exact ih0 _ _ _ _ _ _ _ _ _ _ _ _ _ _ _ _ _ _ _ _)
      | (with_reducible exact ih1 _ _ _ _ _ _ _ _ _ _ _ _ _ _ _)
      | (with_reducible exact ih2 _ _ _ _ _)
      | (with_reducible exact impl_DevDo.mono _ _ _ _ _ _ _)
      | (with_reducible exact laws_eqDev.mono _ _ _ _ _ _ _)
      | (with_reducible exact laws_heldDev.mono _ _ _ _ _)
      | (with_reducible exact laws_markDev.mono _ _ _ _ _)
      | (with_reducible exact laws_toDev.mono _ _ _ _)
      | (with_reducible exact spec_DevDo.mono _ _ _ _ _ _ _)
      | (with_reducible exact LeO.refl _)
      | (with_reducible exact LeO.none _)
      | (with_reducible refine LeO.ite ?_ ?_)
      | (with_reducible refine LeO.bind ?_ (fun _ => ?_))
      | exact ih0 _ _ _ _ _ _ _ _ _ _ _ _ _ _ _ _ _ _ _ _
      | exact ih1 _ _ _ _ _ _ _ _ _ _ _ _ _ _ _
      | exact ih2 _ _ _ _ _
      | exact impl_DevDo.mono _ _ _ _ _ _ _
      | exact laws_eqDev.mono _ _ _ _ _ _ _
      | exact laws_heldDev.mono _ _ _ _ _
      | exact laws_markDev.mono _ _ _ _ _
      | exact laws_toDev.mono _ _ _ _
      | exact spec_DevDo.mono _ _ _ _ _ _ _
      | exact LeO.none _
      | refine LeO.ite ?_ ?_
      | refine LeO.bind ?_ (fun _ => ?_)
    · intro y0 y1 y2 y3 y4
      unfold laws_FnExactDevDo.j2
      repeat' first
      | (with_reducible exact ih0 _ _ _ _ _ _ _ _ _ _ _ _ _ _ _ _ _ _ _ _)
      | (with_reducible exact ih1 _ _ _ _ _ _ _ _ _ _ _ _ _ _ _)
      | (with_reducible exact ih2 _ _ _ _ _)
      | (with_reducible exact impl_DevDo.mono _ _ _ _ _ _ _)
      | (with_reducible exact laws_eqDev.mono _ _ _ _ _ _ _)
      | (with_reducible exact laws_heldDev.mono _ _ _ _ _)
      | (with_reducible exact laws_markDev.mono _ _ _ _ _)
      | (with_reducible exact laws_toDev.mono _ _ _ _)
      | (with_reducible exact spec_DevDo.mono _ _ _ _ _ _ _)
      | (with_reducible exact LeO.refl _)
      | (with_reducible exact LeO.none _)
      | (with_reducible refine LeO.ite ?_ ?_)
      | (with_reducible refine LeO.bind ?_ (fun _ => ?_))
      | exact ih0 _ _ _ _ _ _ _ _ _ _ _ _ _ _ _ _ _ _ _ _
      | exact ih1 _ _ _ _ _ _ _ _ _ _ _ _ _ _ _
      | exact ih2 _ _ _ _ _
      | exact impl_DevDo.mono _ _ _ _ _ _ _
      | exact laws_eqDev.mono _ _ _ _ _ _ _
      | exact laws_heldDev.mono _ _ _ _ _
      | exact laws_markDev.mono _ _ _ _ _
      | exact laws_toDev.mono _ _ _ _
      | exact spec_DevDo.mono _ _ _ _ _ _ _
      | exact LeO.none _
      | refine LeO.ite ?_ ?_
      | refine LeO.bind ?_ (fun _ => ?_)
theorem laws_FnExactDevDo.mono : ∀ a0 a1 a2 a3 a4 a5 k, LeO (laws_FnExactDevDo.f k a0 a1 a2 a3 a4 a5) (laws_FnExactDevDo.f (k + 1) a0 a1 a2 a3 a4 a5) := by
  intro a0 a1 a2 a3 a4 a5 k
  obtain ⟨ih0, ih1, ih2⟩ := laws_FnExactDevDo.mono_l k
  unfold laws_FnExactDevDo.f
  repeat' first
      | (with_reducible exact ih0 _ _ _ _ _ _ _ _ _ _ _ _ _ _ _ _ _ _ _ _)
      | (with_reducible exact ih1 _ _ _ _ _ _ _ _ _ _ _ _ _ _ _)
      | (with_reducible exact ih2 _ _ _ _ _)
      | (with_reducible exact impl_DevDo.mono _ _ _ _ _ _ _)
      | (with_reducible exact laws_eqDev.mono _ _ _ _ _ _ _)
      | (with_reducible exact laws_heldDev.mono _ _ _ _ _)
      | (with_reducible exact laws_markDev.mono _ _ _ _ _)
      | (with_reducible exact laws_toDev.mono _ _ _ _)
      | (with_reducible exact spec_DevDo.mono _ _ _ _ _ _ _)
      | (with_reducible exact LeO.refl _)
      | (with_reducible exact LeO.none _)
      | (with_reducible refine LeO.ite ?_ ?_)
      | (with_reducible refine LeO.bind ?_ (fun _ => ?_))
      | exact ih0 _ _ _ _ _ _ _ _ _ _ _ _ _ _ _ _ _ _ _ _
      | exact ih1 _ _ _ _ _ _ _ _ _ _ _ _ _ _ _
      | exact ih2 _ _ _ _ _
      | exact impl_DevDo.mono _ _ _ _ _ _ _
      | exact laws_eqDev.mono _ _ _ _ _ _ _
      | exact laws_heldDev.mono _ _ _ _ _
      | exact laws_markDev.mono _ _ _ _ _
      | exact laws_toDev.mono _ _ _ _
      | exact spec_DevDo.mono _ _ _ _ _ _ _
      | exact LeO.none _
      | refine LeO.ite ?_ ?_
      | refine LeO.bind ?_ (fun _ => ?_)
set_option maxHeartbeats 8000000 in
set_option maxRecDepth 100000 in
theorem laws_FnExactDevDo.calls (k : Nat) (A0_0 : Option Addr) (c0_0 : Nat) (l0_0 : List Int) (a0_1 : Int) (A0_2 : Option Addr) (c0_2 : Nat) (l0_2 : List Int) (a1 : Bool) (a2 : Int) (a3 : Int) (w : World) (hr0_0 : Kd.C (Kd.int .i64) w A0_0 l0_0.length l0_0) (hc0_0 : l0_0.length ≤ c0_0) (hr0_2 : Kd.C (Kd.int .i64) w A0_2 l0_2.length l0_2) (hc0_2 : l0_2.length ≤ c0_2) (h : laws_FnExactDevDo.f k l0_0 a0_1 l0_2 a1 a2 a3 = some true) :
    Calls Try.prog 12 #[.agg #[.slice A0_0 l0_0.length c0_0, .int .i64 a0_1, .slice A0_2 l0_2.length c0_2], .bool a1, .int .i64 a2, .int .i64 a3] w fun e w' => e = .returned (.bool true) ∧ Below w.heap.size w w' := by
  have hu36 := Try.underlying36
  have hu26 := Try.underlying26
  have HR0_0 := Aside0.mk hr0_0
  have HC0_0 := Aside0.mk hc0_0
  clear hr0_0 hc0_0
  have HR0_2 := Aside0.mk hr0_2
  have HC0_2 := Aside0.mk hc0_2
  clear hr0_2 hc0_2
  have HB := Aside0.mk (Below.refl w.heap.size w)
  have H : ((laws_szDev.f l0_0 a0_1 l0_2 1048576).bind fun t235 => (if t235 < 0 then (some true) else ((laws_toDev.f k l0_0 a0_1 l0_2).bind fun bt236 => ((spec_DevDo.f k bt236.1 bt236.2.1 bt236.2.2 a1 a2 a3).bind fun bt243 => ((laws_toDev.f k l0_0 a0_1 l0_2).bind fun bt253 => ((impl_DevDo.f k bt253.1 bt253.2.1 bt253.2.2 a1 a2 a3).bind fun bt261 => ((laws_eqDev.f k bt261.1 bt261.2.1 bt261.2.2.1 bt243.1 bt243.2.1 bt243.2.2.1).bind fun t271 => (if t271 = true then (if bt261.2.2.2.1 = bt243.2.2.2.1 then (laws_FnExactDevDo.j0 k a1 a2 a3 bt243.2.2.2.1 bt243.2.2.2.2 bt261.2.2.2.1 bt261.2.2.2.2 (bt261.2.2.2.2 != bt243.2.2.2.2) l0_0 a0_1 l0_2 bt243.1 bt243.2.1 bt243.2.2.1 bt253.1 bt253.2.1 bt253.2.2 bt261.1 bt261.2.1 bt261.2.2.1) else (laws_FnExactDevDo.j0 k a1 a2 a3 bt243.2.2.2.1 bt243.2.2.2.2 bt261.2.2.2.1 bt261.2.2.2.2 true l0_0 a0_1 l0_2 bt243.1 bt243.2.1 bt243.2.2.1 bt253.1 bt253.2.1 bt253.2.2 bt261.1 bt261.2.1 bt261.2.2.1)) else (laws_FnExactDevDo.j0 k a1 a2 a3 bt243.2.2.2.1 bt243.2.2.2.2 bt261.2.2.2.1 bt261.2.2.2.2 true l0_0 a0_1 l0_2 bt243.1 bt243.2.1 bt243.2.2.1 bt253.1 bt253.2.1 bt253.2.2 bt261.1 bt261.2.1 bt261.2.2.1))))))))) = some true := h
  clear h
  replace H := Option.bind_eq_some_iff.mp H
  obtain ⟨t235, A50, H⟩ := H
  replace H : (if t235 < 0 then (some true) else ((laws_toDev.f k l0_0 a0_1 l0_2).bind fun bt236 => ((spec_DevDo.f k bt236.1 bt236.2.1 bt236.2.2 a1 a2 a3).bind fun bt243 => ((laws_toDev.f k l0_0 a0_1 l0_2).bind fun bt253 => ((impl_DevDo.f k bt253.1 bt253.2.1 bt253.2.2 a1 a2 a3).bind fun bt261 => ((laws_eqDev.f k bt261.1 bt261.2.1 bt261.2.2.1 bt243.1 bt243.2.1 bt243.2.2.1).bind fun t271 => (if t271 = true then (if bt261.2.2.2.1 = bt243.2.2.2.1 then (laws_FnExactDevDo.j0 k a1 a2 a3 bt243.2.2.2.1 bt243.2.2.2.2 bt261.2.2.2.1 bt261.2.2.2.2 (bt261.2.2.2.2 != bt243.2.2.2.2) l0_0 a0_1 l0_2 bt243.1 bt243.2.1 bt243.2.2.1 bt253.1 bt253.2.1 bt253.2.2 bt261.1 bt261.2.1 bt261.2.2.1) else (laws_FnExactDevDo.j0 k a1 a2 a3 bt243.2.2.2.1 bt243.2.2.2.2 bt261.2.2.2.1 bt261.2.2.2.2 true l0_0 a0_1 l0_2 bt243.1 bt243.2.1 bt243.2.2.1 bt253.1 bt253.2.1 bt253.2.2 bt261.1 bt261.2.1 bt261.2.2.1)) else (laws_FnExactDevDo.j0 k a1 a2 a3 bt243.2.2.2.1 bt243.2.2.2.2 bt261.2.2.2.1 bt261.2.2.2.2 true l0_0 a0_1 l0_2 bt243.1 bt243.2.1 bt243.2.2.1 bt253.1 bt253.2.1 bt253.2.2 bt261.1 bt261.2.1 bt261.2.2.1)))))))) = some true := H
  have A5 := Aside0.mk A50
  clear A50
  by_cases c6 : t235 < 0
  · rw [if_pos c6] at H
    have c6b0 : decide (t235 < 0) = true := decide_eq_true c6
    clear c6
    clear H
    go_enter Try.func12, Try.ntmps12
    go_wp2_with (first | ((with_reducible refine gate_dst (N := 4) rfl ?_); refine box_event ?hg (N := 4) ?hd (cs := #[.slice A0_0 l0_0.length c0_0, .int .i64 a0_1, .slice A0_2 l0_2.length c0_2]) (t := 36) ?hr ?_; (case hd => rfl); (case hg => rfl); (case hr => first | (go_simp; done) | (go_simp; rfl)); intro gb234 hg w7 hbox hb; have n0_ := Aside0.mk (below_step (by repeat (first | (with_reducible first | exact HB.out | apply below_alloc | apply pw_below_drewN | apply below_drew1) | exact HB.out)) hb); have n1_ := Aside0.mk (hbox); have n2_ := Aside0.mk ((by rw [hg]; exact (below_size (by repeat (first | (with_reducible first | exact HB.out | apply below_alloc | apply pw_below_drewN | apply below_drew1) | exact HB.out))) : w.heap.size ≤ gb234)); have n3_ := Aside0.mk ((by rw [hg]; exact (below_size (by repeat (first | (with_reducible first | exact HB.out | apply below_alloc | apply pw_below_drewN | apply below_drew1) | exact HB.out))) : w.heap.size ≤ gb234)); clear HB; have HB := n0_; have BK234 := n1_; have GW234 := n2_; have GE234 := n3_; clear n0_ n1_ n2_ n3_; clear hb hbox hg; have hcz8_0 : w7.cell? ⟨gb234, 0, none⟩ = some (.slice A0_0 l0_0.length c0_0) := (blk_cell BK234.out 0).trans rfl; have hcz8_1 : w7.cell? ⟨gb234, 1, none⟩ = some (.int .i64 a0_1) := (blk_cell BK234.out 1).trans rfl; have hcz8_2 : w7.cell? ⟨gb234, 2, none⟩ = some (.slice A0_2 l0_2.length c0_2) := (blk_cell BK234.out 2).trans rfl; have hfz8_0 := blk_frozen BK234.out 0; have hfz8_1 := blk_frozen BK234.out 1; have hfz8_2 := blk_frozen BK234.out 2) | ((with_reducible refine gate_callee (f := 30) rfl ?_); refine goesL_ (some 25) rfl rfl Try.func30 (by kernel_rfl) rfl #[.agg #[.slice A0_0 l0_0.length c0_0, .int .i64 a0_1, .slice A0_2 l0_2.length c0_2], .int .i64 1048576] rfl (by (try simp only [List.map_toArray, List.map_cons, List.map_nil]); first | done | rfl | (simp only [List.length_drop, List.length_take]; rfl)) ?_; (with_reducible refine (laws_szDev.calls _ _ l0_0 a0_1 _ _ l0_2 1048576 t235 _ ?side1 ?side2 ?side3 ?side4 A5.out).mono ?_); (case side1 => repeat (first | exact (Kd.C_below HR0_0.out HB.out) | (with_reducible refine Kd.C_alloc ?_ _) | (with_reducible refine Kd.C_drewN ?_ _) | (with_reducible refine Kd.C_drew ?_))); (case side2 => exact HC0_0.out); (case side3 => repeat (first | exact (Kd.C_below HR0_2.out HB.out) | (with_reducible refine Kd.C_alloc ?_ _) | (with_reducible refine Kd.C_drewN ?_ _) | (with_reducible refine Kd.C_drew ?_))); (case side4 => exact HC0_2.out); rintro e w9 ⟨rfl, hb⟩; refine ⟨_, rfl, ?_⟩; have n0_ := Aside0.mk (blk_below (g := gb234) (o := .cells #[.slice A0_0 l0_0.length c0_0, .int .i64 a0_1, .slice A0_2 l0_2.length c0_2] 36 (0, 0)) (by (with_reducible repeat (first | refine blk_drewN ?_ _ | refine blk_drew ?_ | refine blk_alloc ?_ _)); exact BK234.out) hb); have n1_ := Aside0.mk (below_step (by repeat (first | (with_reducible first | exact HB.out | apply below_alloc | apply pw_below_drewN | apply below_drew1 | refine below_set ?_ GE234.out) | exact HB.out)) hb); clear BK234; clear HB; have BK234 := n0_; have HB := n1_; clear n0_ n1_; (try clear hb); (try clear hb2); (try clear hk); (try clear hi)))
    go_ret
    exact ⟨by first | rfl | (simp [errW_none, errW_some] <;> rfl) | (simp [*, errW_none, errW_some] <;> rfl), by repeat (first | (with_reducible first | exact HB.out | apply below_alloc | apply pw_below_drewN | apply below_drew1 | refine below_set ?_ GE234.out) | exact HB.out)⟩
  · rw [if_neg c6] at H
    have c6b0 : decide (t235 < 0) = false := decide_eq_false c6
    clear c6
    replace H := Option.bind_eq_some_iff.mp H
    obtain ⟨⟨t236, t239, t240⟩, A100, H⟩ := H
    replace H : ((spec_DevDo.f k t236 t239 t240 a1 a2 a3).bind fun bt243 => ((laws_toDev.f k l0_0 a0_1 l0_2).bind fun bt253 => ((impl_DevDo.f k bt253.1 bt253.2.1 bt253.2.2 a1 a2 a3).bind fun bt261 => ((laws_eqDev.f k bt261.1 bt261.2.1 bt261.2.2.1 bt243.1 bt243.2.1 bt243.2.2.1).bind fun t271 => (if t271 = true then (if bt261.2.2.2.1 = bt243.2.2.2.1 then (laws_FnExactDevDo.j0 k a1 a2 a3 bt243.2.2.2.1 bt243.2.2.2.2 bt261.2.2.2.1 bt261.2.2.2.2 (bt261.2.2.2.2 != bt243.2.2.2.2) l0_0 a0_1 l0_2 bt243.1 bt243.2.1 bt243.2.2.1 bt253.1 bt253.2.1 bt253.2.2 bt261.1 bt261.2.1 bt261.2.2.1) else (laws_FnExactDevDo.j0 k a1 a2 a3 bt243.2.2.2.1 bt243.2.2.2.2 bt261.2.2.2.1 bt261.2.2.2.2 true l0_0 a0_1 l0_2 bt243.1 bt243.2.1 bt243.2.2.1 bt253.1 bt253.2.1 bt253.2.2 bt261.1 bt261.2.1 bt261.2.2.1)) else (laws_FnExactDevDo.j0 k a1 a2 a3 bt243.2.2.2.1 bt243.2.2.2.2 bt261.2.2.2.1 bt261.2.2.2.2 true l0_0 a0_1 l0_2 bt243.1 bt243.2.1 bt243.2.2.1 bt253.1 bt253.2.1 bt253.2.2 bt261.1 bt261.2.1 bt261.2.2.1)))))) = some true := H
    have A10 := Aside0.mk A100
    clear A100
    replace H := Option.bind_eq_some_iff.mp H
    obtain ⟨⟨t243, t246, t247, t250, t251⟩, A110, H⟩ := H
    replace H : ((laws_toDev.f k l0_0 a0_1 l0_2).bind fun bt253 => ((impl_DevDo.f k bt253.1 bt253.2.1 bt253.2.2 a1 a2 a3).bind fun bt261 => ((laws_eqDev.f k bt261.1 bt261.2.1 bt261.2.2.1 t243 t246 t247).bind fun t271 => (if t271 = true then (if bt261.2.2.2.1 = t250 then (laws_FnExactDevDo.j0 k a1 a2 a3 t250 t251 bt261.2.2.2.1 bt261.2.2.2.2 (bt261.2.2.2.2 != t251) l0_0 a0_1 l0_2 t243 t246 t247 bt253.1 bt253.2.1 bt253.2.2 bt261.1 bt261.2.1 bt261.2.2.1) else (laws_FnExactDevDo.j0 k a1 a2 a3 t250 t251 bt261.2.2.2.1 bt261.2.2.2.2 true l0_0 a0_1 l0_2 t243 t246 t247 bt253.1 bt253.2.1 bt253.2.2 bt261.1 bt261.2.1 bt261.2.2.1)) else (laws_FnExactDevDo.j0 k a1 a2 a3 t250 t251 bt261.2.2.2.1 bt261.2.2.2.2 true l0_0 a0_1 l0_2 t243 t246 t247 bt253.1 bt253.2.1 bt253.2.2 bt261.1 bt261.2.1 bt261.2.2.1))))) = some true := H
    have A11 := Aside0.mk A110
    clear A110
    replace H := Option.bind_eq_some_iff.mp H
    obtain ⟨⟨t253, t256, t257⟩, A120, H⟩ := H
    replace H : ((impl_DevDo.f k t253 t256 t257 a1 a2 a3).bind fun bt261 => ((laws_eqDev.f k bt261.1 bt261.2.1 bt261.2.2.1 t243 t246 t247).bind fun t271 => (if t271 = true then (if bt261.2.2.2.1 = t250 then (laws_FnExactDevDo.j0 k a1 a2 a3 t250 t251 bt261.2.2.2.1 bt261.2.2.2.2 (bt261.2.2.2.2 != t251) l0_0 a0_1 l0_2 t243 t246 t247 t253 t256 t257 bt261.1 bt261.2.1 bt261.2.2.1) else (laws_FnExactDevDo.j0 k a1 a2 a3 t250 t251 bt261.2.2.2.1 bt261.2.2.2.2 true l0_0 a0_1 l0_2 t243 t246 t247 t253 t256 t257 bt261.1 bt261.2.1 bt261.2.2.1)) else (laws_FnExactDevDo.j0 k a1 a2 a3 t250 t251 bt261.2.2.2.1 bt261.2.2.2.2 true l0_0 a0_1 l0_2 t243 t246 t247 t253 t256 t257 bt261.1 bt261.2.1 bt261.2.2.1)))) = some true := H
    have A12 := Aside0.mk A120
    clear A120
    replace H := Option.bind_eq_some_iff.mp H
    obtain ⟨⟨t261, t264, t265, t268, t269⟩, A130, H⟩ := H
    replace H : ((laws_eqDev.f k t261 t264 t265 t243 t246 t247).bind fun t271 => (if t271 = true then (if t268 = t250 then (laws_FnExactDevDo.j0 k a1 a2 a3 t250 t251 t268 t269 (t269 != t251) l0_0 a0_1 l0_2 t243 t246 t247 t253 t256 t257 t261 t264 t265) else (laws_FnExactDevDo.j0 k a1 a2 a3 t250 t251 t268 t269 true l0_0 a0_1 l0_2 t243 t246 t247 t253 t256 t257 t261 t264 t265)) else (laws_FnExactDevDo.j0 k a1 a2 a3 t250 t251 t268 t269 true l0_0 a0_1 l0_2 t243 t246 t247 t253 t256 t257 t261 t264 t265))) = some true := H
    have A13 := Aside0.mk A130
    clear A130
    have HC14 := Aside0.mk H
    clear H
    go_enter Try.func12, Try.ntmps12
    go_upto_region 8 with (first | ((with_reducible refine gate_dst (N := 4) rfl ?_); refine box_event ?hg (N := 4) ?hd (cs := #[.slice A0_0 l0_0.length c0_0, .int .i64 a0_1, .slice A0_2 l0_2.length c0_2]) (t := 36) ?hr ?_; (case hd => rfl); (case hg => rfl); (case hr => first | (go_simp; done) | (go_simp; rfl)); intro gb234 hg w15 hbox hb; have n0_ := Aside0.mk (below_step (by repeat (first | (with_reducible first | exact HB.out | apply below_alloc | apply pw_below_drewN | apply below_drew1) | exact HB.out)) hb); have n1_ := Aside0.mk (hbox); have n2_ := Aside0.mk ((by rw [hg]; exact (below_size (by repeat (first | (with_reducible first | exact HB.out | apply below_alloc | apply pw_below_drewN | apply below_drew1) | exact HB.out))) : w.heap.size ≤ gb234)); have n3_ := Aside0.mk ((by rw [hg]; exact (below_size (by repeat (first | (with_reducible first | exact HB.out | apply below_alloc | apply pw_below_drewN | apply below_drew1) | exact HB.out))) : w.heap.size ≤ gb234)); clear HB; have HB := n0_; have BK234 := n1_; have GW234 := n2_; have GE234 := n3_; clear n0_ n1_ n2_ n3_; clear hb hbox hg; have hcz16_0 : w15.cell? ⟨gb234, 0, none⟩ = some (.slice A0_0 l0_0.length c0_0) := (blk_cell BK234.out 0).trans rfl; have hcz16_1 : w15.cell? ⟨gb234, 1, none⟩ = some (.int .i64 a0_1) := (blk_cell BK234.out 1).trans rfl; have hcz16_2 : w15.cell? ⟨gb234, 2, none⟩ = some (.slice A0_2 l0_2.length c0_2) := (blk_cell BK234.out 2).trans rfl; have hfz16_0 := blk_frozen BK234.out 0; have hfz16_1 := blk_frozen BK234.out 1; have hfz16_2 := blk_frozen BK234.out 2) | ((with_reducible refine gate_callee (f := 30) rfl ?_); refine goesL_ (some 25) rfl rfl Try.func30 (by kernel_rfl) rfl #[.agg #[.slice A0_0 l0_0.length c0_0, .int .i64 a0_1, .slice A0_2 l0_2.length c0_2], .int .i64 1048576] rfl (by (try simp only [List.map_toArray, List.map_cons, List.map_nil]); first | done | rfl | (simp only [List.length_drop, List.length_take]; rfl)) ?_; (with_reducible refine (laws_szDev.calls _ _ l0_0 a0_1 _ _ l0_2 1048576 t235 _ ?side1 ?side2 ?side3 ?side4 A5.out).mono ?_); (case side1 => repeat (first | exact (Kd.C_below HR0_0.out HB.out) | (with_reducible refine Kd.C_alloc ?_ _) | (with_reducible refine Kd.C_drewN ?_ _) | (with_reducible refine Kd.C_drew ?_))); (case side2 => exact HC0_0.out); (case side3 => repeat (first | exact (Kd.C_below HR0_2.out HB.out) | (with_reducible refine Kd.C_alloc ?_ _) | (with_reducible refine Kd.C_drewN ?_ _) | (with_reducible refine Kd.C_drew ?_))); (case side4 => exact HC0_2.out); rintro e w17 ⟨rfl, hb⟩; refine ⟨_, rfl, ?_⟩; have n0_ := Aside0.mk (blk_below (g := gb234) (o := .cells #[.slice A0_0 l0_0.length c0_0, .int .i64 a0_1, .slice A0_2 l0_2.length c0_2] 36 (0, 0)) (by (with_reducible repeat (first | refine blk_drewN ?_ _ | refine blk_drew ?_ | refine blk_alloc ?_ _)); exact BK234.out) hb); have n1_ := Aside0.mk (below_step (by repeat (first | (with_reducible first | exact HB.out | apply below_alloc | apply pw_below_drewN | apply below_drew1 | refine below_set ?_ GE234.out) | exact HB.out)) hb); clear BK234; clear HB; have BK234 := n0_; have HB := n1_; clear n0_ n1_; (try clear hb); (try clear hb2); (try clear hk); (try clear hi); have hcz18_0 : w17.cell? ⟨gb234, 0, none⟩ = some (.slice A0_0 l0_0.length c0_0) := (blk_cell BK234.out 0).trans rfl; have hcz18_1 : w17.cell? ⟨gb234, 1, none⟩ = some (.int .i64 a0_1) := (blk_cell BK234.out 1).trans rfl; have hcz18_2 : w17.cell? ⟨gb234, 2, none⟩ = some (.slice A0_2 l0_2.length c0_2) := (blk_cell BK234.out 2).trans rfl; have hfz18_0 := blk_frozen BK234.out 0; have hfz18_1 := blk_frozen BK234.out 1; have hfz18_2 := blk_frozen BK234.out 2) | ((with_reducible refine gate_callee (f := 32) rfl ?_); refine goesL_ (some 30) rfl rfl Try.func32 (by kernel_rfl) rfl #[.agg #[.slice A0_0 l0_0.length c0_0, .int .i64 a0_1, .slice A0_2 l0_2.length c0_2]] rfl (by (try simp only [List.map_toArray, List.map_cons, List.map_nil]); first | done | rfl | (simp only [List.length_drop, List.length_take]; rfl)) ?_; (with_reducible refine (laws_toDev.calls k _ _ l0_0 a0_1 _ _ l0_2 t236 t239 t240 _ ?side1 ?side2 ?side3 ?side4 A10.out).mono ?_); (case side1 => repeat (first | exact (Kd.C_below HR0_0.out HB.out) | (with_reducible refine Kd.C_alloc ?_ _) | (with_reducible refine Kd.C_drewN ?_ _) | (with_reducible refine Kd.C_drew ?_))); (case side2 => exact HC0_0.out); (case side3 => repeat (first | exact (Kd.C_below HR0_2.out HB.out) | (with_reducible refine Kd.C_alloc ?_ _) | (with_reducible refine Kd.C_drewN ?_ _) | (with_reducible refine Kd.C_drew ?_))); (case side4 => exact HC0_2.out); rintro e w19 ⟨v237, v241, rfl, ho0, ho1, hb⟩; refine ⟨_, rfl, ?_⟩; have n0_ := Aside0.mk (Kd.R_lower ho0 (below_size (by repeat (first | (with_reducible first | exact HB.out | apply below_alloc | apply pw_below_drewN | apply below_drew1 | refine below_set ?_ GE234.out) | exact HB.out)))); have n1_ := Aside0.mk (Kd.R_lower ho1 (below_size (by repeat (first | (with_reducible first | exact HB.out | apply below_alloc | apply pw_below_drewN | apply below_drew1 | refine below_set ?_ GE234.out) | exact HB.out)))); have n2_ := Aside0.mk (blk_below (g := gb234) (o := .cells #[.slice A0_0 l0_0.length c0_0, .int .i64 a0_1, .slice A0_2 l0_2.length c0_2] 36 (0, 0)) (by (with_reducible repeat (first | refine blk_drewN ?_ _ | refine blk_drew ?_ | refine blk_alloc ?_ _)); exact BK234.out) hb); have n3_ := Aside0.mk (below_step (by repeat (first | (with_reducible first | exact HB.out | apply below_alloc | apply pw_below_drewN | apply below_drew1 | refine below_set ?_ GE234.out) | exact HB.out)) hb); clear BK234; clear HB; have HO238 := n0_; have HO242 := n1_; have BK234 := n2_; have HB := n3_; clear n0_ n1_ n2_ n3_; (try clear hb); (try clear hb2); (try clear hk); (try clear hi); (try clear ho0); (try clear ho1); obtain ⟨Ao20, co20, eo20⟩ := Kd.R_slice HO238.out; subst eo20; obtain ⟨Ao21, co21, eo21⟩ := Kd.R_slice HO242.out; subst eo21) | ((with_reducible refine gate_callee (f := 42) rfl ?_); refine goesL_ (some 34) rfl rfl Try.func42 (by kernel_rfl) rfl #[.agg #[.slice Ao20 t236.length co20, .int .i64 t239, .slice Ao21 t240.length co21], .bool a1, .int .i64 a2, .int .i64 a3] rfl (by (try simp only [List.map_toArray, List.map_cons, List.map_nil]); first | done | rfl | (simp only [List.length_drop, List.length_take]; rfl)) ?_; (with_reducible refine (spec_DevDo.calls k _ _ t236 t239 _ _ t240 a1 a2 a3 t243 t246 t247 t250 t251 _ ?side1 ?side2 ?side3 ?side4 A11.out).mono ?_); (case side1 => repeat (first | exact (Kd.R_reads' HO238.out).2.2 | (with_reducible refine Kd.C_alloc ?_ _) | (with_reducible refine Kd.C_drewN ?_ _) | (with_reducible refine Kd.C_drew ?_))); (case side2 => exact (Kd.R_reads' HO238.out).2.1); (case side3 => repeat (first | exact (Kd.R_reads' HO242.out).2.2 | (with_reducible refine Kd.C_alloc ?_ _) | (with_reducible refine Kd.C_drewN ?_ _) | (with_reducible refine Kd.C_drew ?_))); (case side4 => exact (Kd.R_reads' HO242.out).2.1); rintro e w22 ⟨v244, v248, rfl, ho0, ho1, hb⟩; refine ⟨_, rfl, ?_⟩; have n0_ := Aside0.mk (Kd.R_mono (Kd.R_told (Kd.R_told (Kd.R_old (by (with_reducible repeat (first | apply Kd.R_alloc | apply Kd.R_drewN | apply Kd.R_drew)); exact HO238.out) hb) (Kd.R_base ho0)) (Kd.Q_base ho1)) (fun _ h_ => h_.1)); have n1_ := Aside0.mk (Kd.R_mono (Kd.R_told (Kd.R_told (Kd.R_old (by (with_reducible repeat (first | apply Kd.R_alloc | apply Kd.R_drewN | apply Kd.R_drew)); exact HO242.out) hb) (Kd.R_base ho0)) (Kd.Q_base ho1)) (fun _ h_ => h_.1)); have n2_ := Aside0.mk (Kd.R_lower (Kd.R_new' (Kd.R_new' ho0 (Kd.R_lt (by (with_reducible repeat (first | apply Kd.R_alloc | apply Kd.R_drewN | apply Kd.R_drew)); exact HO238.out))) (Kd.R_lt (by (with_reducible repeat (first | apply Kd.R_alloc | apply Kd.R_drewN | apply Kd.R_drew)); exact HO242.out))) (below_size (by repeat (first | (with_reducible first | exact HB.out | apply below_alloc | apply pw_below_drewN | apply below_drew1 | refine below_set ?_ GE234.out) | exact HB.out)))); have n3_ := Aside0.mk (Kd.Q_lower (Kd.Q_new' (Kd.Q_new' ho1 (Kd.R_lt (by (with_reducible repeat (first | apply Kd.R_alloc | apply Kd.R_drewN | apply Kd.R_drew)); exact HO238.out))) (Kd.R_lt (by (with_reducible repeat (first | apply Kd.R_alloc | apply Kd.R_drewN | apply Kd.R_drew)); exact HO242.out))) (below_size (by repeat (first | (with_reducible first | exact HB.out | apply below_alloc | apply pw_below_drewN | apply below_drew1 | refine below_set ?_ GE234.out) | exact HB.out)))); have n4_ := Aside0.mk (blk_below (g := gb234) (o := .cells #[.slice A0_0 l0_0.length c0_0, .int .i64 a0_1, .slice A0_2 l0_2.length c0_2] 36 (0, 0)) (by (with_reducible repeat (first | refine blk_drewN ?_ _ | refine blk_drew ?_ | refine blk_alloc ?_ _)); exact BK234.out) hb); have n5_ := Aside0.mk (below_step (by repeat (first | (with_reducible first | exact HB.out | apply below_alloc | apply pw_below_drewN | apply below_drew1 | refine below_set ?_ GE234.out) | exact HB.out)) hb); clear HO238; clear HO242; clear BK234; clear HB; have HO238 := n0_; have HO242 := n1_; have HO245 := n2_; have HO249 := n3_; have BK234 := n4_; have HB := n5_; clear n0_ n1_ n2_ n3_ n4_ n5_; (try clear hb); (try clear hb2); (try clear hk); (try clear hi); (try clear ho0); (try clear ho1)) | ((with_reducible refine gate_dst (N := 10) rfl ?_); refine box_event ?hg (N := 10) ?hd (cs := #[.slice none 0 0, .int .i64 0, .slice none 0 0]) (t := 26) ?hr ?_; (case hd => rfl); (case hg => rfl); (case hr => first | (go_simp; done) | (go_simp; rfl)); intro gb252 hg w23 hbox hb; have n0_ := Aside0.mk (Kd.R_below (by (with_reducible repeat (first | apply Kd.R_alloc | apply Kd.R_drewN | apply Kd.R_drew)); exact HO238.out) hb); have n1_ := Aside0.mk (Kd.R_below (by (with_reducible repeat (first | apply Kd.R_alloc | apply Kd.R_drewN | apply Kd.R_drew)); exact HO242.out) hb); have n2_ := Aside0.mk (Kd.R_below (by (with_reducible repeat (first | apply Kd.R_alloc | apply Kd.R_drewN | apply Kd.R_drew)); exact HO245.out) hb); have n3_ := Aside0.mk (Kd.Q_below (by (with_reducible repeat (first | apply Kd.Q_alloc | apply Kd.Q_drewN | apply Kd.Q_drew)); exact HO249.out) hb); have n4_ := Aside0.mk (blk_below (g := gb234) (o := .cells #[.slice A0_0 l0_0.length c0_0, .int .i64 a0_1, .slice A0_2 l0_2.length c0_2] 36 (0, 0)) (by (with_reducible repeat (first | refine blk_drewN ?_ _ | refine blk_drew ?_ | refine blk_alloc ?_ _)); exact BK234.out) hb); have n5_ := Aside0.mk (below_step (by repeat (first | (with_reducible first | exact HB.out | apply below_alloc | apply pw_below_drewN | apply below_drew1 | refine below_set ?_ GE234.out) | exact HB.out)) hb); have n6_ := Aside0.mk (hbox); have n7_ := Aside0.mk ((by rw [hg]; exact (below_size (by repeat (first | (with_reducible first | exact HB.out | apply below_alloc | apply pw_below_drewN | apply below_drew1 | refine below_set ?_ GE234.out) | exact HB.out))) : w.heap.size ≤ gb252)); have n8_ := Aside0.mk ((by rw [hg]; exact (below_size (by repeat (first | (with_reducible first | exact HB.out | apply below_alloc | apply pw_below_drewN | apply below_drew1 | refine below_set ?_ GE234.out) | exact HB.out))) : w.heap.size ≤ gb252)); have n9_ := Aside0.mk ((by rw [hg]; exact Nat.ne_of_lt (blk_lt (g := gb234) (o := .cells #[.slice A0_0 l0_0.length c0_0, .int .i64 a0_1, .slice A0_2 l0_2.length c0_2] 36 (0, 0)) (by (with_reducible repeat (first | refine blk_drewN ?_ _ | refine blk_drew ?_ | refine blk_alloc ?_ _)); exact BK234.out)) : gb234 ≠ gb252)); have n10_ := Aside0.mk ((by rw [hg]; exact Nat.ne_of_gt (blk_lt (g := gb234) (o := .cells #[.slice A0_0 l0_0.length c0_0, .int .i64 a0_1, .slice A0_2 l0_2.length c0_2] 36 (0, 0)) (by (with_reducible repeat (first | refine blk_drewN ?_ _ | refine blk_drew ?_ | refine blk_alloc ?_ _)); exact BK234.out)) : gb252 ≠ gb234)); clear HO238; clear HO242; clear HO245; clear HO249; clear BK234; clear HB; have HO238 := n0_; have HO242 := n1_; have HO245 := n2_; have HO249 := n3_; have BK234 := n4_; have HB := n5_; have BK252 := n6_; have GW252 := n7_; have GE252 := n8_; have NB234_252 := n9_; have NB252_234 := n10_; clear n0_ n1_ n2_ n3_ n4_ n5_ n6_ n7_ n8_ n9_ n10_; clear hb hbox hg; obtain ⟨Ao24, co24, eo24⟩ := Kd.R_slice HO245.out; subst eo24; have hnb25 := NB252_234.out; have hnc25 := NB234_252.out; have hcz26_0 : w23.cell? ⟨gb252, 0, none⟩ = some (.slice none 0 0) := (blk_cell BK252.out 0).trans rfl; have hcz26_1 : w23.cell? ⟨gb252, 1, none⟩ = some (.int .i64 0) := (blk_cell BK252.out 1).trans rfl; have hcz26_2 : w23.cell? ⟨gb252, 2, none⟩ = some (.slice none 0 0) := (blk_cell BK252.out 2).trans rfl; have hfz26_0 := blk_frozen BK252.out 0; have hfz26_1 := blk_frozen BK252.out 1; have hfz26_2 := blk_frozen BK252.out 2; obtain ⟨Ao27, co27, eo27, _⟩ := Kd.Q_slice HO249.out; subst eo27; have hcz28_0 : w23.cell? ⟨gb234, 0, none⟩ = some (.slice A0_0 l0_0.length c0_0) := (blk_cell BK234.out 0).trans rfl; have hcz28_1 : w23.cell? ⟨gb234, 1, none⟩ = some (.int .i64 a0_1) := (blk_cell BK234.out 1).trans rfl; have hcz28_2 : w23.cell? ⟨gb234, 2, none⟩ = some (.slice A0_2 l0_2.length c0_2) := (blk_cell BK234.out 2).trans rfl; have hfz28_0 := blk_frozen BK234.out 0; have hfz28_1 := blk_frozen BK234.out 1; have hfz28_2 := blk_frozen BK234.out 2) | ((with_reducible refine gate_callee (f := 32) rfl ?_); refine goesL_ (some 39) rfl rfl Try.func32 (by kernel_rfl) rfl #[.agg #[.slice A0_0 l0_0.length c0_0, .int .i64 a0_1, .slice A0_2 l0_2.length c0_2]] rfl (by (try simp only [List.map_toArray, List.map_cons, List.map_nil]); first | done | rfl | (simp only [List.length_drop, List.length_take]; rfl)) ?_; (with_reducible refine (laws_toDev.calls k _ _ l0_0 a0_1 _ _ l0_2 t253 t256 t257 _ ?side1 ?side2 ?side3 ?side4 A12.out).mono ?_); (case side1 => exact Kd.C_below HR0_0.out (by repeat (first | (with_reducible first | exact HB.out | apply below_alloc | apply pw_below_drewN | apply below_drew1 | refine below_set ?_ GE234.out | refine below_set ?_ GE252.out) | exact HB.out))); (case side2 => exact HC0_0.out); (case side3 => exact Kd.C_below HR0_2.out (by repeat (first | (with_reducible first | exact HB.out | apply below_alloc | apply pw_below_drewN | apply below_drew1 | refine below_set ?_ GE234.out | refine below_set ?_ GE252.out) | exact HB.out))); (case side4 => exact HC0_2.out); rintro e w29 ⟨v254, v258, rfl, ho0, ho1, hb⟩; refine ⟨_, rfl, ?_⟩; have n0_ := Aside0.mk (Kd.R_mono (Kd.R_told (Kd.R_told (Kd.R_old (by (with_reducible repeat (first | apply Kd.R_alloc | apply Kd.R_drewN | apply Kd.R_drew)); exact (Kd.R_mono (Kd.R_far (p := ⟨gb252, 2, none⟩) (Kd.R_far (p := ⟨gb252, 1, none⟩) (Kd.R_far (p := ⟨gb252, 0, none⟩) (Kd.R_types HO238.out BK252.out (by decide)) (fun _ hk => hk.2) (.slice Ao24 t243.length co24)) (fun _ hk => hk.2) (.int .i64 t246)) (fun _ hk => hk.2) (.slice Ao27 t247.length co27)) (fun _ h_ => h_.1))) hb) (Kd.R_base ho0)) (Kd.R_base ho1)) (fun _ h_ => h_.1)); have n1_ := Aside0.mk (Kd.R_mono (Kd.R_told (Kd.R_told (Kd.R_old (by (with_reducible repeat (first | apply Kd.R_alloc | apply Kd.R_drewN | apply Kd.R_drew)); exact (Kd.R_mono (Kd.R_far (p := ⟨gb252, 2, none⟩) (Kd.R_far (p := ⟨gb252, 1, none⟩) (Kd.R_far (p := ⟨gb252, 0, none⟩) (Kd.R_types HO242.out BK252.out (by decide)) (fun _ hk => hk.2) (.slice Ao24 t243.length co24)) (fun _ hk => hk.2) (.int .i64 t246)) (fun _ hk => hk.2) (.slice Ao27 t247.length co27)) (fun _ h_ => h_.1))) hb) (Kd.R_base ho0)) (Kd.R_base ho1)) (fun _ h_ => h_.1)); have n2_ := Aside0.mk (Kd.R_mono (Kd.R_told (Kd.R_told (Kd.R_old (by (with_reducible repeat (first | apply Kd.R_alloc | apply Kd.R_drewN | apply Kd.R_drew)); exact (Kd.R_mono (Kd.R_far (p := ⟨gb252, 2, none⟩) (Kd.R_far (p := ⟨gb252, 1, none⟩) (Kd.R_far (p := ⟨gb252, 0, none⟩) (Kd.R_types HO245.out BK252.out (by decide)) (fun _ hk => hk.2) (.slice Ao24 t243.length co24)) (fun _ hk => hk.2) (.int .i64 t246)) (fun _ hk => hk.2) (.slice Ao27 t247.length co27)) (fun _ h_ => h_.1))) hb) (Kd.R_base ho0)) (Kd.R_base ho1)) (fun _ h_ => h_.1)); have n3_ := Aside0.mk (Kd.Q_mono (Kd.Q_told (Kd.Q_told (Kd.Q_old (by (with_reducible repeat (first | apply Kd.Q_alloc | apply Kd.Q_drewN | apply Kd.Q_drew)); exact (Kd.Q_mono (Kd.Q_far (p := ⟨gb252, 2, none⟩) (Kd.Q_far (p := ⟨gb252, 1, none⟩) (Kd.Q_far (p := ⟨gb252, 0, none⟩) (Kd.Q_types HO249.out BK252.out (by decide)) (fun _ hk => hk.2) (.slice Ao24 t243.length co24)) (fun _ hk => hk.2) (.int .i64 t246)) (fun _ hk => hk.2) (.slice Ao27 t247.length co27)) (fun _ h_ => h_.1))) hb) (Kd.R_base ho0)) (Kd.R_base ho1)) (fun _ h_ => h_.1)); have n4_ := Aside0.mk (Kd.R_lower (Kd.R_new' (Kd.R_new' (Kd.R_new' (Kd.R_new' ho0 (Kd.R_lt (by (with_reducible repeat (first | apply Kd.R_alloc | apply Kd.R_drewN | apply Kd.R_drew)); exact (Kd.R_mono (Kd.R_far (p := ⟨gb252, 2, none⟩) (Kd.R_far (p := ⟨gb252, 1, none⟩) (Kd.R_far (p := ⟨gb252, 0, none⟩) (Kd.R_types HO238.out BK252.out (by decide)) (fun _ hk => hk.2) (.slice Ao24 t243.length co24)) (fun _ hk => hk.2) (.int .i64 t246)) (fun _ hk => hk.2) (.slice Ao27 t247.length co27)) (fun _ h_ => h_.1))))) (Kd.R_lt (by (with_reducible repeat (first | apply Kd.R_alloc | apply Kd.R_drewN | apply Kd.R_drew)); exact (Kd.R_mono (Kd.R_far (p := ⟨gb252, 2, none⟩) (Kd.R_far (p := ⟨gb252, 1, none⟩) (Kd.R_far (p := ⟨gb252, 0, none⟩) (Kd.R_types HO242.out BK252.out (by decide)) (fun _ hk => hk.2) (.slice Ao24 t243.length co24)) (fun _ hk => hk.2) (.int .i64 t246)) (fun _ hk => hk.2) (.slice Ao27 t247.length co27)) (fun _ h_ => h_.1))))) (Kd.R_lt (by (with_reducible repeat (first | apply Kd.R_alloc | apply Kd.R_drewN | apply Kd.R_drew)); exact (Kd.R_mono (Kd.R_far (p := ⟨gb252, 2, none⟩) (Kd.R_far (p := ⟨gb252, 1, none⟩) (Kd.R_far (p := ⟨gb252, 0, none⟩) (Kd.R_types HO245.out BK252.out (by decide)) (fun _ hk => hk.2) (.slice Ao24 t243.length co24)) (fun _ hk => hk.2) (.int .i64 t246)) (fun _ hk => hk.2) (.slice Ao27 t247.length co27)) (fun _ h_ => h_.1))))) (Kd.Q_lt (by (with_reducible repeat (first | apply Kd.Q_alloc | apply Kd.Q_drewN | apply Kd.Q_drew)); exact (Kd.Q_mono (Kd.Q_far (p := ⟨gb252, 2, none⟩) (Kd.Q_far (p := ⟨gb252, 1, none⟩) (Kd.Q_far (p := ⟨gb252, 0, none⟩) (Kd.Q_types HO249.out BK252.out (by decide)) (fun _ hk => hk.2) (.slice Ao24 t243.length co24)) (fun _ hk => hk.2) (.int .i64 t246)) (fun _ hk => hk.2) (.slice Ao27 t247.length co27)) (fun _ h_ => h_.1))))) (below_size (by repeat (first | (with_reducible first | exact HB.out | apply below_alloc | apply pw_below_drewN | apply below_drew1 | refine below_set ?_ GE234.out | refine below_set ?_ GE252.out) | exact HB.out)))); have n5_ := Aside0.mk (Kd.R_lower (Kd.R_new' (Kd.R_new' (Kd.R_new' (Kd.R_new' ho1 (Kd.R_lt (by (with_reducible repeat (first | apply Kd.R_alloc | apply Kd.R_drewN | apply Kd.R_drew)); exact (Kd.R_mono (Kd.R_far (p := ⟨gb252, 2, none⟩) (Kd.R_far (p := ⟨gb252, 1, none⟩) (Kd.R_far (p := ⟨gb252, 0, none⟩) (Kd.R_types HO238.out BK252.out (by decide)) (fun _ hk => hk.2) (.slice Ao24 t243.length co24)) (fun _ hk => hk.2) (.int .i64 t246)) (fun _ hk => hk.2) (.slice Ao27 t247.length co27)) (fun _ h_ => h_.1))))) (Kd.R_lt (by (with_reducible repeat (first | apply Kd.R_alloc | apply Kd.R_drewN | apply Kd.R_drew)); exact (Kd.R_mono (Kd.R_far (p := ⟨gb252, 2, none⟩) (Kd.R_far (p := ⟨gb252, 1, none⟩) (Kd.R_far (p := ⟨gb252, 0, none⟩) (Kd.R_types HO242.out BK252.out (by decide)) (fun _ hk => hk.2) (.slice Ao24 t243.length co24)) (fun _ hk => hk.2) (.int .i64 t246)) (fun _ hk => hk.2) (.slice Ao27 t247.length co27)) (fun _ h_ => h_.1))))) (Kd.R_lt (by (with_reducible repeat (first | apply Kd.R_alloc | apply Kd.R_drewN | apply Kd.R_drew)); exact (Kd.R_mono (Kd.R_far (p := ⟨gb252, 2, none⟩) (Kd.R_far (p := ⟨gb252, 1, none⟩) (Kd.R_far (p := ⟨gb252, 0, none⟩) (Kd.R_types HO245.out BK252.out (by decide)) (fun _ hk => hk.2) (.slice Ao24 t243.length co24)) (fun _ hk => hk.2) (.int .i64 t246)) (fun _ hk => hk.2) (.slice Ao27 t247.length co27)) (fun _ h_ => h_.1))))) (Kd.Q_lt (by (with_reducible repeat (first | apply Kd.Q_alloc | apply Kd.Q_drewN | apply Kd.Q_drew)); exact (Kd.Q_mono (Kd.Q_far (p := ⟨gb252, 2, none⟩) (Kd.Q_far (p := ⟨gb252, 1, none⟩) (Kd.Q_far (p := ⟨gb252, 0, none⟩) (Kd.Q_types HO249.out BK252.out (by decide)) (fun _ hk => hk.2) (.slice Ao24 t243.length co24)) (fun _ hk => hk.2) (.int .i64 t246)) (fun _ hk => hk.2) (.slice Ao27 t247.length co27)) (fun _ h_ => h_.1))))) (below_size (by repeat (first | (with_reducible first | exact HB.out | apply below_alloc | apply pw_below_drewN | apply below_drew1 | refine below_set ?_ GE234.out | refine below_set ?_ GE252.out) | exact HB.out)))); have n6_ := Aside0.mk (blk_below (g := gb234) (o := .cells #[.slice A0_0 l0_0.length c0_0, .int .i64 a0_1, .slice A0_2 l0_2.length c0_2] 36 (0, 0)) (by (with_reducible repeat (first | refine blk_drewN ?_ _ | refine blk_drew ?_ | refine blk_alloc ?_ _)); refine blk_far ?_ NB234_252.out _; (with_reducible repeat (first | refine blk_drewN ?_ _ | refine blk_drew ?_ | refine blk_alloc ?_ _)); refine blk_far ?_ NB234_252.out _; (with_reducible repeat (first | refine blk_drewN ?_ _ | refine blk_drew ?_ | refine blk_alloc ?_ _)); refine blk_far ?_ NB234_252.out _; (with_reducible repeat (first | refine blk_drewN ?_ _ | refine blk_drew ?_ | refine blk_alloc ?_ _)); exact BK234.out) hb); have n7_ := Aside0.mk (blk_below (g := gb252) (o := .cells #[.slice Ao24 t243.length co24, .int .i64 t246, .slice Ao27 t247.length co27] 26 (0, 0)) (by (with_reducible repeat (first | refine blk_drewN ?_ _ | refine blk_drew ?_ | refine blk_alloc ?_ _)); refine blk_put (cs := #[.slice Ao24 t243.length co24, .int .i64 t246, .slice none 0 0]) ?_ 2 _ rfl; (with_reducible repeat (first | refine blk_drewN ?_ _ | refine blk_drew ?_ | refine blk_alloc ?_ _)); refine blk_put (cs := #[.slice Ao24 t243.length co24, .int .i64 0, .slice none 0 0]) ?_ 1 _ rfl; (with_reducible repeat (first | refine blk_drewN ?_ _ | refine blk_drew ?_ | refine blk_alloc ?_ _)); refine blk_put (cs := #[.slice none 0 0, .int .i64 0, .slice none 0 0]) ?_ 0 _ rfl; (with_reducible repeat (first | refine blk_drewN ?_ _ | refine blk_drew ?_ | refine blk_alloc ?_ _)); exact BK252.out) hb); have n8_ := Aside0.mk (below_step (by repeat (first | (with_reducible first | exact HB.out | apply below_alloc | apply pw_below_drewN | apply below_drew1 | refine below_set ?_ GE234.out | refine below_set ?_ GE252.out) | exact HB.out)) hb); clear HO238; clear HO242; clear HO245; clear HO249; clear BK234; clear BK252; clear HB; have HO238 := n0_; have HO242 := n1_; have HO245 := n2_; have HO249 := n3_; have HO255 := n4_; have HO259 := n5_; have BK234 := n6_; have BK252 := n7_; have HB := n8_; clear n0_ n1_ n2_ n3_ n4_ n5_ n6_ n7_ n8_; (try clear hb); (try clear hb2); (try clear hk); (try clear hi); (try clear ho0); (try clear ho1)) | ((with_reducible refine gate_dst (N := 13) rfl ?_); refine box_event ?hg (N := 13) ?hd (cs := #[.slice none 0 0, .int .i64 0, .slice none 0 0]) (t := 26) ?hr ?_; (case hd => rfl); (case hg => rfl); (case hr => first | (go_simp; done) | (go_simp; rfl)); intro gb260 hg w30 hbox hb; have n0_ := Aside0.mk (Kd.R_below (by (with_reducible repeat (first | apply Kd.R_alloc | apply Kd.R_drewN | apply Kd.R_drew)); exact HO238.out) hb); have n1_ := Aside0.mk (Kd.R_below (by (with_reducible repeat (first | apply Kd.R_alloc | apply Kd.R_drewN | apply Kd.R_drew)); exact HO242.out) hb); have n2_ := Aside0.mk (Kd.R_below (by (with_reducible repeat (first | apply Kd.R_alloc | apply Kd.R_drewN | apply Kd.R_drew)); exact HO245.out) hb); have n3_ := Aside0.mk (Kd.Q_below (by (with_reducible repeat (first | apply Kd.Q_alloc | apply Kd.Q_drewN | apply Kd.Q_drew)); exact HO249.out) hb); have n4_ := Aside0.mk (Kd.R_below (by (with_reducible repeat (first | apply Kd.R_alloc | apply Kd.R_drewN | apply Kd.R_drew)); exact HO255.out) hb); have n5_ := Aside0.mk (Kd.R_below (by (with_reducible repeat (first | apply Kd.R_alloc | apply Kd.R_drewN | apply Kd.R_drew)); exact HO259.out) hb); have n6_ := Aside0.mk (blk_below (g := gb234) (o := .cells #[.slice A0_0 l0_0.length c0_0, .int .i64 a0_1, .slice A0_2 l0_2.length c0_2] 36 (0, 0)) (by (with_reducible repeat (first | refine blk_drewN ?_ _ | refine blk_drew ?_ | refine blk_alloc ?_ _)); exact BK234.out) hb); have n7_ := Aside0.mk (blk_below (g := gb252) (o := .cells #[.slice Ao24 t243.length co24, .int .i64 t246, .slice Ao27 t247.length co27] 26 (0, 0)) (by (with_reducible repeat (first | refine blk_drewN ?_ _ | refine blk_drew ?_ | refine blk_alloc ?_ _)); exact BK252.out) hb); have n8_ := Aside0.mk (below_step (by repeat (first | (with_reducible first | exact HB.out | apply below_alloc | apply pw_below_drewN | apply below_drew1 | refine below_set ?_ GE234.out | refine below_set ?_ GE252.out) | exact HB.out)) hb); have n9_ := Aside0.mk (hbox); have n10_ := Aside0.mk ((by rw [hg]; exact (below_size (by repeat (first | (with_reducible first | exact HB.out | apply below_alloc | apply pw_below_drewN | apply below_drew1 | refine below_set ?_ GE234.out | refine below_set ?_ GE252.out) | exact HB.out))) : w.heap.size ≤ gb260)); have n11_ := Aside0.mk ((by rw [hg]; exact (below_size (by repeat (first | (with_reducible first | exact HB.out | apply below_alloc | apply pw_below_drewN | apply below_drew1 | refine below_set ?_ GE234.out | refine below_set ?_ GE252.out) | exact HB.out))) : w.heap.size ≤ gb260)); have n12_ := Aside0.mk ((by rw [hg]; exact Nat.ne_of_lt (blk_lt (g := gb234) (o := .cells #[.slice A0_0 l0_0.length c0_0, .int .i64 a0_1, .slice A0_2 l0_2.length c0_2] 36 (0, 0)) (by (with_reducible repeat (first | refine blk_drewN ?_ _ | refine blk_drew ?_ | refine blk_alloc ?_ _)); exact BK234.out)) : gb234 ≠ gb260)); have n13_ := Aside0.mk ((by rw [hg]; exact Nat.ne_of_gt (blk_lt (g := gb234) (o := .cells #[.slice A0_0 l0_0.length c0_0, .int .i64 a0_1, .slice A0_2 l0_2.length c0_2] 36 (0, 0)) (by (with_reducible repeat (first | refine blk_drewN ?_ _ | refine blk_drew ?_ | refine blk_alloc ?_ _)); exact BK234.out)) : gb260 ≠ gb234)); have n14_ := Aside0.mk ((by rw [hg]; exact Nat.ne_of_lt (blk_lt (g := gb252) (o := .cells #[.slice Ao24 t243.length co24, .int .i64 t246, .slice Ao27 t247.length co27] 26 (0, 0)) (by (with_reducible repeat (first | refine blk_drewN ?_ _ | refine blk_drew ?_ | refine blk_alloc ?_ _)); exact BK252.out)) : gb252 ≠ gb260)); have n15_ := Aside0.mk ((by rw [hg]; exact Nat.ne_of_gt (blk_lt (g := gb252) (o := .cells #[.slice Ao24 t243.length co24, .int .i64 t246, .slice Ao27 t247.length co27] 26 (0, 0)) (by (with_reducible repeat (first | refine blk_drewN ?_ _ | refine blk_drew ?_ | refine blk_alloc ?_ _)); exact BK252.out)) : gb260 ≠ gb252)); clear HO238; clear HO242; clear HO245; clear HO249; clear HO255; clear HO259; clear BK234; clear BK252; clear HB; have HO238 := n0_; have HO242 := n1_; have HO245 := n2_; have HO249 := n3_; have HO255 := n4_; have HO259 := n5_; have BK234 := n6_; have BK252 := n7_; have HB := n8_; have BK260 := n9_; have GW260 := n10_; have GE260 := n11_; have NB234_260 := n12_; have NB260_234 := n13_; have NB252_260 := n14_; have NB260_252 := n15_; clear n0_ n1_ n2_ n3_ n4_ n5_ n6_ n7_ n8_ n9_ n10_ n11_ n12_ n13_ n14_ n15_; clear hb hbox hg; obtain ⟨Ao31, co31, eo31⟩ := Kd.R_slice HO255.out; subst eo31; have hnb32 := NB260_234.out; have hnc32 := NB234_260.out; have hnb33 := NB260_252.out; have hnc33 := NB252_260.out; have hcz34_0 : w30.cell? ⟨gb260, 0, none⟩ = some (.slice none 0 0) := (blk_cell BK260.out 0).trans rfl; have hcz34_1 : w30.cell? ⟨gb260, 1, none⟩ = some (.int .i64 0) := (blk_cell BK260.out 1).trans rfl; have hcz34_2 : w30.cell? ⟨gb260, 2, none⟩ = some (.slice none 0 0) := (blk_cell BK260.out 2).trans rfl; have hfz34_0 := blk_frozen BK260.out 0; have hfz34_1 := blk_frozen BK260.out 1; have hfz34_2 := blk_frozen BK260.out 2; obtain ⟨Ao35, co35, eo35⟩ := Kd.R_slice HO259.out; subst eo35) | ((with_reducible refine gate_callee (f := 41) rfl ?_); refine goesL_ (some 45) rfl rfl Try.func41 (by kernel_rfl) rfl #[.agg #[.slice Ao31 t253.length co31, .int .i64 t256, .slice Ao35 t257.length co35], .bool a1, .int .i64 a2, .int .i64 a3] rfl (by (try simp only [List.map_toArray, List.map_cons, List.map_nil]); first | done | rfl | (simp only [List.length_drop, List.length_take]; rfl)) ?_; (with_reducible refine (impl_DevDo.calls k _ _ t253 t256 _ _ t257 a1 a2 a3 t261 t264 t265 t268 t269 _ ?side1 ?side2 ?side3 ?side4 A13.out).mono ?_); (case side1 => refine (Kd.R_reads' (e := 3) (base := w.heap.size) (ok := fun k_ => ((((some k_ ≠ (.slice Ao35 t257.length co35 : Value).ownBlock ∧ some k_ ≠ (.slice Ao20 t236.length co20 : Value).ownBlock) ∧ some k_ ≠ (.slice Ao21 t240.length co21 : Value).ownBlock) ∧ some k_ ≠ (.slice Ao24 t243.length co24 : Value).ownBlock) ∧ some k_ ≠ (.slice Ao27 t247.length co27 : Value).ownBlock)) (n := t253.length) (c := co31) ?_).2.2; exact (by (with_reducible repeat (first | apply Kd.R_alloc | apply Kd.R_drewN | apply Kd.R_drew)); exact (Kd.R_mono (Kd.R_far (p := ⟨gb260, 2, none⟩) (Kd.R_far (p := ⟨gb260, 1, none⟩) (Kd.R_far (p := ⟨gb260, 0, none⟩) (Kd.R_types HO255.out BK260.out (by decide)) (fun _ hk => hk.2) (.slice Ao31 t253.length co31)) (fun _ hk => hk.2) (.int .i64 t256)) (fun _ hk => hk.2) (.slice Ao35 t257.length co35)) (fun _ h_ => h_.1)))); (case side2 => exact (Kd.R_reads' HO255.out).2.1); (case side3 => refine (Kd.R_reads' (e := 3) (base := w.heap.size) (ok := fun k_ => ((((some k_ ≠ (.slice Ao31 t253.length co31 : Value).ownBlock ∧ some k_ ≠ (.slice Ao20 t236.length co20 : Value).ownBlock) ∧ some k_ ≠ (.slice Ao21 t240.length co21 : Value).ownBlock) ∧ some k_ ≠ (.slice Ao24 t243.length co24 : Value).ownBlock) ∧ some k_ ≠ (.slice Ao27 t247.length co27 : Value).ownBlock)) (n := t257.length) (c := co35) ?_).2.2; exact (by (with_reducible repeat (first | apply Kd.R_alloc | apply Kd.R_drewN | apply Kd.R_drew)); exact (Kd.R_mono (Kd.R_far (p := ⟨gb260, 2, none⟩) (Kd.R_far (p := ⟨gb260, 1, none⟩) (Kd.R_far (p := ⟨gb260, 0, none⟩) (Kd.R_types HO259.out BK260.out (by decide)) (fun _ hk => hk.2) (.slice Ao31 t253.length co31)) (fun _ hk => hk.2) (.int .i64 t256)) (fun _ hk => hk.2) (.slice Ao35 t257.length co35)) (fun _ h_ => h_.1)))); (case side4 => exact (Kd.R_reads' HO259.out).2.1); rintro e w36 ⟨v262, v266, rfl, ho0, ho1, hb⟩; refine ⟨_, rfl, ?_⟩; have n0_ := Aside0.mk (Kd.R_mono (Kd.R_told (Kd.R_told (Kd.R_old (by (with_reducible repeat (first | apply Kd.R_alloc | apply Kd.R_drewN | apply Kd.R_drew)); exact (Kd.R_mono (Kd.R_far (p := ⟨gb260, 2, none⟩) (Kd.R_far (p := ⟨gb260, 1, none⟩) (Kd.R_far (p := ⟨gb260, 0, none⟩) (Kd.R_types HO238.out BK260.out (by decide)) (fun _ hk => hk.2) (.slice Ao31 t253.length co31)) (fun _ hk => hk.2) (.int .i64 t256)) (fun _ hk => hk.2) (.slice Ao35 t257.length co35)) (fun _ h_ => h_.1))) hb) (Kd.R_base ho0)) (Kd.R_base ho1)) (fun _ h_ => h_.1)); have n1_ := Aside0.mk (Kd.R_mono (Kd.R_told (Kd.R_told (Kd.R_old (by (with_reducible repeat (first | apply Kd.R_alloc | apply Kd.R_drewN | apply Kd.R_drew)); exact (Kd.R_mono (Kd.R_far (p := ⟨gb260, 2, none⟩) (Kd.R_far (p := ⟨gb260, 1, none⟩) (Kd.R_far (p := ⟨gb260, 0, none⟩) (Kd.R_types HO242.out BK260.out (by decide)) (fun _ hk => hk.2) (.slice Ao31 t253.length co31)) (fun _ hk => hk.2) (.int .i64 t256)) (fun _ hk => hk.2) (.slice Ao35 t257.length co35)) (fun _ h_ => h_.1))) hb) (Kd.R_base ho0)) (Kd.R_base ho1)) (fun _ h_ => h_.1)); have n2_ := Aside0.mk (Kd.R_mono (Kd.R_told (Kd.R_told (Kd.R_old (by (with_reducible repeat (first | apply Kd.R_alloc | apply Kd.R_drewN | apply Kd.R_drew)); exact (Kd.R_mono (Kd.R_far (p := ⟨gb260, 2, none⟩) (Kd.R_far (p := ⟨gb260, 1, none⟩) (Kd.R_far (p := ⟨gb260, 0, none⟩) (Kd.R_types HO245.out BK260.out (by decide)) (fun _ hk => hk.2) (.slice Ao31 t253.length co31)) (fun _ hk => hk.2) (.int .i64 t256)) (fun _ hk => hk.2) (.slice Ao35 t257.length co35)) (fun _ h_ => h_.1))) hb) (Kd.R_base ho0)) (Kd.R_base ho1)) (fun _ h_ => h_.1)); have n3_ := Aside0.mk (Kd.Q_mono (Kd.Q_told (Kd.Q_told (Kd.Q_old (by (with_reducible repeat (first | apply Kd.Q_alloc | apply Kd.Q_drewN | apply Kd.Q_drew)); exact (Kd.Q_mono (Kd.Q_far (p := ⟨gb260, 2, none⟩) (Kd.Q_far (p := ⟨gb260, 1, none⟩) (Kd.Q_far (p := ⟨gb260, 0, none⟩) (Kd.Q_types HO249.out BK260.out (by decide)) (fun _ hk => hk.2) (.slice Ao31 t253.length co31)) (fun _ hk => hk.2) (.int .i64 t256)) (fun _ hk => hk.2) (.slice Ao35 t257.length co35)) (fun _ h_ => h_.1))) hb) (Kd.R_base ho0)) (Kd.R_base ho1)) (fun _ h_ => h_.1)); have n4_ := Aside0.mk (Kd.R_mono (Kd.R_told (Kd.R_told (Kd.R_old (by (with_reducible repeat (first | apply Kd.R_alloc | apply Kd.R_drewN | apply Kd.R_drew)); exact (Kd.R_mono (Kd.R_far (p := ⟨gb260, 2, none⟩) (Kd.R_far (p := ⟨gb260, 1, none⟩) (Kd.R_far (p := ⟨gb260, 0, none⟩) (Kd.R_types HO255.out BK260.out (by decide)) (fun _ hk => hk.2) (.slice Ao31 t253.length co31)) (fun _ hk => hk.2) (.int .i64 t256)) (fun _ hk => hk.2) (.slice Ao35 t257.length co35)) (fun _ h_ => h_.1))) hb) (Kd.R_base ho0)) (Kd.R_base ho1)) (fun _ h_ => h_.1)); have n5_ := Aside0.mk (Kd.R_mono (Kd.R_told (Kd.R_told (Kd.R_old (by (with_reducible repeat (first | apply Kd.R_alloc | apply Kd.R_drewN | apply Kd.R_drew)); exact (Kd.R_mono (Kd.R_far (p := ⟨gb260, 2, none⟩) (Kd.R_far (p := ⟨gb260, 1, none⟩) (Kd.R_far (p := ⟨gb260, 0, none⟩) (Kd.R_types HO259.out BK260.out (by decide)) (fun _ hk => hk.2) (.slice Ao31 t253.length co31)) (fun _ hk => hk.2) (.int .i64 t256)) (fun _ hk => hk.2) (.slice Ao35 t257.length co35)) (fun _ h_ => h_.1))) hb) (Kd.R_base ho0)) (Kd.R_base ho1)) (fun _ h_ => h_.1)); have n6_ := Aside0.mk (Kd.R_lower (Kd.R_new' (Kd.R_new' (Kd.R_new' (Kd.R_new' (Kd.R_new' (Kd.R_new' ho0 (Kd.R_lt (by (with_reducible repeat (first | apply Kd.R_alloc | apply Kd.R_drewN | apply Kd.R_drew)); exact (Kd.R_mono (Kd.R_far (p := ⟨gb260, 2, none⟩) (Kd.R_far (p := ⟨gb260, 1, none⟩) (Kd.R_far (p := ⟨gb260, 0, none⟩) (Kd.R_types HO238.out BK260.out (by decide)) (fun _ hk => hk.2) (.slice Ao31 t253.length co31)) (fun _ hk => hk.2) (.int .i64 t256)) (fun _ hk => hk.2) (.slice Ao35 t257.length co35)) (fun _ h_ => h_.1))))) (Kd.R_lt (by (with_reducible repeat (first | apply Kd.R_alloc | apply Kd.R_drewN | apply Kd.R_drew)); exact (Kd.R_mono (Kd.R_far (p := ⟨gb260, 2, none⟩) (Kd.R_far (p := ⟨gb260, 1, none⟩) (Kd.R_far (p := ⟨gb260, 0, none⟩) (Kd.R_types HO242.out BK260.out (by decide)) (fun _ hk => hk.2) (.slice Ao31 t253.length co31)) (fun _ hk => hk.2) (.int .i64 t256)) (fun _ hk => hk.2) (.slice Ao35 t257.length co35)) (fun _ h_ => h_.1))))) (Kd.R_lt (by (with_reducible repeat (first | apply Kd.R_alloc | apply Kd.R_drewN | apply Kd.R_drew)); exact (Kd.R_mono (Kd.R_far (p := ⟨gb260, 2, none⟩) (Kd.R_far (p := ⟨gb260, 1, none⟩) (Kd.R_far (p := ⟨gb260, 0, none⟩) (Kd.R_types HO245.out BK260.out (by decide)) (fun _ hk => hk.2) (.slice Ao31 t253.length co31)) (fun _ hk => hk.2) (.int .i64 t256)) (fun _ hk => hk.2) (.slice Ao35 t257.length co35)) (fun _ h_ => h_.1))))) (Kd.Q_lt (by (with_reducible repeat (first | apply Kd.Q_alloc | apply Kd.Q_drewN | apply Kd.Q_drew)); exact (Kd.Q_mono (Kd.Q_far (p := ⟨gb260, 2, none⟩) (Kd.Q_far (p := ⟨gb260, 1, none⟩) (Kd.Q_far (p := ⟨gb260, 0, none⟩) (Kd.Q_types HO249.out BK260.out (by decide)) (fun _ hk => hk.2) (.slice Ao31 t253.length co31)) (fun _ hk => hk.2) (.int .i64 t256)) (fun _ hk => hk.2) (.slice Ao35 t257.length co35)) (fun _ h_ => h_.1))))) (Kd.R_lt (by (with_reducible repeat (first | apply Kd.R_alloc | apply Kd.R_drewN | apply Kd.R_drew)); exact (Kd.R_mono (Kd.R_far (p := ⟨gb260, 2, none⟩) (Kd.R_far (p := ⟨gb260, 1, none⟩) (Kd.R_far (p := ⟨gb260, 0, none⟩) (Kd.R_types HO255.out BK260.out (by decide)) (fun _ hk => hk.2) (.slice Ao31 t253.length co31)) (fun _ hk => hk.2) (.int .i64 t256)) (fun _ hk => hk.2) (.slice Ao35 t257.length co35)) (fun _ h_ => h_.1))))) (Kd.R_lt (by (with_reducible repeat (first | apply Kd.R_alloc | apply Kd.R_drewN | apply Kd.R_drew)); exact (Kd.R_mono (Kd.R_far (p := ⟨gb260, 2, none⟩) (Kd.R_far (p := ⟨gb260, 1, none⟩) (Kd.R_far (p := ⟨gb260, 0, none⟩) (Kd.R_types HO259.out BK260.out (by decide)) (fun _ hk => hk.2) (.slice Ao31 t253.length co31)) (fun _ hk => hk.2) (.int .i64 t256)) (fun _ hk => hk.2) (.slice Ao35 t257.length co35)) (fun _ h_ => h_.1))))) (below_size (by repeat (first | (with_reducible first | exact HB.out | apply below_alloc | apply pw_below_drewN | apply below_drew1 | refine below_set ?_ GE234.out | refine below_set ?_ GE252.out | refine below_set ?_ GE260.out) | exact HB.out)))); have n7_ := Aside0.mk (Kd.R_lower (Kd.R_new' (Kd.R_new' (Kd.R_new' (Kd.R_new' (Kd.R_new' (Kd.R_new' ho1 (Kd.R_lt (by (with_reducible repeat (first | apply Kd.R_alloc | apply Kd.R_drewN | apply Kd.R_drew)); exact (Kd.R_mono (Kd.R_far (p := ⟨gb260, 2, none⟩) (Kd.R_far (p := ⟨gb260, 1, none⟩) (Kd.R_far (p := ⟨gb260, 0, none⟩) (Kd.R_types HO238.out BK260.out (by decide)) (fun _ hk => hk.2) (.slice Ao31 t253.length co31)) (fun _ hk => hk.2) (.int .i64 t256)) (fun _ hk => hk.2) (.slice Ao35 t257.length co35)) (fun _ h_ => h_.1))))) (Kd.R_lt (by (with_reducible repeat (first | apply Kd.R_alloc | apply Kd.R_drewN | apply Kd.R_drew)); exact (Kd.R_mono (Kd.R_far (p := ⟨gb260, 2, none⟩) (Kd.R_far (p := ⟨gb260, 1, none⟩) (Kd.R_far (p := ⟨gb260, 0, none⟩) (Kd.R_types HO242.out BK260.out (by decide)) (fun _ hk => hk.2) (.slice Ao31 t253.length co31)) (fun _ hk => hk.2) (.int .i64 t256)) (fun _ hk => hk.2) (.slice Ao35 t257.length co35)) (fun _ h_ => h_.1))))) (Kd.R_lt (by (with_reducible repeat (first | apply Kd.R_alloc | apply Kd.R_drewN | apply Kd.R_drew)); exact (Kd.R_mono (Kd.R_far (p := ⟨gb260, 2, none⟩) (Kd.R_far (p := ⟨gb260, 1, none⟩) (Kd.R_far (p := ⟨gb260, 0, none⟩) (Kd.R_types HO245.out BK260.out (by decide)) (fun _ hk => hk.2) (.slice Ao31 t253.length co31)) (fun _ hk => hk.2) (.int .i64 t256)) (fun _ hk => hk.2) (.slice Ao35 t257.length co35)) (fun _ h_ => h_.1))))) (Kd.Q_lt (by (with_reducible repeat (first | apply Kd.Q_alloc | apply Kd.Q_drewN | apply Kd.Q_drew)); exact (Kd.Q_mono (Kd.Q_far (p := ⟨gb260, 2, none⟩) (Kd.Q_far (p := ⟨gb260, 1, none⟩) (Kd.Q_far (p := ⟨gb260, 0, none⟩) (Kd.Q_types HO249.out BK260.out (by decide)) (fun _ hk => hk.2) (.slice Ao31 t253.length co31)) (fun _ hk => hk.2) (.int .i64 t256)) (fun _ hk => hk.2) (.slice Ao35 t257.length co35)) (fun _ h_ => h_.1))))) (Kd.R_lt (by (with_reducible repeat (first | apply Kd.R_alloc | apply Kd.R_drewN | apply Kd.R_drew)); exact (Kd.R_mono (Kd.R_far (p := ⟨gb260, 2, none⟩) (Kd.R_far (p := ⟨gb260, 1, none⟩) (Kd.R_far (p := ⟨gb260, 0, none⟩) (Kd.R_types HO255.out BK260.out (by decide)) (fun _ hk => hk.2) (.slice Ao31 t253.length co31)) (fun _ hk => hk.2) (.int .i64 t256)) (fun _ hk => hk.2) (.slice Ao35 t257.length co35)) (fun _ h_ => h_.1))))) (Kd.R_lt (by (with_reducible repeat (first | apply Kd.R_alloc | apply Kd.R_drewN | apply Kd.R_drew)); exact (Kd.R_mono (Kd.R_far (p := ⟨gb260, 2, none⟩) (Kd.R_far (p := ⟨gb260, 1, none⟩) (Kd.R_far (p := ⟨gb260, 0, none⟩) (Kd.R_types HO259.out BK260.out (by decide)) (fun _ hk => hk.2) (.slice Ao31 t253.length co31)) (fun _ hk => hk.2) (.int .i64 t256)) (fun _ hk => hk.2) (.slice Ao35 t257.length co35)) (fun _ h_ => h_.1))))) (below_size (by repeat (first | (with_reducible first | exact HB.out | apply below_alloc | apply pw_below_drewN | apply below_drew1 | refine below_set ?_ GE234.out | refine below_set ?_ GE252.out | refine below_set ?_ GE260.out) | exact HB.out)))); have n8_ := Aside0.mk (blk_below (g := gb234) (o := .cells #[.slice A0_0 l0_0.length c0_0, .int .i64 a0_1, .slice A0_2 l0_2.length c0_2] 36 (0, 0)) (by (with_reducible repeat (first | refine blk_drewN ?_ _ | refine blk_drew ?_ | refine blk_alloc ?_ _)); refine blk_far ?_ NB234_260.out _; (with_reducible repeat (first | refine blk_drewN ?_ _ | refine blk_drew ?_ | refine blk_alloc ?_ _)); refine blk_far ?_ NB234_260.out _; (with_reducible repeat (first | refine blk_drewN ?_ _ | refine blk_drew ?_ | refine blk_alloc ?_ _)); refine blk_far ?_ NB234_260.out _; (with_reducible repeat (first | refine blk_drewN ?_ _ | refine blk_drew ?_ | refine blk_alloc ?_ _)); exact BK234.out) hb); have n9_ := Aside0.mk (blk_below (g := gb252) (o := .cells #[.slice Ao24 t243.length co24, .int .i64 t246, .slice Ao27 t247.length co27] 26 (0, 0)) (by (with_reducible repeat (first | refine blk_drewN ?_ _ | refine blk_drew ?_ | refine blk_alloc ?_ _)); refine blk_far ?_ NB252_260.out _; (with_reducible repeat (first | refine blk_drewN ?_ _ | refine blk_drew ?_ | refine blk_alloc ?_ _)); refine blk_far ?_ NB252_260.out _; (with_reducible repeat (first | refine blk_drewN ?_ _ | refine blk_drew ?_ | refine blk_alloc ?_ _)); refine blk_far ?_ NB252_260.out _; (with_reducible repeat (first | refine blk_drewN ?_ _ | refine blk_drew ?_ | refine blk_alloc ?_ _)); exact BK252.out) hb); have n10_ := Aside0.mk (blk_below (g := gb260) (o := .cells #[.slice Ao31 t253.length co31, .int .i64 t256, .slice Ao35 t257.length co35] 26 (0, 0)) (by (with_reducible repeat (first | refine blk_drewN ?_ _ | refine blk_drew ?_ | refine blk_alloc ?_ _)); refine blk_put (cs := #[.slice Ao31 t253.length co31, .int .i64 t256, .slice none 0 0]) ?_ 2 _ rfl; (with_reducible repeat (first | refine blk_drewN ?_ _ | refine blk_drew ?_ | refine blk_alloc ?_ _)); refine blk_put (cs := #[.slice Ao31 t253.length co31, .int .i64 0, .slice none 0 0]) ?_ 1 _ rfl; (with_reducible repeat (first | refine blk_drewN ?_ _ | refine blk_drew ?_ | refine blk_alloc ?_ _)); refine blk_put (cs := #[.slice none 0 0, .int .i64 0, .slice none 0 0]) ?_ 0 _ rfl; (with_reducible repeat (first | refine blk_drewN ?_ _ | refine blk_drew ?_ | refine blk_alloc ?_ _)); exact BK260.out) hb); have n11_ := Aside0.mk (below_step (by repeat (first | (with_reducible first | exact HB.out | apply below_alloc | apply pw_below_drewN | apply below_drew1 | refine below_set ?_ GE234.out | refine below_set ?_ GE252.out | refine below_set ?_ GE260.out) | exact HB.out)) hb); clear HO238; clear HO242; clear HO245; clear HO249; clear HO255; clear HO259; clear BK234; clear BK252; clear BK260; clear HB; have HO238 := n0_; have HO242 := n1_; have HO245 := n2_; have HO249 := n3_; have HO255 := n4_; have HO259 := n5_; have HO263 := n6_; have HO267 := n7_; have BK234 := n8_; have BK252 := n9_; have BK260 := n10_; have HB := n11_; clear n0_ n1_ n2_ n3_ n4_ n5_ n6_ n7_ n8_ n9_ n10_ n11_; (try clear hb); (try clear hb2); (try clear hk); (try clear hi); (try clear ho0); (try clear ho1)) | ((with_reducible refine gate_dst (N := 14) rfl ?_); refine box_event ?hg (N := 14) ?hd (cs := #[.slice none 0 0, .int .i64 0, .slice none 0 0]) (t := 26) ?hr ?_; (case hd => rfl); (case hg => rfl); (case hr => first | (go_simp; done) | (go_simp; rfl)); intro gb270 hg w37 hbox hb; have n0_ := Aside0.mk (Kd.R_below (by (with_reducible repeat (first | apply Kd.R_alloc | apply Kd.R_drewN | apply Kd.R_drew)); exact HO238.out) hb); have n1_ := Aside0.mk (Kd.R_below (by (with_reducible repeat (first | apply Kd.R_alloc | apply Kd.R_drewN | apply Kd.R_drew)); exact HO242.out) hb); have n2_ := Aside0.mk (Kd.R_below (by (with_reducible repeat (first | apply Kd.R_alloc | apply Kd.R_drewN | apply Kd.R_drew)); exact HO245.out) hb); have n3_ := Aside0.mk (Kd.Q_below (by (with_reducible repeat (first | apply Kd.Q_alloc | apply Kd.Q_drewN | apply Kd.Q_drew)); exact HO249.out) hb); have n4_ := Aside0.mk (Kd.R_below (by (with_reducible repeat (first | apply Kd.R_alloc | apply Kd.R_drewN | apply Kd.R_drew)); exact HO255.out) hb); have n5_ := Aside0.mk (Kd.R_below (by (with_reducible repeat (first | apply Kd.R_alloc | apply Kd.R_drewN | apply Kd.R_drew)); exact HO259.out) hb); have n6_ := Aside0.mk (Kd.R_below (by (with_reducible repeat (first | apply Kd.R_alloc | apply Kd.R_drewN | apply Kd.R_drew)); exact HO263.out) hb); have n7_ := Aside0.mk (Kd.R_below (by (with_reducible repeat (first | apply Kd.R_alloc | apply Kd.R_drewN | apply Kd.R_drew)); exact HO267.out) hb); have n8_ := Aside0.mk (blk_below (g := gb234) (o := .cells #[.slice A0_0 l0_0.length c0_0, .int .i64 a0_1, .slice A0_2 l0_2.length c0_2] 36 (0, 0)) (by (with_reducible repeat (first | refine blk_drewN ?_ _ | refine blk_drew ?_ | refine blk_alloc ?_ _)); exact BK234.out) hb); have n9_ := Aside0.mk (blk_below (g := gb252) (o := .cells #[.slice Ao24 t243.length co24, .int .i64 t246, .slice Ao27 t247.length co27] 26 (0, 0)) (by (with_reducible repeat (first | refine blk_drewN ?_ _ | refine blk_drew ?_ | refine blk_alloc ?_ _)); exact BK252.out) hb); have n10_ := Aside0.mk (blk_below (g := gb260) (o := .cells #[.slice Ao31 t253.length co31, .int .i64 t256, .slice Ao35 t257.length co35] 26 (0, 0)) (by (with_reducible repeat (first | refine blk_drewN ?_ _ | refine blk_drew ?_ | refine blk_alloc ?_ _)); exact BK260.out) hb); have n11_ := Aside0.mk (below_step (by repeat (first | (with_reducible first | exact HB.out | apply below_alloc | apply pw_below_drewN | apply below_drew1 | refine below_set ?_ GE234.out | refine below_set ?_ GE252.out | refine below_set ?_ GE260.out) | exact HB.out)) hb); have n12_ := Aside0.mk (hbox); have n13_ := Aside0.mk ((by rw [hg]; exact (below_size (by repeat (first | (with_reducible first | exact HB.out | apply below_alloc | apply pw_below_drewN | apply below_drew1 | refine below_set ?_ GE234.out | refine below_set ?_ GE252.out | refine below_set ?_ GE260.out) | exact HB.out))) : w.heap.size ≤ gb270)); have n14_ := Aside0.mk ((by rw [hg]; exact (below_size (by repeat (first | (with_reducible first | exact HB.out | apply below_alloc | apply pw_below_drewN | apply below_drew1 | refine below_set ?_ GE234.out | refine below_set ?_ GE252.out | refine below_set ?_ GE260.out) | exact HB.out))) : w.heap.size ≤ gb270)); have n15_ := Aside0.mk ((by rw [hg]; exact Nat.ne_of_lt (blk_lt (g := gb234) (o := .cells #[.slice A0_0 l0_0.length c0_0, .int .i64 a0_1, .slice A0_2 l0_2.length c0_2] 36 (0, 0)) (by (with_reducible repeat (first | refine blk_drewN ?_ _ | refine blk_drew ?_ | refine blk_alloc ?_ _)); exact BK234.out)) : gb234 ≠ gb270)); have n16_ := Aside0.mk ((by rw [hg]; exact Nat.ne_of_gt (blk_lt (g := gb234) (o := .cells #[.slice A0_0 l0_0.length c0_0, .int .i64 a0_1, .slice A0_2 l0_2.length c0_2] 36 (0, 0)) (by (with_reducible repeat (first | refine blk_drewN ?_ _ | refine blk_drew ?_ | refine blk_alloc ?_ _)); exact BK234.out)) : gb270 ≠ gb234)); have n17_ := Aside0.mk ((by rw [hg]; exact Nat.ne_of_lt (blk_lt (g := gb252) (o := .cells #[.slice Ao24 t243.length co24, .int .i64 t246, .slice Ao27 t247.length co27] 26 (0, 0)) (by (with_reducible repeat (first | refine blk_drewN ?_ _ | refine blk_drew ?_ | refine blk_alloc ?_ _)); exact BK252.out)) : gb252 ≠ gb270)); have n18_ := Aside0.mk ((by rw [hg]; exact Nat.ne_of_gt (blk_lt (g := gb252) (o := .cells #[.slice Ao24 t243.length co24, .int .i64 t246, .slice Ao27 t247.length co27] 26 (0, 0)) (by (with_reducible repeat (first | refine blk_drewN ?_ _ | refine blk_drew ?_ | refine blk_alloc ?_ _)); exact BK252.out)) : gb270 ≠ gb252)); have n19_ := Aside0.mk ((by rw [hg]; exact Nat.ne_of_lt (blk_lt (g := gb260) (o := .cells #[.slice Ao31 t253.length co31, .int .i64 t256, .slice Ao35 t257.length co35] 26 (0, 0)) (by (with_reducible repeat (first | refine blk_drewN ?_ _ | refine blk_drew ?_ | refine blk_alloc ?_ _)); exact BK260.out)) : gb260 ≠ gb270)); have n20_ := Aside0.mk ((by rw [hg]; exact Nat.ne_of_gt (blk_lt (g := gb260) (o := .cells #[.slice Ao31 t253.length co31, .int .i64 t256, .slice Ao35 t257.length co35] 26 (0, 0)) (by (with_reducible repeat (first | refine blk_drewN ?_ _ | refine blk_drew ?_ | refine blk_alloc ?_ _)); exact BK260.out)) : gb270 ≠ gb260)); clear HO238; clear HO242; clear HO245; clear HO249; clear HO255; clear HO259; clear HO263; clear HO267; clear BK234; clear BK252; clear BK260; clear HB; have HO238 := n0_; have HO242 := n1_; have HO245 := n2_; have HO249 := n3_; have HO255 := n4_; have HO259 := n5_; have HO263 := n6_; have HO267 := n7_; have BK234 := n8_; have BK252 := n9_; have BK260 := n10_; have HB := n11_; have BK270 := n12_; have GW270 := n13_; have GE270 := n14_; have NB234_270 := n15_; have NB270_234 := n16_; have NB252_270 := n17_; have NB270_252 := n18_; have NB260_270 := n19_; have NB270_260 := n20_; clear n0_ n1_ n2_ n3_ n4_ n5_ n6_ n7_ n8_ n9_ n10_ n11_ n12_ n13_ n14_ n15_ n16_ n17_ n18_ n19_ n20_; clear hb hbox hg; obtain ⟨Ao38, co38, eo38⟩ := Kd.R_slice HO263.out; subst eo38; have hnb39 := NB270_234.out; have hnc39 := NB234_270.out; have hnb40 := NB270_252.out; have hnc40 := NB252_270.out; have hnb41 := NB270_260.out; have hnc41 := NB260_270.out; have hcz42_0 : w37.cell? ⟨gb270, 0, none⟩ = some (.slice none 0 0) := (blk_cell BK270.out 0).trans rfl; have hcz42_1 : w37.cell? ⟨gb270, 1, none⟩ = some (.int .i64 0) := (blk_cell BK270.out 1).trans rfl; have hcz42_2 : w37.cell? ⟨gb270, 2, none⟩ = some (.slice none 0 0) := (blk_cell BK270.out 2).trans rfl; have hfz42_0 := blk_frozen BK270.out 0; have hfz42_1 := blk_frozen BK270.out 1; have hfz42_2 := blk_frozen BK270.out 2; obtain ⟨Ao43, co43, eo43⟩ := Kd.R_slice HO267.out; subst eo43))
    (try simp only [Act.put, List.setIfInBounds_toArray, List.set_cons_zero, List.set_cons_succ])
    go_cut [62] (fun v62 wc => ∃ (kq : Nat) (x62_13 : Bool), v62 = .bool x62_13 ∧ Aside0 (laws_FnExactDevDo.j0 kq a1 a2 a3 t250 t251 t268 t269 x62_13 l0_0 a0_1 l0_2 t243 t246 t247 t253 t256 t257 t261 t264 t265 = some true) ∧ Aside0 (kq ≤ k) ∧ Aside0 (Kd.R (Kd.int .i64) 3 wc w.heap.size (fun k_ => some k_ ≠ ((.slice Ao27 t247.length co27) : Value).ownBlock ∧ some k_ ≠ ((.slice Ao31 t253.length co31) : Value).ownBlock ∧ some k_ ≠ ((.slice Ao35 t257.length co35) : Value).ownBlock ∧ some k_ ≠ ((.slice Ao38 t261.length co38) : Value).ownBlock ∧ some k_ ≠ ((.slice Ao43 t265.length co43) : Value).ownBlock) (.slice Ao24 t243.length co24) t243) ∧ Aside0 (Kd.Q (Kd.int .i64) 3 wc w.heap.size (fun k_ => some k_ ≠ ((.slice Ao24 t243.length co24) : Value).ownBlock ∧ some k_ ≠ ((.slice Ao31 t253.length co31) : Value).ownBlock ∧ some k_ ≠ ((.slice Ao35 t257.length co35) : Value).ownBlock ∧ some k_ ≠ ((.slice Ao38 t261.length co38) : Value).ownBlock ∧ some k_ ≠ ((.slice Ao43 t265.length co43) : Value).ownBlock) (.slice Ao27 t247.length co27) t247) ∧ Aside0 (Kd.R (Kd.int .i64) 3 wc w.heap.size (fun k_ => some k_ ≠ ((.slice Ao24 t243.length co24) : Value).ownBlock ∧ some k_ ≠ ((.slice Ao27 t247.length co27) : Value).ownBlock ∧ some k_ ≠ ((.slice Ao35 t257.length co35) : Value).ownBlock ∧ some k_ ≠ ((.slice Ao38 t261.length co38) : Value).ownBlock ∧ some k_ ≠ ((.slice Ao43 t265.length co43) : Value).ownBlock) (.slice Ao31 t253.length co31) t253) ∧ Aside0 (Kd.R (Kd.int .i64) 3 wc w.heap.size (fun k_ => some k_ ≠ ((.slice Ao24 t243.length co24) : Value).ownBlock ∧ some k_ ≠ ((.slice Ao27 t247.length co27) : Value).ownBlock ∧ some k_ ≠ ((.slice Ao31 t253.length co31) : Value).ownBlock ∧ some k_ ≠ ((.slice Ao38 t261.length co38) : Value).ownBlock ∧ some k_ ≠ ((.slice Ao43 t265.length co43) : Value).ownBlock) (.slice Ao35 t257.length co35) t257) ∧ Aside0 (Kd.R (Kd.int .i64) 3 wc w.heap.size (fun k_ => some k_ ≠ ((.slice Ao24 t243.length co24) : Value).ownBlock ∧ some k_ ≠ ((.slice Ao27 t247.length co27) : Value).ownBlock ∧ some k_ ≠ ((.slice Ao31 t253.length co31) : Value).ownBlock ∧ some k_ ≠ ((.slice Ao35 t257.length co35) : Value).ownBlock ∧ some k_ ≠ ((.slice Ao43 t265.length co43) : Value).ownBlock) (.slice Ao38 t261.length co38) t261) ∧ Aside0 (Kd.R (Kd.int .i64) 3 wc w.heap.size (fun k_ => some k_ ≠ ((.slice Ao24 t243.length co24) : Value).ownBlock ∧ some k_ ≠ ((.slice Ao27 t247.length co27) : Value).ownBlock ∧ some k_ ≠ ((.slice Ao31 t253.length co31) : Value).ownBlock ∧ some k_ ≠ ((.slice Ao35 t257.length co35) : Value).ownBlock ∧ some k_ ≠ ((.slice Ao38 t261.length co38) : Value).ownBlock) (.slice Ao43 t265.length co43) t265) ∧ Aside0 (wc.heap[gb234]? = some (.cells #[(.slice A0_0 l0_0.length c0_0), .int .i64 a0_1, (.slice A0_2 l0_2.length c0_2)] 36 (0, 0))) ∧ Aside0 (wc.heap[gb252]? = some (.cells #[(.slice Ao24 t243.length co24), .int .i64 t246, (.slice Ao27 t247.length co27)] 26 (0, 0))) ∧ Aside0 (wc.heap[gb260]? = some (.cells #[(.slice Ao31 t253.length co31), .int .i64 t256, (.slice Ao35 t257.length co35)] 26 (0, 0))) ∧ Aside0 (wc.heap[gb270]? = some (.cells #[(.slice Ao38 t261.length co38), .int .i64 t264, (.slice Ao43 t265.length co43)] 26 (0, 0))) ∧ Aside0 (Below w.heap.size w wc))
    case first =>
      have H := HC14.out
      clear HC14
      replace H := Option.bind_eq_some_iff.mp H
      obtain ⟨t271, A440, H⟩ := H
      replace H : (if t271 = true then (if t268 = t250 then (laws_FnExactDevDo.j0 k a1 a2 a3 t250 t251 t268 t269 (t269 != t251) l0_0 a0_1 l0_2 t243 t246 t247 t253 t256 t257 t261 t264 t265) else (laws_FnExactDevDo.j0 k a1 a2 a3 t250 t251 t268 t269 true l0_0 a0_1 l0_2 t243 t246 t247 t253 t256 t257 t261 t264 t265)) else (laws_FnExactDevDo.j0 k a1 a2 a3 t250 t251 t268 t269 true l0_0 a0_1 l0_2 t243 t246 t247 t253 t256 t257 t261 t264 t265)) = some true := H
      have A44 := Aside0.mk A440
      clear A440
      by_cases c45 : t271 = true
      · subst c45
        have H1 : (if t268 = t250 then (laws_FnExactDevDo.j0 k a1 a2 a3 t250 t251 t268 t269 (t269 != t251) l0_0 a0_1 l0_2 t243 t246 t247 t253 t256 t257 t261 t264 t265) else (laws_FnExactDevDo.j0 k a1 a2 a3 t250 t251 t268 t269 true l0_0 a0_1 l0_2 t243 t246 t247 t253 t256 t257 t261 t264 t265)) = some true := by rw [if_pos rfl] at H; exact H
        clear H
        have H := H1
        clear H1
        by_cases c46 : t268 = t250
        · rw [if_pos c46] at H
          have c46b0 : (t268 == t250) = true := beq_iff_eq.mpr c46
          have c46b1 : (t268 != t250) = false := bne_eq_false_iff_eq.mpr c46
          clear c46
          (first | rw [c46b0] | (simp only [i64_w, i32_w]; rw [c46b0]) | skip)
          have H' := Aside0.mk H
          clear H
          have hnb47 := NB270_234.out
          have hnc47 := NB234_270.out
          have hnb48 := NB270_252.out
          have hnc48 := NB252_270.out
          have hnb49 := NB270_260.out
          have hnc49 := NB260_270.out
          have hcz50_0 : w37.cell? ⟨gb270, 0, none⟩ = some (.slice none 0 0) := (blk_cell BK270.out 0).trans rfl
          have hcz50_1 : w37.cell? ⟨gb270, 1, none⟩ = some (.int .i64 0) := (blk_cell BK270.out 1).trans rfl
          have hcz50_2 : w37.cell? ⟨gb270, 2, none⟩ = some (.slice none 0 0) := (blk_cell BK270.out 2).trans rfl
          have hfz50_0 := blk_frozen BK270.out 0
          have hfz50_1 := blk_frozen BK270.out 1
          have hfz50_2 := blk_frozen BK270.out 2
          have hnb51 := NB252_234.out
          have hnc51 := NB234_252.out
          have hnb52 := NB252_260.out
          have hnc52 := NB260_252.out
          have hcz53_0 : w37.cell? ⟨gb252, 0, none⟩ = some (.slice Ao24 t243.length co24) := (blk_cell BK252.out 0).trans rfl
          have hcz53_1 : w37.cell? ⟨gb252, 1, none⟩ = some (.int .i64 t246) := (blk_cell BK252.out 1).trans rfl
          have hcz53_2 : w37.cell? ⟨gb252, 2, none⟩ = some (.slice Ao27 t247.length co27) := (blk_cell BK252.out 2).trans rfl
          have hfz53_0 := blk_frozen BK252.out 0
          have hfz53_1 := blk_frozen BK252.out 1
          have hfz53_2 := blk_frozen BK252.out 2
          go_wp2_with (first | ((with_reducible refine gate_callee (f := 27) rfl ?_); refine goesL_ (some 51) rfl rfl Try.func27 (by kernel_rfl) rfl #[.agg #[.slice Ao38 t261.length co38, .int .i64 t264, .slice Ao43 t265.length co43], .agg #[.slice Ao24 t243.length co24, .int .i64 t246, .slice Ao27 t247.length co27]] rfl (by (try simp only [List.map_toArray, List.map_cons, List.map_nil]); first | done | rfl | (simp only [List.length_drop, List.length_take]; rfl)) ?_; (with_reducible refine (laws_eqDev.calls k _ _ t261 t264 _ _ t265 _ _ t243 t246 _ _ t247 true _ ?side1 ?side2 ?side3 ?side4 ?side5 ?side6 ?side7 ?side8 A44.out).mono ?_); (case side1 => refine (Kd.R_reads' (e := 3) (base := w.heap.size) (ok := fun k_ => ((((((some k_ ≠ (.slice Ao43 t265.length co43 : Value).ownBlock ∧ some k_ ≠ (.slice Ao20 t236.length co20 : Value).ownBlock) ∧ some k_ ≠ (.slice Ao21 t240.length co21 : Value).ownBlock) ∧ some k_ ≠ (.slice Ao24 t243.length co24 : Value).ownBlock) ∧ some k_ ≠ (.slice Ao27 t247.length co27 : Value).ownBlock) ∧ some k_ ≠ (.slice Ao31 t253.length co31 : Value).ownBlock) ∧ some k_ ≠ (.slice Ao35 t257.length co35 : Value).ownBlock)) (n := t261.length) (c := co38) ?_).2.2; exact (by (with_reducible repeat (first | apply Kd.R_alloc | apply Kd.R_drewN | apply Kd.R_drew)); exact (Kd.R_mono (Kd.R_far (p := ⟨gb270, 2, none⟩) (Kd.R_far (p := ⟨gb270, 1, none⟩) (Kd.R_far (p := ⟨gb270, 0, none⟩) (Kd.R_types HO263.out BK270.out (by decide)) (fun _ hk => hk.2) (.slice Ao38 t261.length co38)) (fun _ hk => hk.2) (.int .i64 t264)) (fun _ hk => hk.2) (.slice Ao43 t265.length co43)) (fun _ h_ => h_.1)))); (case side2 => exact (Kd.R_reads' HO263.out).2.1); (case side3 => refine (Kd.R_reads' (e := 3) (base := w.heap.size) (ok := fun k_ => ((((((some k_ ≠ (.slice Ao38 t261.length co38 : Value).ownBlock ∧ some k_ ≠ (.slice Ao20 t236.length co20 : Value).ownBlock) ∧ some k_ ≠ (.slice Ao21 t240.length co21 : Value).ownBlock) ∧ some k_ ≠ (.slice Ao24 t243.length co24 : Value).ownBlock) ∧ some k_ ≠ (.slice Ao27 t247.length co27 : Value).ownBlock) ∧ some k_ ≠ (.slice Ao31 t253.length co31 : Value).ownBlock) ∧ some k_ ≠ (.slice Ao35 t257.length co35 : Value).ownBlock)) (n := t265.length) (c := co43) ?_).2.2; exact (by (with_reducible repeat (first | apply Kd.R_alloc | apply Kd.R_drewN | apply Kd.R_drew)); exact (Kd.R_mono (Kd.R_far (p := ⟨gb270, 2, none⟩) (Kd.R_far (p := ⟨gb270, 1, none⟩) (Kd.R_far (p := ⟨gb270, 0, none⟩) (Kd.R_types HO267.out BK270.out (by decide)) (fun _ hk => hk.2) (.slice Ao38 t261.length co38)) (fun _ hk => hk.2) (.int .i64 t264)) (fun _ hk => hk.2) (.slice Ao43 t265.length co43)) (fun _ h_ => h_.1)))); (case side4 => exact (Kd.R_reads' HO267.out).2.1); (case side5 => refine (Kd.R_reads' (e := 3) (base := w.heap.size) (ok := fun k_ => ((((((some k_ ≠ (.slice Ao27 t247.length co27 : Value).ownBlock ∧ some k_ ≠ (.slice Ao20 t236.length co20 : Value).ownBlock) ∧ some k_ ≠ (.slice Ao21 t240.length co21 : Value).ownBlock) ∧ some k_ ≠ (.slice Ao31 t253.length co31 : Value).ownBlock) ∧ some k_ ≠ (.slice Ao35 t257.length co35 : Value).ownBlock) ∧ some k_ ≠ (.slice Ao38 t261.length co38 : Value).ownBlock) ∧ some k_ ≠ (.slice Ao43 t265.length co43 : Value).ownBlock)) (n := t243.length) (c := co24) ?_).2.2; exact (by (with_reducible repeat (first | apply Kd.R_alloc | apply Kd.R_drewN | apply Kd.R_drew)); exact (Kd.R_mono (Kd.R_far (p := ⟨gb270, 2, none⟩) (Kd.R_far (p := ⟨gb270, 1, none⟩) (Kd.R_far (p := ⟨gb270, 0, none⟩) (Kd.R_types HO245.out BK270.out (by decide)) (fun _ hk => hk.2) (.slice Ao38 t261.length co38)) (fun _ hk => hk.2) (.int .i64 t264)) (fun _ hk => hk.2) (.slice Ao43 t265.length co43)) (fun _ h_ => h_.1)))); (case side6 => exact (Kd.R_reads' HO245.out).2.1); (case side7 => refine (Kd.Q_reads' (e := 3) (base := w.heap.size) (ok := fun k_ => ((((((some k_ ≠ (.slice Ao24 t243.length co24 : Value).ownBlock ∧ some k_ ≠ (.slice Ao20 t236.length co20 : Value).ownBlock) ∧ some k_ ≠ (.slice Ao21 t240.length co21 : Value).ownBlock) ∧ some k_ ≠ (.slice Ao31 t253.length co31 : Value).ownBlock) ∧ some k_ ≠ (.slice Ao35 t257.length co35 : Value).ownBlock) ∧ some k_ ≠ (.slice Ao38 t261.length co38 : Value).ownBlock) ∧ some k_ ≠ (.slice Ao43 t265.length co43 : Value).ownBlock)) (n := t247.length) (c := co27) ?_).2.2; exact (by (with_reducible repeat (first | apply Kd.Q_alloc | apply Kd.Q_drewN | apply Kd.Q_drew)); exact (Kd.Q_mono (Kd.Q_far (p := ⟨gb270, 2, none⟩) (Kd.Q_far (p := ⟨gb270, 1, none⟩) (Kd.Q_far (p := ⟨gb270, 0, none⟩) (Kd.Q_types HO249.out BK270.out (by decide)) (fun _ hk => hk.2) (.slice Ao38 t261.length co38)) (fun _ hk => hk.2) (.int .i64 t264)) (fun _ hk => hk.2) (.slice Ao43 t265.length co43)) (fun _ h_ => h_.1)))); (case side8 => exact (Kd.Q_reads' HO249.out).2.1); rintro e w54 ⟨rfl, hb⟩; refine ⟨_, rfl, ?_⟩; have n0_ := Aside0.mk (Kd.R_below (by (with_reducible repeat (first | apply Kd.R_alloc | apply Kd.R_drewN | apply Kd.R_drew)); exact (Kd.R_mono (Kd.R_far (p := ⟨gb270, 2, none⟩) (Kd.R_far (p := ⟨gb270, 1, none⟩) (Kd.R_far (p := ⟨gb270, 0, none⟩) (Kd.R_types HO238.out BK270.out (by decide)) (fun _ hk => hk.2) (.slice Ao38 t261.length co38)) (fun _ hk => hk.2) (.int .i64 t264)) (fun _ hk => hk.2) (.slice Ao43 t265.length co43)) (fun _ h_ => h_.1))) hb); have n1_ := Aside0.mk (Kd.R_below (by (with_reducible repeat (first | apply Kd.R_alloc | apply Kd.R_drewN | apply Kd.R_drew)); exact (Kd.R_mono (Kd.R_far (p := ⟨gb270, 2, none⟩) (Kd.R_far (p := ⟨gb270, 1, none⟩) (Kd.R_far (p := ⟨gb270, 0, none⟩) (Kd.R_types HO242.out BK270.out (by decide)) (fun _ hk => hk.2) (.slice Ao38 t261.length co38)) (fun _ hk => hk.2) (.int .i64 t264)) (fun _ hk => hk.2) (.slice Ao43 t265.length co43)) (fun _ h_ => h_.1))) hb); have n2_ := Aside0.mk (Kd.R_below (by (with_reducible repeat (first | apply Kd.R_alloc | apply Kd.R_drewN | apply Kd.R_drew)); exact (Kd.R_mono (Kd.R_far (p := ⟨gb270, 2, none⟩) (Kd.R_far (p := ⟨gb270, 1, none⟩) (Kd.R_far (p := ⟨gb270, 0, none⟩) (Kd.R_types HO245.out BK270.out (by decide)) (fun _ hk => hk.2) (.slice Ao38 t261.length co38)) (fun _ hk => hk.2) (.int .i64 t264)) (fun _ hk => hk.2) (.slice Ao43 t265.length co43)) (fun _ h_ => h_.1))) hb); have n3_ := Aside0.mk (Kd.Q_below (by (with_reducible repeat (first | apply Kd.Q_alloc | apply Kd.Q_drewN | apply Kd.Q_drew)); exact (Kd.Q_mono (Kd.Q_far (p := ⟨gb270, 2, none⟩) (Kd.Q_far (p := ⟨gb270, 1, none⟩) (Kd.Q_far (p := ⟨gb270, 0, none⟩) (Kd.Q_types HO249.out BK270.out (by decide)) (fun _ hk => hk.2) (.slice Ao38 t261.length co38)) (fun _ hk => hk.2) (.int .i64 t264)) (fun _ hk => hk.2) (.slice Ao43 t265.length co43)) (fun _ h_ => h_.1))) hb); have n4_ := Aside0.mk (Kd.R_below (by (with_reducible repeat (first | apply Kd.R_alloc | apply Kd.R_drewN | apply Kd.R_drew)); exact (Kd.R_mono (Kd.R_far (p := ⟨gb270, 2, none⟩) (Kd.R_far (p := ⟨gb270, 1, none⟩) (Kd.R_far (p := ⟨gb270, 0, none⟩) (Kd.R_types HO255.out BK270.out (by decide)) (fun _ hk => hk.2) (.slice Ao38 t261.length co38)) (fun _ hk => hk.2) (.int .i64 t264)) (fun _ hk => hk.2) (.slice Ao43 t265.length co43)) (fun _ h_ => h_.1))) hb); have n5_ := Aside0.mk (Kd.R_below (by (with_reducible repeat (first | apply Kd.R_alloc | apply Kd.R_drewN | apply Kd.R_drew)); exact (Kd.R_mono (Kd.R_far (p := ⟨gb270, 2, none⟩) (Kd.R_far (p := ⟨gb270, 1, none⟩) (Kd.R_far (p := ⟨gb270, 0, none⟩) (Kd.R_types HO259.out BK270.out (by decide)) (fun _ hk => hk.2) (.slice Ao38 t261.length co38)) (fun _ hk => hk.2) (.int .i64 t264)) (fun _ hk => hk.2) (.slice Ao43 t265.length co43)) (fun _ h_ => h_.1))) hb); have n6_ := Aside0.mk (Kd.R_below (by (with_reducible repeat (first | apply Kd.R_alloc | apply Kd.R_drewN | apply Kd.R_drew)); exact (Kd.R_mono (Kd.R_far (p := ⟨gb270, 2, none⟩) (Kd.R_far (p := ⟨gb270, 1, none⟩) (Kd.R_far (p := ⟨gb270, 0, none⟩) (Kd.R_types HO263.out BK270.out (by decide)) (fun _ hk => hk.2) (.slice Ao38 t261.length co38)) (fun _ hk => hk.2) (.int .i64 t264)) (fun _ hk => hk.2) (.slice Ao43 t265.length co43)) (fun _ h_ => h_.1))) hb); have n7_ := Aside0.mk (Kd.R_below (by (with_reducible repeat (first | apply Kd.R_alloc | apply Kd.R_drewN | apply Kd.R_drew)); exact (Kd.R_mono (Kd.R_far (p := ⟨gb270, 2, none⟩) (Kd.R_far (p := ⟨gb270, 1, none⟩) (Kd.R_far (p := ⟨gb270, 0, none⟩) (Kd.R_types HO267.out BK270.out (by decide)) (fun _ hk => hk.2) (.slice Ao38 t261.length co38)) (fun _ hk => hk.2) (.int .i64 t264)) (fun _ hk => hk.2) (.slice Ao43 t265.length co43)) (fun _ h_ => h_.1))) hb); have n8_ := Aside0.mk (blk_below (g := gb234) (o := .cells #[.slice A0_0 l0_0.length c0_0, .int .i64 a0_1, .slice A0_2 l0_2.length c0_2] 36 (0, 0)) (by (with_reducible repeat (first | refine blk_drewN ?_ _ | refine blk_drew ?_ | refine blk_alloc ?_ _)); refine blk_far ?_ NB234_270.out _; (with_reducible repeat (first | refine blk_drewN ?_ _ | refine blk_drew ?_ | refine blk_alloc ?_ _)); refine blk_far ?_ NB234_270.out _; (with_reducible repeat (first | refine blk_drewN ?_ _ | refine blk_drew ?_ | refine blk_alloc ?_ _)); refine blk_far ?_ NB234_270.out _; (with_reducible repeat (first | refine blk_drewN ?_ _ | refine blk_drew ?_ | refine blk_alloc ?_ _)); exact BK234.out) hb); have n9_ := Aside0.mk (blk_below (g := gb252) (o := .cells #[.slice Ao24 t243.length co24, .int .i64 t246, .slice Ao27 t247.length co27] 26 (0, 0)) (by (with_reducible repeat (first | refine blk_drewN ?_ _ | refine blk_drew ?_ | refine blk_alloc ?_ _)); refine blk_far ?_ NB252_270.out _; (with_reducible repeat (first | refine blk_drewN ?_ _ | refine blk_drew ?_ | refine blk_alloc ?_ _)); refine blk_far ?_ NB252_270.out _; (with_reducible repeat (first | refine blk_drewN ?_ _ | refine blk_drew ?_ | refine blk_alloc ?_ _)); refine blk_far ?_ NB252_270.out _; (with_reducible repeat (first | refine blk_drewN ?_ _ | refine blk_drew ?_ | refine blk_alloc ?_ _)); exact BK252.out) hb); have n10_ := Aside0.mk (blk_below (g := gb260) (o := .cells #[.slice Ao31 t253.length co31, .int .i64 t256, .slice Ao35 t257.length co35] 26 (0, 0)) (by (with_reducible repeat (first | refine blk_drewN ?_ _ | refine blk_drew ?_ | refine blk_alloc ?_ _)); refine blk_far ?_ NB260_270.out _; (with_reducible repeat (first | refine blk_drewN ?_ _ | refine blk_drew ?_ | refine blk_alloc ?_ _)); refine blk_far ?_ NB260_270.out _; (with_reducible repeat (first | refine blk_drewN ?_ _ | refine blk_drew ?_ | refine blk_alloc ?_ _)); refine blk_far ?_ NB260_270.out _; (with_reducible repeat (first | refine blk_drewN ?_ _ | refine blk_drew ?_ | refine blk_alloc ?_ _)); exact BK260.out) hb); have n11_ := Aside0.mk (blk_below (g := gb270) (o := .cells #[.slice Ao38 t261.length co38, .int .i64 t264, .slice Ao43 t265.length co43] 26 (0, 0)) (by (with_reducible repeat (first | refine blk_drewN ?_ _ | refine blk_drew ?_ | refine blk_alloc ?_ _)); refine blk_put (cs := #[.slice Ao38 t261.length co38, .int .i64 t264, .slice none 0 0]) ?_ 2 _ rfl; (with_reducible repeat (first | refine blk_drewN ?_ _ | refine blk_drew ?_ | refine blk_alloc ?_ _)); refine blk_put (cs := #[.slice Ao38 t261.length co38, .int .i64 0, .slice none 0 0]) ?_ 1 _ rfl; (with_reducible repeat (first | refine blk_drewN ?_ _ | refine blk_drew ?_ | refine blk_alloc ?_ _)); refine blk_put (cs := #[.slice none 0 0, .int .i64 0, .slice none 0 0]) ?_ 0 _ rfl; (with_reducible repeat (first | refine blk_drewN ?_ _ | refine blk_drew ?_ | refine blk_alloc ?_ _)); exact BK270.out) hb); have n12_ := Aside0.mk (below_step (by repeat (first | (with_reducible first | exact HB.out | apply below_alloc | apply pw_below_drewN | apply below_drew1 | refine below_set ?_ GE234.out | refine below_set ?_ GE252.out | refine below_set ?_ GE260.out | refine below_set ?_ GE270.out) | exact HB.out)) hb); clear HO238; clear HO242; clear HO245; clear HO249; clear HO255; clear HO259; clear HO263; clear HO267; clear BK234; clear BK252; clear BK260; clear BK270; clear HB; have HO238 := n0_; have HO242 := n1_; have HO245 := n2_; have HO249 := n3_; have HO255 := n4_; have HO259 := n5_; have HO263 := n6_; have HO267 := n7_; have BK234 := n8_; have BK252 := n9_; have BK260 := n10_; have BK270 := n11_; have HB := n12_; clear n0_ n1_ n2_ n3_ n4_ n5_ n6_ n7_ n8_ n9_ n10_ n11_ n12_; (try clear hb); (try clear hb2); (try clear hk); (try clear hi)))
          go_meet
          case rel => exact ⟨_, ((t269 != t251)), (by first | rfl | (simp; done) | (simp [*]; done)), H', ⟨by first | omega | exact Nat.le_refl _⟩, ⟨by (with_reducible repeat (first | apply Kd.R_alloc | apply Kd.R_drewN | apply Kd.R_drew)); exact Kd.R_mono HO245.out (fun _ hk => ⟨hk.1.1.1.1.1.1, ⟨hk.1.1.1.2, ⟨hk.1.1.2, ⟨hk.1.2, hk.2⟩⟩⟩⟩)⟩, ⟨by (with_reducible repeat (first | apply Kd.Q_alloc | apply Kd.Q_drewN | apply Kd.Q_drew)); exact Kd.Q_mono HO249.out (fun _ hk => ⟨hk.1.1.1.1.1.1, ⟨hk.1.1.1.2, ⟨hk.1.1.2, ⟨hk.1.2, hk.2⟩⟩⟩⟩)⟩, ⟨by (with_reducible repeat (first | apply Kd.R_alloc | apply Kd.R_drewN | apply Kd.R_drew)); exact Kd.R_mono HO255.out (fun _ hk => ⟨hk.1.1.1.2, ⟨hk.1.1.2, ⟨hk.1.1.1.1.1.1, ⟨hk.1.2, hk.2⟩⟩⟩⟩)⟩, ⟨by (with_reducible repeat (first | apply Kd.R_alloc | apply Kd.R_drewN | apply Kd.R_drew)); exact Kd.R_mono HO259.out (fun _ hk => ⟨hk.1.1.1.2, ⟨hk.1.1.2, ⟨hk.1.1.1.1.1.1, ⟨hk.1.2, hk.2⟩⟩⟩⟩)⟩, ⟨by (with_reducible repeat (first | apply Kd.R_alloc | apply Kd.R_drewN | apply Kd.R_drew)); exact Kd.R_mono HO263.out (fun _ hk => ⟨hk.1.1.1.2, ⟨hk.1.1.2, ⟨hk.1.2, ⟨hk.2, hk.1.1.1.1.1.1⟩⟩⟩⟩)⟩, ⟨by (with_reducible repeat (first | apply Kd.R_alloc | apply Kd.R_drewN | apply Kd.R_drew)); exact Kd.R_mono HO267.out (fun _ hk => ⟨hk.1.1.1.2, ⟨hk.1.1.2, ⟨hk.1.2, ⟨hk.2, hk.1.1.1.1.1.1⟩⟩⟩⟩)⟩, ⟨by (with_reducible repeat (first | refine blk_drewN ?_ _ | refine blk_drew ?_ | refine blk_alloc ?_ _)); exact BK234.out⟩, ⟨by (with_reducible repeat (first | refine blk_drewN ?_ _ | refine blk_drew ?_ | refine blk_alloc ?_ _)); exact BK252.out⟩, ⟨by (with_reducible repeat (first | refine blk_drewN ?_ _ | refine blk_drew ?_ | refine blk_alloc ?_ _)); exact BK260.out⟩, ⟨by (with_reducible repeat (first | refine blk_drewN ?_ _ | refine blk_drew ?_ | refine blk_alloc ?_ _)); exact BK270.out⟩, ⟨by repeat (first | (with_reducible first | exact HB.out | apply below_alloc | apply pw_below_drewN | apply below_drew1 | refine below_set ?_ GE234.out | refine below_set ?_ GE252.out | refine below_set ?_ GE260.out | refine below_set ?_ GE270.out) | exact HB.out)⟩⟩
        · rw [if_neg c46] at H
          have c46b0 : (t268 == t250) = false := beq_eq_false_iff_ne.mpr c46
          have c46b1 : (t268 != t250) = true := bne_iff_ne.mpr c46
          (first | rw [c46b0] | (simp only [i64_w, i32_w]; rw [c46b0]) | skip)
          exact absurd H (by cases k <;> simp [laws_FnExactDevDo.j0])
      · replace c45 := Bool.eq_false_iff.mpr c45
        subst c45
        have H1 : (laws_FnExactDevDo.j0 k a1 a2 a3 t250 t251 t268 t269 true l0_0 a0_1 l0_2 t243 t246 t247 t253 t256 t257 t261 t264 t265) = some true := by rw [if_neg (show ¬ (false = true) by decide)] at H; exact H
        clear H
        have H := H1
        clear H1
        exact absurd H (by cases k <;> simp [laws_FnExactDevDo.j0])
    case rest =>
      clear HC14
      try clear c1
      try clear c2
      try clear p2
      try clear c3
      try clear c4
      try clear c5
      try clear c6
      try clear c6b0
      try clear c12
      try clear c25
      try clear c27
      try clear c30
      try clear c32
      try clear c33
      try clear c39
      try clear c40
      try clear c41
      try clear c42
      try clear c45
      try clear c46
      try clear c46b0
      try clear c46b1
      try clear c47
      try clear c48
      try clear c49
      try clear c51
      try clear c52
      try clear hcz16_0
      try clear hcz16_1
      try clear hcz16_2
      try clear hcz18_0
      try clear hcz18_1
      try clear hcz18_2
      try clear hcz26_0
      try clear hcz26_1
      try clear hcz26_2
      try clear hcz28_0
      try clear hcz28_1
      try clear hcz28_2
      try clear hcz34_0
      try clear hcz34_1
      try clear hcz34_2
      try clear hcz42_0
      try clear hcz42_1
      try clear hcz42_2
      try clear hcz50_0
      try clear hcz50_1
      try clear hcz50_2
      try clear hcz53_0
      try clear hcz53_1
      try clear hcz53_2
      try clear hcz8_0
      try clear hcz8_1
      try clear hcz8_2
      try clear hfz16_0
      try clear hfz16_1
      try clear hfz16_2
      try clear hfz18_0
      try clear hfz18_1
      try clear hfz18_2
      try clear hfz26_0
      try clear hfz26_1
      try clear hfz26_2
      try clear hfz28_0
      try clear hfz28_1
      try clear hfz28_2
      try clear hfz34_0
      try clear hfz34_1
      try clear hfz34_2
      try clear hfz42_0
      try clear hfz42_1
      try clear hfz42_2
      try clear hfz50_0
      try clear hfz50_1
      try clear hfz50_2
      try clear hfz53_0
      try clear hfz53_1
      try clear hfz53_2
      try clear hfz8_0
      try clear hfz8_1
      try clear hfz8_2
      obtain ⟨kq, x62_13, rfl, HA, HJ13, HO_253000, HO_253002, HO_261000, HO_261002, HO_271000, HO_271002, BK234, BK252, BK260, BK270, HB⟩ := hcut
      cases kq with
      | zero => exact absurd HA.out (by simp [laws_FnExactDevDo.j0])
      | succ kj13 =>
        have H := HA.out
        clear HA
        simp only [laws_FnExactDevDo.j0] at H
        by_cases c55 : x62_13 = true
        · subst c55
          have H1 : (some false) = some true := by rw [if_pos rfl] at H; exact H
          clear H
          have H := H1
          clear H1
          exact absurd (Option.some.inj H) (by decide)
        · replace c55 := Bool.eq_false_iff.mpr c55
          subst c55
          have H1 : ((laws_toDev.f kj13 l0_0 a0_1 l0_2).bind fun bt272 => ((laws_eqDev.f kj13 t253 t256 t257 bt272.1 bt272.2.1 bt272.2.2).bind fun t279 => (if t279 = true then ((laws_markDev.f kj13 t253 t256 t257 1).bind fun bt280 => (if bt280.1 < 0 then (laws_FnExactDevDo.j1 kj13 a1 a2 a3 t250 t251 true l0_0 a0_1 l0_2 t243 t246 t247 t261 t264 t265) else ((laws_eqDev.f kj13 t261 t264 t265 t243 t246 t247).bind fun t283 => (if t283 = true then (if t268 = t250 then (laws_FnExactDevDo.j1 kj13 a1 a2 a3 t250 t251 (t269 != t251) l0_0 a0_1 l0_2 t243 t246 t247 t261 t264 t265) else (laws_FnExactDevDo.j1 kj13 a1 a2 a3 t250 t251 true l0_0 a0_1 l0_2 t243 t246 t247 t261 t264 t265)) else (laws_FnExactDevDo.j1 kj13 a1 a2 a3 t250 t251 true l0_0 a0_1 l0_2 t243 t246 t247 t261 t264 t265))))) else (some false)))) = some true := by rw [if_neg (show ¬ (false = true) by decide)] at H; exact H
          clear H
          have H := H1
          clear H1
          replace H := Option.bind_eq_some_iff.mp H
          obtain ⟨⟨t272, t275, t276⟩, A560, H⟩ := H
          replace H : ((laws_eqDev.f kj13 t253 t256 t257 t272 t275 t276).bind fun t279 => (if t279 = true then ((laws_markDev.f kj13 t253 t256 t257 1).bind fun bt280 => (if bt280.1 < 0 then (laws_FnExactDevDo.j1 kj13 a1 a2 a3 t250 t251 true l0_0 a0_1 l0_2 t243 t246 t247 t261 t264 t265) else ((laws_eqDev.f kj13 t261 t264 t265 t243 t246 t247).bind fun t283 => (if t283 = true then (if t268 = t250 then (laws_FnExactDevDo.j1 kj13 a1 a2 a3 t250 t251 (t269 != t251) l0_0 a0_1 l0_2 t243 t246 t247 t261 t264 t265) else (laws_FnExactDevDo.j1 kj13 a1 a2 a3 t250 t251 true l0_0 a0_1 l0_2 t243 t246 t247 t261 t264 t265)) else (laws_FnExactDevDo.j1 kj13 a1 a2 a3 t250 t251 true l0_0 a0_1 l0_2 t243 t246 t247 t261 t264 t265))))) else (some false))) = some true := H
          have A56 := Aside0.mk A560
          clear A560
          replace H := Option.bind_eq_some_iff.mp H
          obtain ⟨t279, A570, H⟩ := H
          replace H : (if t279 = true then ((laws_markDev.f kj13 t253 t256 t257 1).bind fun bt280 => (if bt280.1 < 0 then (laws_FnExactDevDo.j1 kj13 a1 a2 a3 t250 t251 true l0_0 a0_1 l0_2 t243 t246 t247 t261 t264 t265) else ((laws_eqDev.f kj13 t261 t264 t265 t243 t246 t247).bind fun t283 => (if t283 = true then (if t268 = t250 then (laws_FnExactDevDo.j1 kj13 a1 a2 a3 t250 t251 (t269 != t251) l0_0 a0_1 l0_2 t243 t246 t247 t261 t264 t265) else (laws_FnExactDevDo.j1 kj13 a1 a2 a3 t250 t251 true l0_0 a0_1 l0_2 t243 t246 t247 t261 t264 t265)) else (laws_FnExactDevDo.j1 kj13 a1 a2 a3 t250 t251 true l0_0 a0_1 l0_2 t243 t246 t247 t261 t264 t265))))) else (some false)) = some true := H
          have A57 := Aside0.mk A570
          clear A570
          by_cases c58 : t279 = true
          · subst c58
            have H1 : ((laws_markDev.f kj13 t253 t256 t257 1).bind fun bt280 => (if bt280.1 < 0 then (laws_FnExactDevDo.j1 kj13 a1 a2 a3 t250 t251 true l0_0 a0_1 l0_2 t243 t246 t247 t261 t264 t265) else ((laws_eqDev.f kj13 t261 t264 t265 t243 t246 t247).bind fun t283 => (if t283 = true then (if t268 = t250 then (laws_FnExactDevDo.j1 kj13 a1 a2 a3 t250 t251 (t269 != t251) l0_0 a0_1 l0_2 t243 t246 t247 t261 t264 t265) else (laws_FnExactDevDo.j1 kj13 a1 a2 a3 t250 t251 true l0_0 a0_1 l0_2 t243 t246 t247 t261 t264 t265)) else (laws_FnExactDevDo.j1 kj13 a1 a2 a3 t250 t251 true l0_0 a0_1 l0_2 t243 t246 t247 t261 t264 t265))))) = some true := by rw [if_pos rfl] at H; exact H
            clear H
            have H := H1
            clear H1
            replace H := Option.bind_eq_some_iff.mp H
            obtain ⟨⟨t280, t281, t282⟩, A590, H⟩ := H
            replace H : (if t280 < 0 then (laws_FnExactDevDo.j1 kj13 a1 a2 a3 t250 t251 true l0_0 a0_1 l0_2 t243 t246 t247 t261 t264 t265) else ((laws_eqDev.f kj13 t261 t264 t265 t243 t246 t247).bind fun t283 => (if t283 = true then (if t268 = t250 then (laws_FnExactDevDo.j1 kj13 a1 a2 a3 t250 t251 (t269 != t251) l0_0 a0_1 l0_2 t243 t246 t247 t261 t264 t265) else (laws_FnExactDevDo.j1 kj13 a1 a2 a3 t250 t251 true l0_0 a0_1 l0_2 t243 t246 t247 t261 t264 t265)) else (laws_FnExactDevDo.j1 kj13 a1 a2 a3 t250 t251 true l0_0 a0_1 l0_2 t243 t246 t247 t261 t264 t265)))) = some true := H
            have A59 := Aside0.mk A590
            clear A590
            have HC60 := Aside0.mk H
            clear H
            try go_wp2
            have n0_ := Aside0.mk (Kd.R_drew HO_253000.out)
            have n1_ := Aside0.mk (Kd.Q_drew HO_253002.out)
            have n2_ := Aside0.mk (Kd.R_drew HO_261000.out)
            have n3_ := Aside0.mk (Kd.R_drew HO_261002.out)
            have n4_ := Aside0.mk (Kd.R_drew HO_271000.out)
            have n5_ := Aside0.mk (Kd.R_drew HO_271002.out)
            have n6_ := Aside0.mk (blk_drew BK234.out)
            have n7_ := Aside0.mk (blk_drew BK252.out)
            have n8_ := Aside0.mk (blk_drew BK260.out)
            have n9_ := Aside0.mk (blk_drew BK270.out)
            have n10_ := Aside0.mk (below_drew1 HB.out)
            clear HO_253000
            clear HO_253002
            clear HO_261000
            clear HO_261002
            clear HO_271000
            clear HO_271002
            clear BK234
            clear BK252
            clear BK260
            clear BK270
            clear HB
            have HO_253000 := n0_
            have HO_253002 := n1_
            have HO_261000 := n2_
            have HO_261002 := n3_
            have HO_271000 := n4_
            have HO_271002 := n5_
            have BK234 := n6_
            have BK252 := n7_
            have BK260 := n8_
            have BK270 := n9_
            have HB := n10_
            clear n0_ n1_ n2_ n3_ n4_ n5_ n6_ n7_ n8_ n9_ n10_
            refine start_ (n := 5) (S := fun w' => w'.cell? ⟨gb260, 0, none⟩ = some (.slice Ao31 t253.length co31) ∧ w'.cell? ⟨gb260, 1, none⟩ = some (.int .i64 t256) ∧ w'.cell? ⟨gb260, 2, none⟩ = some (.slice Ao35 t257.length co35) ∧ w'.cell? ⟨gb234, 0, none⟩ = some (.slice A0_0 l0_0.length c0_0) ∧ w'.cell? ⟨gb234, 1, none⟩ = some (.int .i64 a0_1) ∧ w'.cell? ⟨gb234, 2, none⟩ = some (.slice A0_2 l0_2.length c0_2)) (ds := []) #[false, false, false, false, false] (by kernel_rfl) rfl rfl ⟨(blk_cell BK260.out 0).trans rfl, (blk_cell BK260.out 1).trans rfl, (blk_cell BK260.out 2).trans rfl, (blk_cell BK234.out 0).trans rfl, (blk_cell BK234.out 1).trans rfl, (blk_cell BK234.out 2).trans rfl⟩ (fun hHeld => ?_)
            generalize wc.drew = w61 at HO_253000 HO_253002 HO_261000 HO_261002 HO_271000 HO_271002 BK234 BK252 BK260 BK270 HB hHeld ⊢
            refine take_ (i := 0) (N := some 63) (v := ?_) (a' := ?_) #[true, false, false, false, false] rfl rfl (by kernel_rfl) (fun _ _ _ h => h) (Or.inl ⟨by rfl, ?_⟩) hHeld ?_ ?_
            rotate_left
            · rintro w' ⟨s0, s1, s2, s3, s4, s5⟩
              go_simp
              with_reducible rfl
            rotate_left
            · simp only [Act.put, List.setIfInBounds_toArray, List.set_cons_zero, List.set_cons_succ, i64_w, i32_w]
              rfl
            refine take_ (i := 1) (N := some 64) (v := ?_) (a' := ?_) #[true, true, false, false, false] rfl rfl (by kernel_rfl) (fun _ _ _ h => h) (Or.inl ⟨by rfl, ?_⟩) hHeld ?_ ?_
            rotate_left
            · rintro w' ⟨s0, s1, s2, s3, s4, s5⟩
              go_simp
              with_reducible rfl
            rotate_left
            · simp only [Act.put, List.setIfInBounds_toArray, List.set_cons_zero, List.set_cons_succ, i64_w, i32_w]
              rfl
            refine one_ (i := 2) (N := some 65) #[true, true, true, false, false] rfl rfl (by kernel_rfl) (by decide) (fun K hK => ?_)
            refine goes_ Try.func32 (by kernel_rfl) rfl #[.agg #[.slice A0_0 l0_0.length c0_0, .int .i64 a0_1, .slice A0_2 l0_2.length c0_2]] (by rfl) rfl rfl (by (try simp only [List.map_toArray, List.map_cons, List.map_nil]); first | done | rfl | (simp only [List.length_drop, List.length_take]; rfl)) ?_
            with_reducible refine (laws_toDev.calls kj13 _ _ l0_0 a0_1 _ _ l0_2 t272 t275 t276 _ ?side1 ?side2 ?side3 ?side4 A56.out).mono ?_
            (case side1 => repeat (first | exact (Kd.C_below HR0_0.out HB.out) | (with_reducible refine Kd.C_alloc ?_ _) | (with_reducible refine Kd.C_drewN ?_ _) | (with_reducible refine Kd.C_drew ?_)))
            (case side2 => exact HC0_0.out)
            (case side3 => repeat (first | exact (Kd.C_below HR0_2.out HB.out) | (with_reducible refine Kd.C_alloc ?_ _) | (with_reducible refine Kd.C_drewN ?_ _) | (with_reducible refine Kd.C_drew ?_)))
            (case side4 => exact HC0_2.out)
            rintro e w62 ⟨v273, v277, rfl, ho0, ho1, hb⟩
            refine ⟨_, rfl, ?_⟩
            have n0_ := Aside0.mk (Kd.R_mono (Kd.R_told (Kd.R_told (Kd.R_old (by (with_reducible repeat (first | apply Kd.R_alloc | apply Kd.R_drewN | apply Kd.R_drew)); exact HO_253000.out) hb) (Kd.R_base ho0)) (Kd.R_base ho1)) (fun _ h_ => h_.1))
            have n1_ := Aside0.mk (Kd.Q_mono (Kd.Q_told (Kd.Q_told (Kd.Q_old (by (with_reducible repeat (first | apply Kd.Q_alloc | apply Kd.Q_drewN | apply Kd.Q_drew)); exact HO_253002.out) hb) (Kd.R_base ho0)) (Kd.R_base ho1)) (fun _ h_ => h_.1))
            have n2_ := Aside0.mk (Kd.R_mono (Kd.R_told (Kd.R_told (Kd.R_old (by (with_reducible repeat (first | apply Kd.R_alloc | apply Kd.R_drewN | apply Kd.R_drew)); exact HO_261000.out) hb) (Kd.R_base ho0)) (Kd.R_base ho1)) (fun _ h_ => h_.1))
            have n3_ := Aside0.mk (Kd.R_mono (Kd.R_told (Kd.R_told (Kd.R_old (by (with_reducible repeat (first | apply Kd.R_alloc | apply Kd.R_drewN | apply Kd.R_drew)); exact HO_261002.out) hb) (Kd.R_base ho0)) (Kd.R_base ho1)) (fun _ h_ => h_.1))
            have n4_ := Aside0.mk (Kd.R_mono (Kd.R_told (Kd.R_told (Kd.R_old (by (with_reducible repeat (first | apply Kd.R_alloc | apply Kd.R_drewN | apply Kd.R_drew)); exact HO_271000.out) hb) (Kd.R_base ho0)) (Kd.R_base ho1)) (fun _ h_ => h_.1))
            have n5_ := Aside0.mk (Kd.R_mono (Kd.R_told (Kd.R_told (Kd.R_old (by (with_reducible repeat (first | apply Kd.R_alloc | apply Kd.R_drewN | apply Kd.R_drew)); exact HO_271002.out) hb) (Kd.R_base ho0)) (Kd.R_base ho1)) (fun _ h_ => h_.1))
            have n6_ := Aside0.mk (Kd.R_lower (Kd.R_new' (Kd.R_new' (Kd.R_new' (Kd.R_new' (Kd.R_new' (Kd.R_new' ho0 (Kd.R_lt (by (with_reducible repeat (first | apply Kd.R_alloc | apply Kd.R_drewN | apply Kd.R_drew)); exact HO_253000.out))) (Kd.Q_lt (by (with_reducible repeat (first | apply Kd.Q_alloc | apply Kd.Q_drewN | apply Kd.Q_drew)); exact HO_253002.out))) (Kd.R_lt (by (with_reducible repeat (first | apply Kd.R_alloc | apply Kd.R_drewN | apply Kd.R_drew)); exact HO_261000.out))) (Kd.R_lt (by (with_reducible repeat (first | apply Kd.R_alloc | apply Kd.R_drewN | apply Kd.R_drew)); exact HO_261002.out))) (Kd.R_lt (by (with_reducible repeat (first | apply Kd.R_alloc | apply Kd.R_drewN | apply Kd.R_drew)); exact HO_271000.out))) (Kd.R_lt (by (with_reducible repeat (first | apply Kd.R_alloc | apply Kd.R_drewN | apply Kd.R_drew)); exact HO_271002.out))) (below_size (by repeat (first | (with_reducible first | exact HB.out | apply below_alloc | apply pw_below_drewN | apply below_drew1 | refine below_set ?_ GE234.out | refine below_set ?_ GE252.out | refine below_set ?_ GE260.out | refine below_set ?_ GE270.out) | exact HB.out))))
            have n7_ := Aside0.mk (Kd.R_lower (Kd.R_new' (Kd.R_new' (Kd.R_new' (Kd.R_new' (Kd.R_new' (Kd.R_new' ho1 (Kd.R_lt (by (with_reducible repeat (first | apply Kd.R_alloc | apply Kd.R_drewN | apply Kd.R_drew)); exact HO_253000.out))) (Kd.Q_lt (by (with_reducible repeat (first | apply Kd.Q_alloc | apply Kd.Q_drewN | apply Kd.Q_drew)); exact HO_253002.out))) (Kd.R_lt (by (with_reducible repeat (first | apply Kd.R_alloc | apply Kd.R_drewN | apply Kd.R_drew)); exact HO_261000.out))) (Kd.R_lt (by (with_reducible repeat (first | apply Kd.R_alloc | apply Kd.R_drewN | apply Kd.R_drew)); exact HO_261002.out))) (Kd.R_lt (by (with_reducible repeat (first | apply Kd.R_alloc | apply Kd.R_drewN | apply Kd.R_drew)); exact HO_271000.out))) (Kd.R_lt (by (with_reducible repeat (first | apply Kd.R_alloc | apply Kd.R_drewN | apply Kd.R_drew)); exact HO_271002.out))) (below_size (by repeat (first | (with_reducible first | exact HB.out | apply below_alloc | apply pw_below_drewN | apply below_drew1 | refine below_set ?_ GE234.out | refine below_set ?_ GE252.out | refine below_set ?_ GE260.out | refine below_set ?_ GE270.out) | exact HB.out))))
            have n8_ := Aside0.mk (blk_below (g := gb234) (o := .cells #[.slice A0_0 l0_0.length c0_0, .int .i64 a0_1, .slice A0_2 l0_2.length c0_2] 36 (0, 0)) (by (with_reducible repeat (first | refine blk_drewN ?_ _ | refine blk_drew ?_ | refine blk_alloc ?_ _)); exact BK234.out) hb)
            have n9_ := Aside0.mk (blk_below (g := gb252) (o := .cells #[.slice Ao24 t243.length co24, .int .i64 t246, .slice Ao27 t247.length co27] 26 (0, 0)) (by (with_reducible repeat (first | refine blk_drewN ?_ _ | refine blk_drew ?_ | refine blk_alloc ?_ _)); exact BK252.out) hb)
            have n10_ := Aside0.mk (blk_below (g := gb260) (o := .cells #[.slice Ao31 t253.length co31, .int .i64 t256, .slice Ao35 t257.length co35] 26 (0, 0)) (by (with_reducible repeat (first | refine blk_drewN ?_ _ | refine blk_drew ?_ | refine blk_alloc ?_ _)); exact BK260.out) hb)
            have n11_ := Aside0.mk (blk_below (g := gb270) (o := .cells #[.slice Ao38 t261.length co38, .int .i64 t264, .slice Ao43 t265.length co43] 26 (0, 0)) (by (with_reducible repeat (first | refine blk_drewN ?_ _ | refine blk_drew ?_ | refine blk_alloc ?_ _)); exact BK270.out) hb)
            have n12_ := Aside0.mk (below_step (by repeat (first | (with_reducible first | exact HB.out | apply below_alloc | apply pw_below_drewN | apply below_drew1 | refine below_set ?_ GE234.out | refine below_set ?_ GE252.out | refine below_set ?_ GE260.out | refine below_set ?_ GE270.out) | exact HB.out)) hb)
            clear HO_253000
            clear HO_253002
            clear HO_261000
            clear HO_261002
            clear HO_271000
            clear HO_271002
            clear BK234
            clear BK252
            clear BK260
            clear BK270
            clear HB
            have HO_253000 := n0_
            have HO_253002 := n1_
            have HO_261000 := n2_
            have HO_261002 := n3_
            have HO_271000 := n4_
            have HO_271002 := n5_
            have HO274 := n6_
            have HO278 := n7_
            have BK234 := n8_
            have BK252 := n9_
            have BK260 := n10_
            have BK270 := n11_
            have HB := n12_
            clear n0_ n1_ n2_ n3_ n4_ n5_ n6_ n7_ n8_ n9_ n10_ n11_ n12_
            (try clear hb)
            (try clear hb2)
            (try clear hk)
            (try clear hi)
            (try clear ho0)
            (try clear ho1)
            obtain ⟨Ao63, co63, eo63⟩ := Kd.R_slice HO274.out
            (first | subst eo63 | (injection eo63 with f1_ f2_ f3_; have f4_ := f1_.symm; have f5_ := f3_.symm; clear f1_ f2_ f3_; subst f4_; subst f5_))
            obtain ⟨Ao64, co64, eo64⟩ := Kd.R_slice HO278.out
            (first | subst eo64 | (injection eo64 with f1_ f2_ f3_; have f4_ := f1_.symm; have f5_ := f3_.symm; clear f1_ f2_ f3_; subst f4_; subst f5_))
            refine hK.out _ _ ⟨(blk_cell BK260.out 0).trans rfl, (blk_cell BK260.out 1).trans rfl, (blk_cell BK260.out 2).trans rfl, (blk_cell BK234.out 0).trans rfl, (blk_cell BK234.out 1).trans rfl, (blk_cell BK234.out 2).trans rfl⟩ (fun hHeld => ?_)
            clear hK K
            refine norm_ (a' := ?_) ?_ ?_
            rotate_left
            · show Act.put _ (some 65) _ = _
              simp only [Act.put, List.setIfInBounds_toArray, List.set_cons_zero, List.set_cons_succ, i64_w, i32_w]
              rfl
            refine one_ (i := 3) (N := some 66) #[true, true, true, true, false] rfl rfl (by kernel_rfl) (by decide) (fun K hK => ?_)
            refine goes_ Try.func27 (by kernel_rfl) rfl #[.agg #[.slice Ao31 t253.length co31, .int .i64 t256, .slice Ao35 t257.length co35], .agg #[.slice Ao63 t272.length co63, .int .i64 t275, .slice Ao64 t276.length co64]] (by rfl) rfl rfl (by (try simp only [List.map_toArray, List.map_cons, List.map_nil]); first | done | rfl | (simp only [List.length_drop, List.length_take]; rfl)) ?_
            with_reducible refine (laws_eqDev.calls kj13 _ _ t253 t256 _ _ t257 _ _ t272 t275 _ _ t276 true _ ?side1 ?side2 ?side3 ?side4 ?side5 ?side6 ?side7 ?side8 A57.out).mono ?_
            (case side1 => repeat (first | exact (Kd.R_reads' HO_261000.out).2.2 | (with_reducible refine Kd.C_alloc ?_ _) | (with_reducible refine Kd.C_drewN ?_ _) | (with_reducible refine Kd.C_drew ?_)))
            (case side2 => exact (Kd.R_reads' HO_261000.out).2.1)
            (case side3 => repeat (first | exact (Kd.R_reads' HO_261002.out).2.2 | (with_reducible refine Kd.C_alloc ?_ _) | (with_reducible refine Kd.C_drewN ?_ _) | (with_reducible refine Kd.C_drew ?_)))
            (case side4 => exact (Kd.R_reads' HO_261002.out).2.1)
            (case side5 => repeat (first | exact (Kd.R_reads' HO274.out).2.2 | (with_reducible refine Kd.C_alloc ?_ _) | (with_reducible refine Kd.C_drewN ?_ _) | (with_reducible refine Kd.C_drew ?_)))
            (case side6 => exact (Kd.R_reads' HO274.out).2.1)
            (case side7 => repeat (first | exact (Kd.R_reads' HO278.out).2.2 | (with_reducible refine Kd.C_alloc ?_ _) | (with_reducible refine Kd.C_drewN ?_ _) | (with_reducible refine Kd.C_drew ?_)))
            (case side8 => exact (Kd.R_reads' HO278.out).2.1)
            rintro e w65 ⟨rfl, hb⟩
            refine ⟨_, rfl, ?_⟩
            have n0_ := Aside0.mk (Kd.R_below (by (with_reducible repeat (first | apply Kd.R_alloc | apply Kd.R_drewN | apply Kd.R_drew)); exact HO_253000.out) hb)
            have n1_ := Aside0.mk (Kd.Q_below (by (with_reducible repeat (first | apply Kd.Q_alloc | apply Kd.Q_drewN | apply Kd.Q_drew)); exact HO_253002.out) hb)
            have n2_ := Aside0.mk (Kd.R_below (by (with_reducible repeat (first | apply Kd.R_alloc | apply Kd.R_drewN | apply Kd.R_drew)); exact HO_261000.out) hb)
            have n3_ := Aside0.mk (Kd.R_below (by (with_reducible repeat (first | apply Kd.R_alloc | apply Kd.R_drewN | apply Kd.R_drew)); exact HO_261002.out) hb)
            have n4_ := Aside0.mk (Kd.R_below (by (with_reducible repeat (first | apply Kd.R_alloc | apply Kd.R_drewN | apply Kd.R_drew)); exact HO_271000.out) hb)
            have n5_ := Aside0.mk (Kd.R_below (by (with_reducible repeat (first | apply Kd.R_alloc | apply Kd.R_drewN | apply Kd.R_drew)); exact HO_271002.out) hb)
            have n6_ := Aside0.mk (Kd.R_below (by (with_reducible repeat (first | apply Kd.R_alloc | apply Kd.R_drewN | apply Kd.R_drew)); exact HO274.out) hb)
            have n7_ := Aside0.mk (Kd.R_below (by (with_reducible repeat (first | apply Kd.R_alloc | apply Kd.R_drewN | apply Kd.R_drew)); exact HO278.out) hb)
            have n8_ := Aside0.mk (blk_below (g := gb234) (o := .cells #[.slice A0_0 l0_0.length c0_0, .int .i64 a0_1, .slice A0_2 l0_2.length c0_2] 36 (0, 0)) (by (with_reducible repeat (first | refine blk_drewN ?_ _ | refine blk_drew ?_ | refine blk_alloc ?_ _)); exact BK234.out) hb)
            have n9_ := Aside0.mk (blk_below (g := gb252) (o := .cells #[.slice Ao24 t243.length co24, .int .i64 t246, .slice Ao27 t247.length co27] 26 (0, 0)) (by (with_reducible repeat (first | refine blk_drewN ?_ _ | refine blk_drew ?_ | refine blk_alloc ?_ _)); exact BK252.out) hb)
            have n10_ := Aside0.mk (blk_below (g := gb260) (o := .cells #[.slice Ao31 t253.length co31, .int .i64 t256, .slice Ao35 t257.length co35] 26 (0, 0)) (by (with_reducible repeat (first | refine blk_drewN ?_ _ | refine blk_drew ?_ | refine blk_alloc ?_ _)); exact BK260.out) hb)
            have n11_ := Aside0.mk (blk_below (g := gb270) (o := .cells #[.slice Ao38 t261.length co38, .int .i64 t264, .slice Ao43 t265.length co43] 26 (0, 0)) (by (with_reducible repeat (first | refine blk_drewN ?_ _ | refine blk_drew ?_ | refine blk_alloc ?_ _)); exact BK270.out) hb)
            have n12_ := Aside0.mk (below_step (by repeat (first | (with_reducible first | exact HB.out | apply below_alloc | apply pw_below_drewN | apply below_drew1 | refine below_set ?_ GE234.out | refine below_set ?_ GE252.out | refine below_set ?_ GE260.out | refine below_set ?_ GE270.out) | exact HB.out)) hb)
            clear HO_253000
            clear HO_253002
            clear HO_261000
            clear HO_261002
            clear HO_271000
            clear HO_271002
            clear HO274
            clear HO278
            clear BK234
            clear BK252
            clear BK260
            clear BK270
            clear HB
            have HO_253000 := n0_
            have HO_253002 := n1_
            have HO_261000 := n2_
            have HO_261002 := n3_
            have HO_271000 := n4_
            have HO_271002 := n5_
            have HO274 := n6_
            have HO278 := n7_
            have BK234 := n8_
            have BK252 := n9_
            have BK260 := n10_
            have BK270 := n11_
            have HB := n12_
            clear n0_ n1_ n2_ n3_ n4_ n5_ n6_ n7_ n8_ n9_ n10_ n11_ n12_
            (try clear hb)
            (try clear hb2)
            (try clear hk)
            (try clear hi)
            refine hK.out _ _ ⟨(blk_cell BK260.out 0).trans rfl, (blk_cell BK260.out 1).trans rfl, (blk_cell BK260.out 2).trans rfl, (blk_cell BK234.out 0).trans rfl, (blk_cell BK234.out 1).trans rfl, (blk_cell BK234.out 2).trans rfl⟩ (fun hHeld => ?_)
            clear hK K
            refine norm_ (a' := ?_) ?_ ?_
            rotate_left
            · show Act.put _ (some 66) _ = _
              simp only [Act.put, List.setIfInBounds_toArray, List.set_cons_zero, List.set_cons_succ, i64_w, i32_w]
              rfl
            refine pure_ (i := 4) (N := some 67) (v := ?_) (a' := ?_) #[true, true, true, true, true] rfl rfl (by kernel_rfl) (fun _ _ _ h => h) (Or.inl ⟨by rfl, ?_⟩) ?_ ?_
            rotate_left
            · intro w'
              go_simp
              with_reducible rfl
            rotate_left
            · simp only [Act.put, List.setIfInBounds_toArray, List.set_cons_zero, List.set_cons_succ, i64_w, i32_w]
              rfl
            refine done_ (by kernel_rfl) ?_
            have hnb66 := NB260_234.out
            have hnc66 := NB234_260.out
            have hnb67 := NB260_252.out
            have hnc67 := NB252_260.out
            have hnb68 := NB260_270.out
            have hnc68 := NB270_260.out
            have hcz69_0 : w65.cell? ⟨gb260, 0, none⟩ = some (.slice Ao31 t253.length co31) := (blk_cell BK260.out 0).trans rfl
            have hcz69_1 : w65.cell? ⟨gb260, 1, none⟩ = some (.int .i64 t256) := (blk_cell BK260.out 1).trans rfl
            have hcz69_2 : w65.cell? ⟨gb260, 2, none⟩ = some (.slice Ao35 t257.length co35) := (blk_cell BK260.out 2).trans rfl
            have hfz69_0 := blk_frozen BK260.out 0
            have hfz69_1 := blk_frozen BK260.out 1
            have hfz69_2 := blk_frozen BK260.out 2
            go_upto_region 14 with (first | ((with_reducible refine gate_callee (f := 28) rfl ?_); refine goesL_ (some 70) rfl rfl Try.func28 (by kernel_rfl) rfl #[.agg #[.slice Ao31 t253.length co31, .int .i64 t256, .slice Ao35 t257.length co35], .int .i64 1] rfl (by (try simp only [List.map_toArray, List.map_cons, List.map_nil]); first | done | rfl | (simp only [List.length_drop, List.length_take]; rfl)) ?_; (with_reducible refine (laws_markDev.calls kj13 (fun k_ => some k_ = (.slice Ao31 t253.length co31 : Value).ownBlock) (.slice Ao31 t253.length co31) t253 t256 (fun k_ => some k_ = (.slice Ao35 t257.length co35 : Value).ownBlock) (.slice Ao35 t257.length co35) t257 1 t280 t281 t282 w _ ?side1 ?side2 ?side3 ?side4 ?side5 A59.out).mono ?_); (case side1 => repeat (first | (with_reducible first | exact HB.out | apply below_alloc | apply pw_below_drewN | apply below_drew1 | refine below_set ?_ GE234.out | refine below_set ?_ GE252.out | refine below_set ?_ GE260.out | refine below_set ?_ GE270.out) | exact HB.out)); (case side2 => exact Kd.R_tight rfl HO_261000.out); (case side3 => exact fun k_ e_ => (HO_261000.out.1 k_ e_.symm).1.1.2.2.1); (case side4 => exact Kd.R_tight rfl HO_261002.out); (case side5 => exact fun k_ e_ => (HO_261002.out.1 k_ e_.symm).1.1.2.2.1); rintro e w70 ⟨rfl, hy0, hy1, hb, hkp⟩; refine ⟨_, rfl, ?_⟩; have n0_ := Aside0.mk (Kd.R_mono (ok' := fun k_ => some k_ ≠ (.slice Ao27 t247.length co27 : Value).ownBlock ∧ some k_ ≠ (.slice Ao31 t253.length co31 : Value).ownBlock ∧ some k_ ≠ (.slice Ao35 t257.length co35 : Value).ownBlock ∧ some k_ ≠ (.slice Ao38 t261.length co38 : Value).ownBlock ∧ some k_ ≠ (.slice Ao43 t265.length co43 : Value).ownBlock ∧ some k_ ≠ (.slice Ao63 t272.length co63 : Value).ownBlock ∧ some k_ ≠ (.slice Ao64 t276.length co64 : Value).ownBlock) (Kd.R_keptB (HO_253000.out) hkp (fun k_ hk_ hs_ => Or.elim hs_ (fun e_ => (hk_.1.1.2.1) e_) (fun e_ => (hk_.1.1.2.2.1) e_))) (fun k_ hk_ => ⟨hk_.1.1.1.1, hk_.1.1.1.2.1, hk_.1.1.1.2.2.1, hk_.1.1.1.2.2.2.1, hk_.1.1.1.2.2.2.2, hk_.1.1.2, hk_.1.2⟩)); have n1_ := Aside0.mk (Kd.Q_mono (ok' := fun k_ => some k_ ≠ (.slice Ao24 t243.length co24 : Value).ownBlock ∧ some k_ ≠ (.slice Ao31 t253.length co31 : Value).ownBlock ∧ some k_ ≠ (.slice Ao35 t257.length co35 : Value).ownBlock ∧ some k_ ≠ (.slice Ao38 t261.length co38 : Value).ownBlock ∧ some k_ ≠ (.slice Ao43 t265.length co43 : Value).ownBlock ∧ some k_ ≠ (.slice Ao63 t272.length co63 : Value).ownBlock ∧ some k_ ≠ (.slice Ao64 t276.length co64 : Value).ownBlock) (Kd.Q_keptB (HO_253002.out) hkp (fun k_ hk_ hs_ => Or.elim hs_ (fun e_ => (hk_.1.1.2.1) e_) (fun e_ => (hk_.1.1.2.2.1) e_))) (fun k_ hk_ => ⟨hk_.1.1.1.1, hk_.1.1.1.2.1, hk_.1.1.1.2.2.1, hk_.1.1.1.2.2.2.1, hk_.1.1.1.2.2.2.2, hk_.1.1.2, hk_.1.2⟩)); have n2_ := Aside0.mk (Kd.R_reok rfl hy0 (fun k_ e_ => HO_261000.out.1 k_ e_)); have n3_ := Aside0.mk (Kd.R_reok rfl hy1 (fun k_ e_ => HO_261002.out.1 k_ e_)); have n4_ := Aside0.mk (Kd.R_mono (ok' := fun k_ => some k_ ≠ (.slice Ao24 t243.length co24 : Value).ownBlock ∧ some k_ ≠ (.slice Ao27 t247.length co27 : Value).ownBlock ∧ some k_ ≠ (.slice Ao31 t253.length co31 : Value).ownBlock ∧ some k_ ≠ (.slice Ao35 t257.length co35 : Value).ownBlock ∧ some k_ ≠ (.slice Ao43 t265.length co43 : Value).ownBlock ∧ some k_ ≠ (.slice Ao63 t272.length co63 : Value).ownBlock ∧ some k_ ≠ (.slice Ao64 t276.length co64 : Value).ownBlock) (Kd.R_keptB (HO_271000.out) hkp (fun k_ hk_ hs_ => Or.elim hs_ (fun e_ => (hk_.1.1.2.2.1) e_) (fun e_ => (hk_.1.1.2.2.2.1) e_))) (fun k_ hk_ => ⟨hk_.1.1.1.1, hk_.1.1.1.2.1, hk_.1.1.1.2.2.1, hk_.1.1.1.2.2.2.1, hk_.1.1.1.2.2.2.2, hk_.1.1.2, hk_.1.2⟩)); have n5_ := Aside0.mk (Kd.R_mono (ok' := fun k_ => some k_ ≠ (.slice Ao24 t243.length co24 : Value).ownBlock ∧ some k_ ≠ (.slice Ao27 t247.length co27 : Value).ownBlock ∧ some k_ ≠ (.slice Ao31 t253.length co31 : Value).ownBlock ∧ some k_ ≠ (.slice Ao35 t257.length co35 : Value).ownBlock ∧ some k_ ≠ (.slice Ao38 t261.length co38 : Value).ownBlock ∧ some k_ ≠ (.slice Ao63 t272.length co63 : Value).ownBlock ∧ some k_ ≠ (.slice Ao64 t276.length co64 : Value).ownBlock) (Kd.R_keptB (HO_271002.out) hkp (fun k_ hk_ hs_ => Or.elim hs_ (fun e_ => (hk_.1.1.2.2.1) e_) (fun e_ => (hk_.1.1.2.2.2.1) e_))) (fun k_ hk_ => ⟨hk_.1.1.1.1, hk_.1.1.1.2.1, hk_.1.1.1.2.2.1, hk_.1.1.1.2.2.2.1, hk_.1.1.1.2.2.2.2, hk_.1.1.2, hk_.1.2⟩)); have n6_ := Aside0.mk (blk_kept (by (with_reducible repeat (first | refine blk_drewN ?_ _ | refine blk_drew ?_ | refine blk_alloc ?_ _)); exact BK234.out) hkp (fun hs_ => Or.elim hs_ (fun e_ => (fun e_ => (Kd.R_ne HO_261000.out BK234.out (by decide)) e_) e_) (fun e_ => (fun e_ => (Kd.R_ne HO_261002.out BK234.out (by decide)) e_) e_))); have n7_ := Aside0.mk (blk_kept (by (with_reducible repeat (first | refine blk_drewN ?_ _ | refine blk_drew ?_ | refine blk_alloc ?_ _)); exact BK252.out) hkp (fun hs_ => Or.elim hs_ (fun e_ => (fun e_ => (Kd.R_ne HO_261000.out BK252.out (by decide)) e_) e_) (fun e_ => (fun e_ => (Kd.R_ne HO_261002.out BK252.out (by decide)) e_) e_))); have n8_ := Aside0.mk (blk_kept (by (with_reducible repeat (first | refine blk_drewN ?_ _ | refine blk_drew ?_ | refine blk_alloc ?_ _)); exact BK260.out) hkp (fun hs_ => Or.elim hs_ (fun e_ => (fun e_ => (Kd.R_ne HO_261000.out BK260.out (by decide)) e_) e_) (fun e_ => (fun e_ => (Kd.R_ne HO_261002.out BK260.out (by decide)) e_) e_))); have n9_ := Aside0.mk (blk_kept (by (with_reducible repeat (first | refine blk_drewN ?_ _ | refine blk_drew ?_ | refine blk_alloc ?_ _)); exact BK270.out) hkp (fun hs_ => Or.elim hs_ (fun e_ => (fun e_ => (Kd.R_ne HO_261000.out BK270.out (by decide)) e_) e_) (fun e_ => (fun e_ => (Kd.R_ne HO_261002.out BK270.out (by decide)) e_) e_))); have n10_ := Aside0.mk (Kd.R_mono (ok' := fun k_ => some k_ ≠ (.slice Ao24 t243.length co24 : Value).ownBlock ∧ some k_ ≠ (.slice Ao27 t247.length co27 : Value).ownBlock ∧ some k_ ≠ (.slice Ao31 t253.length co31 : Value).ownBlock ∧ some k_ ≠ (.slice Ao35 t257.length co35 : Value).ownBlock ∧ some k_ ≠ (.slice Ao38 t261.length co38 : Value).ownBlock ∧ some k_ ≠ (.slice Ao43 t265.length co43 : Value).ownBlock ∧ some k_ ≠ (.slice Ao64 t276.length co64 : Value).ownBlock) (Kd.R_keptB (HO274.out) hkp (fun k_ hk_ hs_ => Or.elim hs_ (fun e_ => (hk_.1.1.1.2) e_) (fun e_ => (hk_.1.1.2) e_))) (fun k_ hk_ => ⟨hk_.1.1.1.1.1.1.2, hk_.1.1.1.1.1.2, hk_.1.1.1.1.2, hk_.1.1.1.2, hk_.1.1.2, hk_.1.2, hk_.1.1.1.1.1.1.1⟩)); have n11_ := Aside0.mk (Kd.R_mono (ok' := fun k_ => some k_ ≠ (.slice Ao24 t243.length co24 : Value).ownBlock ∧ some k_ ≠ (.slice Ao27 t247.length co27 : Value).ownBlock ∧ some k_ ≠ (.slice Ao31 t253.length co31 : Value).ownBlock ∧ some k_ ≠ (.slice Ao35 t257.length co35 : Value).ownBlock ∧ some k_ ≠ (.slice Ao38 t261.length co38 : Value).ownBlock ∧ some k_ ≠ (.slice Ao43 t265.length co43 : Value).ownBlock ∧ some k_ ≠ (.slice Ao63 t272.length co63 : Value).ownBlock) (Kd.R_keptB (HO278.out) hkp (fun k_ hk_ hs_ => Or.elim hs_ (fun e_ => (hk_.1.1.1.2) e_) (fun e_ => (hk_.1.1.2) e_))) (fun k_ hk_ => ⟨hk_.1.1.1.1.1.1.2, hk_.1.1.1.1.1.2, hk_.1.1.1.1.2, hk_.1.1.1.2, hk_.1.1.2, hk_.1.2, hk_.1.1.1.1.1.1.1⟩)); have n12_ := Aside0.mk (hb); clear HO_253000; clear HO_253002; clear HO_261000; clear HO_261002; clear HO_271000; clear HO_271002; clear BK234; clear BK252; clear BK260; clear BK270; clear HO274; clear HO278; clear HB; have HO_253000 := n0_; have HO_253002 := n1_; have HO_261000 := n2_; have HO_261002 := n3_; have HO_271000 := n4_; have HO_271002 := n5_; have BK234 := n6_; have BK252 := n7_; have BK260 := n8_; have BK270 := n9_; have HO274 := n10_; have HO278 := n11_; have HB := n12_; clear n0_ n1_ n2_ n3_ n4_ n5_ n6_ n7_ n8_ n9_ n10_ n11_ n12_; (try clear hb); (try clear hkp); (try clear hy0); (try clear hy1)))
            (try simp only [Act.put, List.setIfInBounds_toArray, List.set_cons_zero, List.set_cons_succ])
            go_cut [88] (fun v88 wc => ∃ (kq : Nat) (x88_59 : Bool), v88 = .bool x88_59 ∧ Aside0 (laws_FnExactDevDo.j1 kq a1 a2 a3 t250 t251 x88_59 l0_0 a0_1 l0_2 t243 t246 t247 t261 t264 t265 = some true) ∧ Aside0 (kq ≤ kj13) ∧ Aside0 (Kd.R (Kd.int .i64) 3 wc w.heap.size (fun k_ => some k_ ≠ ((.slice Ao27 t247.length co27) : Value).ownBlock ∧ some k_ ≠ ((.slice Ao31 t253.length co31) : Value).ownBlock ∧ some k_ ≠ ((.slice Ao35 t257.length co35) : Value).ownBlock ∧ some k_ ≠ ((.slice Ao38 t261.length co38) : Value).ownBlock ∧ some k_ ≠ ((.slice Ao43 t265.length co43) : Value).ownBlock) (.slice Ao24 t243.length co24) t243) ∧ Aside0 (Kd.Q (Kd.int .i64) 3 wc w.heap.size (fun k_ => some k_ ≠ ((.slice Ao24 t243.length co24) : Value).ownBlock ∧ some k_ ≠ ((.slice Ao31 t253.length co31) : Value).ownBlock ∧ some k_ ≠ ((.slice Ao35 t257.length co35) : Value).ownBlock ∧ some k_ ≠ ((.slice Ao38 t261.length co38) : Value).ownBlock ∧ some k_ ≠ ((.slice Ao43 t265.length co43) : Value).ownBlock) (.slice Ao27 t247.length co27) t247) ∧ Aside0 (Kd.R (Kd.int .i64) 3 wc w.heap.size (fun k_ => some k_ ≠ ((.slice Ao24 t243.length co24) : Value).ownBlock ∧ some k_ ≠ ((.slice Ao27 t247.length co27) : Value).ownBlock ∧ some k_ ≠ ((.slice Ao35 t257.length co35) : Value).ownBlock ∧ some k_ ≠ ((.slice Ao38 t261.length co38) : Value).ownBlock ∧ some k_ ≠ ((.slice Ao43 t265.length co43) : Value).ownBlock) (.slice Ao31 t253.length co31) t281) ∧ Aside0 (Kd.R (Kd.int .i64) 3 wc w.heap.size (fun k_ => some k_ ≠ ((.slice Ao24 t243.length co24) : Value).ownBlock ∧ some k_ ≠ ((.slice Ao27 t247.length co27) : Value).ownBlock ∧ some k_ ≠ ((.slice Ao31 t253.length co31) : Value).ownBlock ∧ some k_ ≠ ((.slice Ao38 t261.length co38) : Value).ownBlock ∧ some k_ ≠ ((.slice Ao43 t265.length co43) : Value).ownBlock) (.slice Ao35 t257.length co35) t282) ∧ Aside0 (Kd.R (Kd.int .i64) 3 wc w.heap.size (fun k_ => some k_ ≠ ((.slice Ao24 t243.length co24) : Value).ownBlock ∧ some k_ ≠ ((.slice Ao27 t247.length co27) : Value).ownBlock ∧ some k_ ≠ ((.slice Ao31 t253.length co31) : Value).ownBlock ∧ some k_ ≠ ((.slice Ao35 t257.length co35) : Value).ownBlock ∧ some k_ ≠ ((.slice Ao43 t265.length co43) : Value).ownBlock) (.slice Ao38 t261.length co38) t261) ∧ Aside0 (Kd.R (Kd.int .i64) 3 wc w.heap.size (fun k_ => some k_ ≠ ((.slice Ao24 t243.length co24) : Value).ownBlock ∧ some k_ ≠ ((.slice Ao27 t247.length co27) : Value).ownBlock ∧ some k_ ≠ ((.slice Ao31 t253.length co31) : Value).ownBlock ∧ some k_ ≠ ((.slice Ao35 t257.length co35) : Value).ownBlock ∧ some k_ ≠ ((.slice Ao38 t261.length co38) : Value).ownBlock) (.slice Ao43 t265.length co43) t265) ∧ Aside0 (wc.heap[gb234]? = some (.cells #[(.slice A0_0 l0_0.length c0_0), .int .i64 a0_1, (.slice A0_2 l0_2.length c0_2)] 36 (0, 0))) ∧ Aside0 (wc.heap[gb252]? = some (.cells #[(.slice Ao24 t243.length co24), .int .i64 t246, (.slice Ao27 t247.length co27)] 26 (0, 0))) ∧ Aside0 (wc.heap[gb260]? = some (.cells #[(.slice Ao31 t253.length co31), .int .i64 t256, (.slice Ao35 t257.length co35)] 26 (0, 0))) ∧ Aside0 (wc.heap[gb270]? = some (.cells #[(.slice Ao38 t261.length co38), .int .i64 t264, (.slice Ao43 t265.length co43)] 26 (0, 0))) ∧ Aside0 (Below w.heap.size w wc))
            case first =>
              have H := HC60.out
              clear HC60
              by_cases c71 : t280 < 0
              · rw [if_pos c71] at H
                have c71b0 : decide (t280 < 0) = true := decide_eq_true c71
                clear c71
                (first | rw [c71b0] | (simp only [i64_w, i32_w]; rw [c71b0]) | skip)
                exact absurd H (by cases kj13 <;> simp [laws_FnExactDevDo.j1])
              · rw [if_neg c71] at H
                have c71b0 : decide (t280 < 0) = false := decide_eq_false c71
                clear c71
                (first | rw [c71b0] | (simp only [i64_w, i32_w]; rw [c71b0]) | skip)
                replace H := Option.bind_eq_some_iff.mp H
                obtain ⟨t283, A720, H⟩ := H
                replace H : (if t283 = true then (if t268 = t250 then (laws_FnExactDevDo.j1 kj13 a1 a2 a3 t250 t251 (t269 != t251) l0_0 a0_1 l0_2 t243 t246 t247 t261 t264 t265) else (laws_FnExactDevDo.j1 kj13 a1 a2 a3 t250 t251 true l0_0 a0_1 l0_2 t243 t246 t247 t261 t264 t265)) else (laws_FnExactDevDo.j1 kj13 a1 a2 a3 t250 t251 true l0_0 a0_1 l0_2 t243 t246 t247 t261 t264 t265)) = some true := H
                have A72 := Aside0.mk A720
                clear A720
                by_cases c73 : t283 = true
                · subst c73
                  have H1 : (if t268 = t250 then (laws_FnExactDevDo.j1 kj13 a1 a2 a3 t250 t251 (t269 != t251) l0_0 a0_1 l0_2 t243 t246 t247 t261 t264 t265) else (laws_FnExactDevDo.j1 kj13 a1 a2 a3 t250 t251 true l0_0 a0_1 l0_2 t243 t246 t247 t261 t264 t265)) = some true := by rw [if_pos rfl] at H; exact H
                  clear H
                  have H := H1
                  clear H1
                  by_cases c74 : t268 = t250
                  · rw [if_pos c74] at H
                    have c74b0 : (t268 == t250) = true := beq_iff_eq.mpr c74
                    have c74b1 : (t268 != t250) = false := bne_eq_false_iff_eq.mpr c74
                    clear c74
                    have H' := Aside0.mk H
                    clear H
                    have hnb75 := NB270_234.out
                    have hnc75 := NB234_270.out
                    have hnb76 := NB270_252.out
                    have hnc76 := NB252_270.out
                    have hnb77 := NB270_260.out
                    have hnc77 := NB260_270.out
                    have hcz78_0 : w70.cell? ⟨gb270, 0, none⟩ = some (.slice Ao38 t261.length co38) := (blk_cell BK270.out 0).trans rfl
                    have hcz78_1 : w70.cell? ⟨gb270, 1, none⟩ = some (.int .i64 t264) := (blk_cell BK270.out 1).trans rfl
                    have hcz78_2 : w70.cell? ⟨gb270, 2, none⟩ = some (.slice Ao43 t265.length co43) := (blk_cell BK270.out 2).trans rfl
                    have hfz78_0 := blk_frozen BK270.out 0
                    have hfz78_1 := blk_frozen BK270.out 1
                    have hfz78_2 := blk_frozen BK270.out 2
                    have hnb79 := NB252_234.out
                    have hnc79 := NB234_252.out
                    have hnb80 := NB252_260.out
                    have hnc80 := NB260_252.out
                    have hcz81_0 : w70.cell? ⟨gb252, 0, none⟩ = some (.slice Ao24 t243.length co24) := (blk_cell BK252.out 0).trans rfl
                    have hcz81_1 : w70.cell? ⟨gb252, 1, none⟩ = some (.int .i64 t246) := (blk_cell BK252.out 1).trans rfl
                    have hcz81_2 : w70.cell? ⟨gb252, 2, none⟩ = some (.slice Ao27 t247.length co27) := (blk_cell BK252.out 2).trans rfl
                    have hfz81_0 := blk_frozen BK252.out 0
                    have hfz81_1 := blk_frozen BK252.out 1
                    have hfz81_2 := blk_frozen BK252.out 2
                    go_wp2_with (first | (go_at_call 27; (with_reducible refine (laws_eqDev.calls kj13 _ _ t261 t264 _ _ t265 _ _ t243 t246 _ _ t247 true _ ?side1 ?side2 ?side3 ?side4 ?side5 ?side6 ?side7 ?side8 A72.out).mono ?_); (case side1 => repeat (first | exact (Kd.R_reads' HO_271000.out).2.2 | (with_reducible refine Kd.C_alloc ?_ _) | (with_reducible refine Kd.C_drewN ?_ _) | (with_reducible refine Kd.C_drew ?_))); (case side2 => exact (Kd.R_reads' HO_271000.out).2.1); (case side3 => repeat (first | exact (Kd.R_reads' HO_271002.out).2.2 | (with_reducible refine Kd.C_alloc ?_ _) | (with_reducible refine Kd.C_drewN ?_ _) | (with_reducible refine Kd.C_drew ?_))); (case side4 => exact (Kd.R_reads' HO_271002.out).2.1); (case side5 => repeat (first | exact (Kd.R_reads' HO_253000.out).2.2 | (with_reducible refine Kd.C_alloc ?_ _) | (with_reducible refine Kd.C_drewN ?_ _) | (with_reducible refine Kd.C_drew ?_))); (case side6 => exact (Kd.R_reads' HO_253000.out).2.1); (case side7 => repeat (first | exact (Kd.Q_reads' HO_253002.out).2.2 | (with_reducible refine Kd.C_alloc ?_ _) | (with_reducible refine Kd.C_drewN ?_ _) | (with_reducible refine Kd.C_drew ?_))); (case side8 => exact (Kd.Q_reads' HO_253002.out).2.1); rintro e w82 ⟨rfl, hb⟩; have n0_ := Aside0.mk (Kd.R_below (by (with_reducible repeat (first | apply Kd.R_alloc | apply Kd.R_drewN | apply Kd.R_drew)); exact HO_253000.out) hb); have n1_ := Aside0.mk (Kd.Q_below (by (with_reducible repeat (first | apply Kd.Q_alloc | apply Kd.Q_drewN | apply Kd.Q_drew)); exact HO_253002.out) hb); have n2_ := Aside0.mk (Kd.R_below (by (with_reducible repeat (first | apply Kd.R_alloc | apply Kd.R_drewN | apply Kd.R_drew)); exact HO_261000.out) hb); have n3_ := Aside0.mk (Kd.R_below (by (with_reducible repeat (first | apply Kd.R_alloc | apply Kd.R_drewN | apply Kd.R_drew)); exact HO_261002.out) hb); have n4_ := Aside0.mk (Kd.R_below (by (with_reducible repeat (first | apply Kd.R_alloc | apply Kd.R_drewN | apply Kd.R_drew)); exact HO_271000.out) hb); have n5_ := Aside0.mk (Kd.R_below (by (with_reducible repeat (first | apply Kd.R_alloc | apply Kd.R_drewN | apply Kd.R_drew)); exact HO_271002.out) hb); have n6_ := Aside0.mk (Kd.R_below (by (with_reducible repeat (first | apply Kd.R_alloc | apply Kd.R_drewN | apply Kd.R_drew)); exact HO274.out) hb); have n7_ := Aside0.mk (Kd.R_below (by (with_reducible repeat (first | apply Kd.R_alloc | apply Kd.R_drewN | apply Kd.R_drew)); exact HO278.out) hb); have n8_ := Aside0.mk (blk_below (g := gb234) (o := .cells #[.slice A0_0 l0_0.length c0_0, .int .i64 a0_1, .slice A0_2 l0_2.length c0_2] 36 (0, 0)) (by (with_reducible repeat (first | refine blk_drewN ?_ _ | refine blk_drew ?_ | refine blk_alloc ?_ _)); exact BK234.out) hb); have n9_ := Aside0.mk (blk_below (g := gb252) (o := .cells #[.slice Ao24 t243.length co24, .int .i64 t246, .slice Ao27 t247.length co27] 26 (0, 0)) (by (with_reducible repeat (first | refine blk_drewN ?_ _ | refine blk_drew ?_ | refine blk_alloc ?_ _)); exact BK252.out) hb); have n10_ := Aside0.mk (blk_below (g := gb260) (o := .cells #[.slice Ao31 t253.length co31, .int .i64 t256, .slice Ao35 t257.length co35] 26 (0, 0)) (by (with_reducible repeat (first | refine blk_drewN ?_ _ | refine blk_drew ?_ | refine blk_alloc ?_ _)); exact BK260.out) hb); have n11_ := Aside0.mk (blk_below (g := gb270) (o := .cells #[.slice Ao38 t261.length co38, .int .i64 t264, .slice Ao43 t265.length co43] 26 (0, 0)) (by (with_reducible repeat (first | refine blk_drewN ?_ _ | refine blk_drew ?_ | refine blk_alloc ?_ _)); exact BK270.out) hb); have n12_ := Aside0.mk (below_step (by repeat (first | (with_reducible first | exact HB.out | apply below_alloc | apply pw_below_drewN | apply below_drew1 | refine below_set ?_ GE234.out | refine below_set ?_ GE252.out | refine below_set ?_ GE260.out | refine below_set ?_ GE270.out) | exact HB.out)) hb); clear HO_253000; clear HO_253002; clear HO_261000; clear HO_261002; clear HO_271000; clear HO_271002; clear HO274; clear HO278; clear BK234; clear BK252; clear BK260; clear BK270; clear HB; have HO_253000 := n0_; have HO_253002 := n1_; have HO_261000 := n2_; have HO_261002 := n3_; have HO_271000 := n4_; have HO_271002 := n5_; have HO274 := n6_; have HO278 := n7_; have BK234 := n8_; have BK252 := n9_; have BK260 := n10_; have BK270 := n11_; have HB := n12_; clear n0_ n1_ n2_ n3_ n4_ n5_ n6_ n7_ n8_ n9_ n10_ n11_ n12_; (try clear hb); (try clear hb2); (try clear hk); (try clear hi)))
                    go_meet
                    case rel => exact ⟨_, ((t269 != t251)), (by first | rfl | (simp; done) | (simp [*]; done)), H', ⟨by have := HJ13.out; first | omega | exact Nat.le_refl _⟩, ⟨by (with_reducible repeat (first | apply Kd.R_alloc | apply Kd.R_drewN | apply Kd.R_drew)); exact Kd.R_mono HO_253000.out (fun _ hk => ⟨hk.1, ⟨hk.2.1, ⟨hk.2.2.1, ⟨hk.2.2.2.1, hk.2.2.2.2.1⟩⟩⟩⟩)⟩, ⟨by (with_reducible repeat (first | apply Kd.Q_alloc | apply Kd.Q_drewN | apply Kd.Q_drew)); exact Kd.Q_mono HO_253002.out (fun _ hk => ⟨hk.1, ⟨hk.2.1, ⟨hk.2.2.1, ⟨hk.2.2.2.1, hk.2.2.2.2.1⟩⟩⟩⟩)⟩, ⟨by (with_reducible repeat (first | apply Kd.R_alloc | apply Kd.R_drewN | apply Kd.R_drew)); exact Kd.R_mono HO_261000.out (fun _ hk => ⟨hk.1.1.1, ⟨hk.1.1.2.1, ⟨hk.1.1.2.2.1, ⟨hk.1.1.2.2.2.1, hk.1.1.2.2.2.2⟩⟩⟩⟩)⟩, ⟨by (with_reducible repeat (first | apply Kd.R_alloc | apply Kd.R_drewN | apply Kd.R_drew)); exact Kd.R_mono HO_261002.out (fun _ hk => ⟨hk.1.1.1, ⟨hk.1.1.2.1, ⟨hk.1.1.2.2.1, ⟨hk.1.1.2.2.2.1, hk.1.1.2.2.2.2⟩⟩⟩⟩)⟩, ⟨by (with_reducible repeat (first | apply Kd.R_alloc | apply Kd.R_drewN | apply Kd.R_drew)); exact Kd.R_mono HO_271000.out (fun _ hk => ⟨hk.1, ⟨hk.2.1, ⟨hk.2.2.1, ⟨hk.2.2.2.1, hk.2.2.2.2.1⟩⟩⟩⟩)⟩, ⟨by (with_reducible repeat (first | apply Kd.R_alloc | apply Kd.R_drewN | apply Kd.R_drew)); exact Kd.R_mono HO_271002.out (fun _ hk => ⟨hk.1, ⟨hk.2.1, ⟨hk.2.2.1, ⟨hk.2.2.2.1, hk.2.2.2.2.1⟩⟩⟩⟩)⟩, ⟨by (with_reducible repeat (first | refine blk_drewN ?_ _ | refine blk_drew ?_ | refine blk_alloc ?_ _)); exact BK234.out⟩, ⟨by (with_reducible repeat (first | refine blk_drewN ?_ _ | refine blk_drew ?_ | refine blk_alloc ?_ _)); exact BK252.out⟩, ⟨by (with_reducible repeat (first | refine blk_drewN ?_ _ | refine blk_drew ?_ | refine blk_alloc ?_ _)); exact BK260.out⟩, ⟨by (with_reducible repeat (first | refine blk_drewN ?_ _ | refine blk_drew ?_ | refine blk_alloc ?_ _)); exact BK270.out⟩, ⟨by repeat (first | (with_reducible first | exact HB.out | apply below_alloc | apply pw_below_drewN | apply below_drew1 | refine below_set ?_ GE234.out | refine below_set ?_ GE252.out | refine below_set ?_ GE260.out | refine below_set ?_ GE270.out) | exact HB.out)⟩⟩
                  · rw [if_neg c74] at H
                    have c74b0 : (t268 == t250) = false := beq_eq_false_iff_ne.mpr c74
                    have c74b1 : (t268 != t250) = true := bne_iff_ne.mpr c74
                    exact absurd H (by cases kj13 <;> simp [laws_FnExactDevDo.j1])
                · replace c73 := Bool.eq_false_iff.mpr c73
                  subst c73
                  have H1 : (laws_FnExactDevDo.j1 kj13 a1 a2 a3 t250 t251 true l0_0 a0_1 l0_2 t243 t246 t247 t261 t264 t265) = some true := by rw [if_neg (show ¬ (false = true) by decide)] at H; exact H
                  clear H
                  have H := H1
                  clear H1
                  exact absurd H (by cases kj13 <;> simp [laws_FnExactDevDo.j1])
            case rest =>
              clear HC60
              try clear c1
              try clear c2
              try clear p2
              try clear c3
              try clear c4
              try clear c5
              try clear c6
              try clear c6b0
              try clear c7
              try clear c8
              try clear c12
              try clear c25
              try clear c27
              try clear c28
              try clear c30
              try clear c32
              try clear c33
              try clear c39
              try clear c40
              try clear c41
              try clear c42
              try clear c45
              try clear c46
              try clear c46b0
              try clear c46b1
              try clear c47
              try clear c48
              try clear c49
              try clear c51
              try clear c52
              try clear c55
              try clear c58
              try clear c66
              try clear c67
              try clear c68
              try clear c71
              try clear c71b0
              try clear c73
              try clear c74
              try clear c74b0
              try clear c74b1
              try clear c75
              try clear c76
              try clear c77
              try clear c79
              try clear c80
              try clear hcz16_0
              try clear hcz16_1
              try clear hcz16_2
              try clear hcz18_0
              try clear hcz18_1
              try clear hcz18_2
              try clear hcz26_0
              try clear hcz26_1
              try clear hcz26_2
              try clear hcz28_0
              try clear hcz28_1
              try clear hcz28_2
              try clear hcz34_0
              try clear hcz34_1
              try clear hcz34_2
              try clear hcz42_0
              try clear hcz42_1
              try clear hcz42_2
              try clear hcz50_0
              try clear hcz50_1
              try clear hcz50_2
              try clear hcz53_0
              try clear hcz53_1
              try clear hcz53_2
              try clear hcz69_0
              try clear hcz69_1
              try clear hcz69_2
              try clear hcz78_0
              try clear hcz78_1
              try clear hcz78_2
              try clear hcz81_0
              try clear hcz81_1
              try clear hcz81_2
              try clear hcz8_0
              try clear hcz8_1
              try clear hcz8_2
              try clear hfz16_0
              try clear hfz16_1
              try clear hfz16_2
              try clear hfz18_0
              try clear hfz18_1
              try clear hfz18_2
              try clear hfz26_0
              try clear hfz26_1
              try clear hfz26_2
              try clear hfz28_0
              try clear hfz28_1
              try clear hfz28_2
              try clear hfz34_0
              try clear hfz34_1
              try clear hfz34_2
              try clear hfz42_0
              try clear hfz42_1
              try clear hfz42_2
              try clear hfz50_0
              try clear hfz50_1
              try clear hfz50_2
              try clear hfz53_0
              try clear hfz53_1
              try clear hfz53_2
              try clear hfz69_0
              try clear hfz69_1
              try clear hfz69_2
              try clear hfz78_0
              try clear hfz78_1
              try clear hfz78_2
              try clear hfz81_0
              try clear hfz81_1
              try clear hfz81_2
              try clear hfz8_0
              try clear hfz8_1
              try clear hfz8_2
              try clear p2
              obtain ⟨kq, x88_59, rfl, HA, HJ59, HO_253000, HO_253002, HO_261000, HO_261002, HO_271000, HO_271002, BK234, BK252, BK260, BK270, HB⟩ := hcut
              have hl261000_59 := (Kd.R_reads' HO_261000.out).1
              rw [hl261000_59] at HO_261000
              (try simp only [hl261000_59])
              (try simp only [hl261000_59] at BK234)
              (try simp only [hl261000_59] at BK252)
              (try simp only [hl261000_59] at BK260)
              (try simp only [hl261000_59] at BK270)
              (try simp only [hl261000_59] at HO_253000)
              (try simp only [hl261000_59] at HO_253002)
              (try simp only [hl261000_59] at HO_261002)
              (try simp only [hl261000_59] at HO_271000)
              (try simp only [hl261000_59] at HO_271002)
              have hl261002_59 := (Kd.R_reads' HO_261002.out).1
              rw [hl261002_59] at HO_261002
              (try simp only [hl261002_59])
              (try simp only [hl261002_59] at BK234)
              (try simp only [hl261002_59] at BK252)
              (try simp only [hl261002_59] at BK260)
              (try simp only [hl261002_59] at BK270)
              (try simp only [hl261002_59] at HO_253000)
              (try simp only [hl261002_59] at HO_253002)
              (try simp only [hl261002_59] at HO_261000)
              (try simp only [hl261002_59] at HO_271000)
              (try simp only [hl261002_59] at HO_271002)
              cases kq with
              | zero => exact absurd HA.out (by simp [laws_FnExactDevDo.j1])
              | succ kj59 =>
                have H := HA.out
                clear HA
                simp only [laws_FnExactDevDo.j1] at H
                by_cases c83 : x88_59 = true
                · subst c83
                  have H1 : (some false) = some true := by rw [if_pos rfl] at H; exact H
                  clear H
                  have H := H1
                  clear H1
                  exact absurd (Option.some.inj H) (by decide)
                · replace c83 := Bool.eq_false_iff.mpr c83
                  subst c83
                  have H1 : ((laws_markDev.f kj59 t261 t264 t265 1).bind fun bt284 => ((laws_heldDev.f kj59 bt284.2.1 t264 bt284.2.2 1).bind fun t287 => (if t287 < 0 then (some false) else (if t287 = bt284.1 then ((laws_toDev.f kj59 l0_0 a0_1 l0_2).bind fun bt288 => ((impl_DevDo.f kj59 bt288.1 bt288.2.1 bt288.2.2 a1 a2 a3).bind fun bt295 => ((laws_eqDev.f kj59 bt295.1 bt295.2.1 bt295.2.2.1 t243 t246 t247).bind fun t305 => (if t305 = true then (if bt295.2.2.2.1 = t250 then (laws_FnExactDevDo.j2 kj59 bt284.1 (bt295.2.2.2.2 != t251) bt284.2.1 t264 bt284.2.2) else (laws_FnExactDevDo.j2 kj59 bt284.1 true bt284.2.1 t264 bt284.2.2)) else (laws_FnExactDevDo.j2 kj59 bt284.1 true bt284.2.1 t264 bt284.2.2))))) else (some false))))) = some true := by rw [if_neg (show ¬ (false = true) by decide)] at H; exact H
                  clear H
                  have H := H1
                  clear H1
                  replace H := Option.bind_eq_some_iff.mp H
                  obtain ⟨⟨t284, t285, t286⟩, A840, H⟩ := H
                  replace H : ((laws_heldDev.f kj59 t285 t264 t286 1).bind fun t287 => (if t287 < 0 then (some false) else (if t287 = t284 then ((laws_toDev.f kj59 l0_0 a0_1 l0_2).bind fun bt288 => ((impl_DevDo.f kj59 bt288.1 bt288.2.1 bt288.2.2 a1 a2 a3).bind fun bt295 => ((laws_eqDev.f kj59 bt295.1 bt295.2.1 bt295.2.2.1 t243 t246 t247).bind fun t305 => (if t305 = true then (if bt295.2.2.2.1 = t250 then (laws_FnExactDevDo.j2 kj59 t284 (bt295.2.2.2.2 != t251) t285 t264 t286) else (laws_FnExactDevDo.j2 kj59 t284 true t285 t264 t286)) else (laws_FnExactDevDo.j2 kj59 t284 true t285 t264 t286))))) else (some false)))) = some true := H
                  have A84 := Aside0.mk A840
                  clear A840
                  replace H := Option.bind_eq_some_iff.mp H
                  obtain ⟨t287, A850, H⟩ := H
                  replace H : (if t287 < 0 then (some false) else (if t287 = t284 then ((laws_toDev.f kj59 l0_0 a0_1 l0_2).bind fun bt288 => ((impl_DevDo.f kj59 bt288.1 bt288.2.1 bt288.2.2 a1 a2 a3).bind fun bt295 => ((laws_eqDev.f kj59 bt295.1 bt295.2.1 bt295.2.2.1 t243 t246 t247).bind fun t305 => (if t305 = true then (if bt295.2.2.2.1 = t250 then (laws_FnExactDevDo.j2 kj59 t284 (bt295.2.2.2.2 != t251) t285 t264 t286) else (laws_FnExactDevDo.j2 kj59 t284 true t285 t264 t286)) else (laws_FnExactDevDo.j2 kj59 t284 true t285 t264 t286))))) else (some false))) = some true := H
                  have A85 := Aside0.mk A850
                  clear A850
                  by_cases c86 : t287 < 0
                  · rw [if_pos c86] at H
                    have c86b0 : decide (t287 < 0) = true := decide_eq_true c86
                    clear c86
                    exact absurd (Option.some.inj H) (by decide)
                  · rw [if_neg c86] at H
                    have c86b0 : decide (t287 < 0) = false := decide_eq_false c86
                    clear c86
                    by_cases c87 : t287 = t284
                    · rw [if_pos c87] at H
                      have c87b0 : (t287 == t284) = true := beq_iff_eq.mpr c87
                      have c87b1 : (t287 != t284) = false := bne_eq_false_iff_eq.mpr c87
                      clear c87
                      replace H := Option.bind_eq_some_iff.mp H
                      obtain ⟨⟨t288, t291, t292⟩, A880, H⟩ := H
                      replace H : ((impl_DevDo.f kj59 t288 t291 t292 a1 a2 a3).bind fun bt295 => ((laws_eqDev.f kj59 bt295.1 bt295.2.1 bt295.2.2.1 t243 t246 t247).bind fun t305 => (if t305 = true then (if bt295.2.2.2.1 = t250 then (laws_FnExactDevDo.j2 kj59 t284 (bt295.2.2.2.2 != t251) t285 t264 t286) else (laws_FnExactDevDo.j2 kj59 t284 true t285 t264 t286)) else (laws_FnExactDevDo.j2 kj59 t284 true t285 t264 t286)))) = some true := H
                      have A88 := Aside0.mk A880
                      clear A880
                      replace H := Option.bind_eq_some_iff.mp H
                      obtain ⟨⟨t295, t298, t299, t302, t303⟩, A890, H⟩ := H
                      replace H : ((laws_eqDev.f kj59 t295 t298 t299 t243 t246 t247).bind fun t305 => (if t305 = true then (if t302 = t250 then (laws_FnExactDevDo.j2 kj59 t284 (t303 != t251) t285 t264 t286) else (laws_FnExactDevDo.j2 kj59 t284 true t285 t264 t286)) else (laws_FnExactDevDo.j2 kj59 t284 true t285 t264 t286))) = some true := H
                      have A89 := Aside0.mk A890
                      clear A890
                      have HC90 := Aside0.mk H
                      clear H
                      have hnb91 := NB270_234.out
                      have hnc91 := NB234_270.out
                      have hnb92 := NB270_252.out
                      have hnc92 := NB252_270.out
                      have hnb93 := NB270_260.out
                      have hnc93 := NB260_270.out
                      have hcz94_0 : wc.cell? ⟨gb270, 0, none⟩ = some (.slice Ao38 t261.length co38) := (blk_cell BK270.out 0).trans rfl
                      have hcz94_1 : wc.cell? ⟨gb270, 1, none⟩ = some (.int .i64 t264) := (blk_cell BK270.out 1).trans rfl
                      have hcz94_2 : wc.cell? ⟨gb270, 2, none⟩ = some (.slice Ao43 t265.length co43) := (blk_cell BK270.out 2).trans rfl
                      have hfz94_0 := blk_frozen BK270.out 0
                      have hfz94_1 := blk_frozen BK270.out 1
                      have hfz94_2 := blk_frozen BK270.out 2
                      go_upto_region 25 with (first | ((with_reducible refine gate_callee (f := 28) rfl ?_); refine goesL_ (some 91) rfl rfl Try.func28 (by kernel_rfl) rfl #[.agg #[.slice Ao38 t261.length co38, .int .i64 t264, .slice Ao43 t265.length co43], .int .i64 1] rfl (by (try simp only [List.map_toArray, List.map_cons, List.map_nil]); first | done | rfl | (simp only [List.length_drop, List.length_take]; rfl)) ?_; (with_reducible refine (laws_markDev.calls kj59 (fun k_ => some k_ = (.slice Ao38 t261.length co38 : Value).ownBlock) (.slice Ao38 t261.length co38) t261 t264 (fun k_ => some k_ = (.slice Ao43 t265.length co43 : Value).ownBlock) (.slice Ao43 t265.length co43) t265 1 t284 t285 t286 w _ ?side1 ?side2 ?side3 ?side4 ?side5 A84.out).mono ?_); (case side1 => repeat (first | (with_reducible first | exact HB.out | apply below_alloc | apply pw_below_drewN | apply below_drew1 | refine below_set ?_ GE234.out | refine below_set ?_ GE252.out | refine below_set ?_ GE260.out | refine below_set ?_ GE270.out) | exact HB.out)); (case side2 => exact Kd.R_tight rfl HO_271000.out); (case side3 => exact fun k_ e_ => (HO_271000.out.1 k_ e_.symm).2.2.2.2); (case side4 => exact Kd.R_tight rfl HO_271002.out); (case side5 => exact fun k_ e_ => (HO_271002.out.1 k_ e_.symm).2.2.2.2); rintro e w95 ⟨rfl, hy0, hy1, hb, hkp⟩; refine ⟨_, rfl, ?_⟩; have n0_ := Aside0.mk (Kd.R_mono (ok' := fun k_ => some k_ ≠ (.slice Ao27 t247.length co27 : Value).ownBlock ∧ some k_ ≠ (.slice Ao31 t281.length co31 : Value).ownBlock ∧ some k_ ≠ (.slice Ao35 t282.length co35 : Value).ownBlock ∧ some k_ ≠ (.slice Ao38 t261.length co38 : Value).ownBlock ∧ some k_ ≠ (.slice Ao43 t265.length co43 : Value).ownBlock) (Kd.R_keptB (HO_253000.out) hkp (fun k_ hk_ hs_ => Or.elim hs_ (fun e_ => (hk_.2.2.2.1) e_) (fun e_ => (hk_.2.2.2.2) e_))) (fun k_ hk_ => ⟨hk_.1.1, hk_.1.2.1, hk_.1.2.2.1, hk_.1.2.2.2.1, hk_.1.2.2.2.2⟩)); have n1_ := Aside0.mk (Kd.Q_mono (ok' := fun k_ => some k_ ≠ (.slice Ao24 t243.length co24 : Value).ownBlock ∧ some k_ ≠ (.slice Ao31 t281.length co31 : Value).ownBlock ∧ some k_ ≠ (.slice Ao35 t282.length co35 : Value).ownBlock ∧ some k_ ≠ (.slice Ao38 t261.length co38 : Value).ownBlock ∧ some k_ ≠ (.slice Ao43 t265.length co43 : Value).ownBlock) (Kd.Q_keptB (HO_253002.out) hkp (fun k_ hk_ hs_ => Or.elim hs_ (fun e_ => (hk_.2.2.2.1) e_) (fun e_ => (hk_.2.2.2.2) e_))) (fun k_ hk_ => ⟨hk_.1.1, hk_.1.2.1, hk_.1.2.2.1, hk_.1.2.2.2.1, hk_.1.2.2.2.2⟩)); have n2_ := Aside0.mk (Kd.R_mono (ok' := fun k_ => some k_ ≠ (.slice Ao24 t243.length co24 : Value).ownBlock ∧ some k_ ≠ (.slice Ao27 t247.length co27 : Value).ownBlock ∧ some k_ ≠ (.slice Ao35 t282.length co35 : Value).ownBlock ∧ some k_ ≠ (.slice Ao38 t261.length co38 : Value).ownBlock ∧ some k_ ≠ (.slice Ao43 t265.length co43 : Value).ownBlock) (Kd.R_keptB (HO_261000.out) hkp (fun k_ hk_ hs_ => Or.elim hs_ (fun e_ => (hk_.2.2.2.1) e_) (fun e_ => (hk_.2.2.2.2) e_))) (fun k_ hk_ => ⟨hk_.1.1, hk_.1.2.1, hk_.1.2.2.1, hk_.1.2.2.2.1, hk_.1.2.2.2.2⟩)); have n3_ := Aside0.mk (Kd.R_mono (ok' := fun k_ => some k_ ≠ (.slice Ao24 t243.length co24 : Value).ownBlock ∧ some k_ ≠ (.slice Ao27 t247.length co27 : Value).ownBlock ∧ some k_ ≠ (.slice Ao31 t281.length co31 : Value).ownBlock ∧ some k_ ≠ (.slice Ao38 t261.length co38 : Value).ownBlock ∧ some k_ ≠ (.slice Ao43 t265.length co43 : Value).ownBlock) (Kd.R_keptB (HO_261002.out) hkp (fun k_ hk_ hs_ => Or.elim hs_ (fun e_ => (hk_.2.2.2.1) e_) (fun e_ => (hk_.2.2.2.2) e_))) (fun k_ hk_ => ⟨hk_.1.1, hk_.1.2.1, hk_.1.2.2.1, hk_.1.2.2.2.1, hk_.1.2.2.2.2⟩)); have n4_ := Aside0.mk (Kd.R_reok rfl hy0 (fun k_ e_ => HO_271000.out.1 k_ e_)); have n5_ := Aside0.mk (Kd.R_reok rfl hy1 (fun k_ e_ => HO_271002.out.1 k_ e_)); have n6_ := Aside0.mk (blk_kept (by (with_reducible repeat (first | refine blk_drewN ?_ _ | refine blk_drew ?_ | refine blk_alloc ?_ _)); exact BK234.out) hkp (fun hs_ => Or.elim hs_ (fun e_ => (fun e_ => (Kd.R_ne HO_271000.out BK234.out (by decide)) e_) e_) (fun e_ => (fun e_ => (Kd.R_ne HO_271002.out BK234.out (by decide)) e_) e_))); have n7_ := Aside0.mk (blk_kept (by (with_reducible repeat (first | refine blk_drewN ?_ _ | refine blk_drew ?_ | refine blk_alloc ?_ _)); exact BK252.out) hkp (fun hs_ => Or.elim hs_ (fun e_ => (fun e_ => (Kd.R_ne HO_271000.out BK252.out (by decide)) e_) e_) (fun e_ => (fun e_ => (Kd.R_ne HO_271002.out BK252.out (by decide)) e_) e_))); have n8_ := Aside0.mk (blk_kept (by (with_reducible repeat (first | refine blk_drewN ?_ _ | refine blk_drew ?_ | refine blk_alloc ?_ _)); exact BK260.out) hkp (fun hs_ => Or.elim hs_ (fun e_ => (fun e_ => (Kd.R_ne HO_271000.out BK260.out (by decide)) e_) e_) (fun e_ => (fun e_ => (Kd.R_ne HO_271002.out BK260.out (by decide)) e_) e_))); have n9_ := Aside0.mk (blk_kept (by (with_reducible repeat (first | refine blk_drewN ?_ _ | refine blk_drew ?_ | refine blk_alloc ?_ _)); exact BK270.out) hkp (fun hs_ => Or.elim hs_ (fun e_ => (fun e_ => (Kd.R_ne HO_271000.out BK270.out (by decide)) e_) e_) (fun e_ => (fun e_ => (Kd.R_ne HO_271002.out BK270.out (by decide)) e_) e_))); have n10_ := Aside0.mk (hb); clear HO_253000; clear HO_253002; clear HO_261000; clear HO_261002; clear HO_271000; clear HO_271002; clear BK234; clear BK252; clear BK260; clear BK270; clear HB; have HO_253000 := n0_; have HO_253002 := n1_; have HO_261000 := n2_; have HO_261002 := n3_; have HO_271000 := n4_; have HO_271002 := n5_; have BK234 := n6_; have BK252 := n7_; have BK260 := n8_; have BK270 := n9_; have HB := n10_; clear n0_ n1_ n2_ n3_ n4_ n5_ n6_ n7_ n8_ n9_ n10_; (try clear hb); (try clear hkp); (try clear hy0); (try clear hy1); have hcz96_0 : w95.cell? ⟨gb270, 0, none⟩ = some (.slice Ao38 t261.length co38) := (blk_cell BK270.out 0).trans rfl; have hcz96_1 : w95.cell? ⟨gb270, 1, none⟩ = some (.int .i64 t264) := (blk_cell BK270.out 1).trans rfl; have hcz96_2 : w95.cell? ⟨gb270, 2, none⟩ = some (.slice Ao43 t265.length co43) := (blk_cell BK270.out 2).trans rfl; have hfz96_0 := blk_frozen BK270.out 0; have hfz96_1 := blk_frozen BK270.out 1; have hfz96_2 := blk_frozen BK270.out 2) | ((with_reducible refine gate_callee (f := 29) rfl ?_); refine goesL_ (some 94) rfl rfl Try.func29 (by kernel_rfl) rfl #[.agg #[.slice Ao38 t285.length co38, .int .i64 t264, .slice Ao43 t286.length co43], .int .i64 1] rfl (by (try simp only [List.map_toArray, List.map_cons, List.map_nil]); first | done | (rw [show t285.length = t261.length from (Kd.R_reads' HO_271000.out).1.symm, show t286.length = t265.length from (Kd.R_reads' HO_271002.out).1.symm] <;> rfl) | rfl | (simp only [List.length_drop, List.length_take]; rfl)) ?_; (with_reducible refine (laws_heldDev.calls kj59 _ _ t285 t264 _ _ t286 1 t287 _ ?side1 ?side2 ?side3 ?side4 A85.out).mono ?_); (case side1 => repeat (first | exact (Kd.R_reads' HO_271000.out).2.2 | (with_reducible refine Kd.C_alloc ?_ _) | (with_reducible refine Kd.C_drewN ?_ _) | (with_reducible refine Kd.C_drew ?_))); (case side2 => rw [show t285.length = t261.length from (Kd.R_reads' HO_271000.out).1.symm]; exact (Kd.R_reads' HO_271000.out).2.1); (case side3 => repeat (first | exact (Kd.R_reads' HO_271002.out).2.2 | (with_reducible refine Kd.C_alloc ?_ _) | (with_reducible refine Kd.C_drewN ?_ _) | (with_reducible refine Kd.C_drew ?_))); (case side4 => rw [show t286.length = t265.length from (Kd.R_reads' HO_271002.out).1.symm]; exact (Kd.R_reads' HO_271002.out).2.1); rintro e w97 ⟨rfl, hb⟩; refine ⟨_, rfl, ?_⟩; have n0_ := Aside0.mk (Kd.R_below (by (with_reducible repeat (first | apply Kd.R_alloc | apply Kd.R_drewN | apply Kd.R_drew)); exact HO_253000.out) hb); have n1_ := Aside0.mk (Kd.Q_below (by (with_reducible repeat (first | apply Kd.Q_alloc | apply Kd.Q_drewN | apply Kd.Q_drew)); exact HO_253002.out) hb); have n2_ := Aside0.mk (Kd.R_below (by (with_reducible repeat (first | apply Kd.R_alloc | apply Kd.R_drewN | apply Kd.R_drew)); exact HO_261000.out) hb); have n3_ := Aside0.mk (Kd.R_below (by (with_reducible repeat (first | apply Kd.R_alloc | apply Kd.R_drewN | apply Kd.R_drew)); exact HO_261002.out) hb); have n4_ := Aside0.mk (Kd.R_below (by (with_reducible repeat (first | apply Kd.R_alloc | apply Kd.R_drewN | apply Kd.R_drew)); exact HO_271000.out) hb); have n5_ := Aside0.mk (Kd.R_below (by (with_reducible repeat (first | apply Kd.R_alloc | apply Kd.R_drewN | apply Kd.R_drew)); exact HO_271002.out) hb); have n6_ := Aside0.mk (blk_below (g := gb234) (o := .cells #[.slice A0_0 l0_0.length c0_0, .int .i64 a0_1, .slice A0_2 l0_2.length c0_2] 36 (0, 0)) (by (with_reducible repeat (first | refine blk_drewN ?_ _ | refine blk_drew ?_ | refine blk_alloc ?_ _)); exact BK234.out) hb); have n7_ := Aside0.mk (blk_below (g := gb252) (o := .cells #[.slice Ao24 t243.length co24, .int .i64 t246, .slice Ao27 t247.length co27] 26 (0, 0)) (by (with_reducible repeat (first | refine blk_drewN ?_ _ | refine blk_drew ?_ | refine blk_alloc ?_ _)); exact BK252.out) hb); have n8_ := Aside0.mk (blk_below (g := gb260) (o := .cells #[.slice Ao31 t281.length co31, .int .i64 t256, .slice Ao35 t282.length co35] 26 (0, 0)) (by (with_reducible repeat (first | refine blk_drewN ?_ _ | refine blk_drew ?_ | refine blk_alloc ?_ _)); exact BK260.out) hb); have n9_ := Aside0.mk (blk_below (g := gb270) (o := .cells #[.slice Ao38 t261.length co38, .int .i64 t264, .slice Ao43 t265.length co43] 26 (0, 0)) (by (with_reducible repeat (first | refine blk_drewN ?_ _ | refine blk_drew ?_ | refine blk_alloc ?_ _)); exact BK270.out) hb); have n10_ := Aside0.mk (below_step (by repeat (first | (with_reducible first | exact HB.out | apply below_alloc | apply pw_below_drewN | apply below_drew1 | refine below_set ?_ GE234.out | refine below_set ?_ GE252.out | refine below_set ?_ GE260.out | refine below_set ?_ GE270.out) | exact HB.out)) hb); clear HO_253000; clear HO_253002; clear HO_261000; clear HO_261002; clear HO_271000; clear HO_271002; clear BK234; clear BK252; clear BK260; clear BK270; clear HB; have HO_253000 := n0_; have HO_253002 := n1_; have HO_261000 := n2_; have HO_261002 := n3_; have HO_271000 := n4_; have HO_271002 := n5_; have BK234 := n6_; have BK252 := n7_; have BK260 := n8_; have BK270 := n9_; have HB := n10_; clear n0_ n1_ n2_ n3_ n4_ n5_ n6_ n7_ n8_ n9_ n10_; (try clear hb); (try clear hb2); (try clear hk); (try clear hi); have hnb98 := NB234_252.out; have hnc98 := NB252_234.out; have hnb99 := NB234_260.out; have hnc99 := NB260_234.out; have hcz100_0 : w97.cell? ⟨gb234, 0, none⟩ = some (.slice A0_0 l0_0.length c0_0) := (blk_cell BK234.out 0).trans rfl; have hcz100_1 : w97.cell? ⟨gb234, 1, none⟩ = some (.int .i64 a0_1) := (blk_cell BK234.out 1).trans rfl; have hcz100_2 : w97.cell? ⟨gb234, 2, none⟩ = some (.slice A0_2 l0_2.length c0_2) := (blk_cell BK234.out 2).trans rfl; have hfz100_0 := blk_frozen BK234.out 0; have hfz100_1 := blk_frozen BK234.out 1; have hfz100_2 := blk_frozen BK234.out 2) | ((with_reducible refine gate_callee (f := 32) rfl ?_); refine goesL_ (some 102) rfl rfl Try.func32 (by kernel_rfl) rfl #[.agg #[.slice A0_0 l0_0.length c0_0, .int .i64 a0_1, .slice A0_2 l0_2.length c0_2]] rfl (by (try simp only [List.map_toArray, List.map_cons, List.map_nil]); first | done | rfl | (simp only [List.length_drop, List.length_take]; rfl)) ?_; (with_reducible refine (laws_toDev.calls kj59 _ _ l0_0 a0_1 _ _ l0_2 t288 t291 t292 _ ?side1 ?side2 ?side3 ?side4 A88.out).mono ?_); (case side1 => repeat (first | exact (Kd.C_below HR0_0.out HB.out) | (with_reducible refine Kd.C_alloc ?_ _) | (with_reducible refine Kd.C_drewN ?_ _) | (with_reducible refine Kd.C_drew ?_))); (case side2 => exact HC0_0.out); (case side3 => repeat (first | exact (Kd.C_below HR0_2.out HB.out) | (with_reducible refine Kd.C_alloc ?_ _) | (with_reducible refine Kd.C_drewN ?_ _) | (with_reducible refine Kd.C_drew ?_))); (case side4 => exact HC0_2.out); rintro e w101 ⟨v289, v293, rfl, ho0, ho1, hb⟩; refine ⟨_, rfl, ?_⟩; have n0_ := Aside0.mk (Kd.R_mono (Kd.R_told (Kd.R_told (Kd.R_old (by (with_reducible repeat (first | apply Kd.R_alloc | apply Kd.R_drewN | apply Kd.R_drew)); exact HO_253000.out) hb) (Kd.R_base ho0)) (Kd.R_base ho1)) (fun _ h_ => h_.1)); have n1_ := Aside0.mk (Kd.Q_mono (Kd.Q_told (Kd.Q_told (Kd.Q_old (by (with_reducible repeat (first | apply Kd.Q_alloc | apply Kd.Q_drewN | apply Kd.Q_drew)); exact HO_253002.out) hb) (Kd.R_base ho0)) (Kd.R_base ho1)) (fun _ h_ => h_.1)); have n2_ := Aside0.mk (Kd.R_mono (Kd.R_told (Kd.R_told (Kd.R_old (by (with_reducible repeat (first | apply Kd.R_alloc | apply Kd.R_drewN | apply Kd.R_drew)); exact HO_261000.out) hb) (Kd.R_base ho0)) (Kd.R_base ho1)) (fun _ h_ => h_.1)); have n3_ := Aside0.mk (Kd.R_mono (Kd.R_told (Kd.R_told (Kd.R_old (by (with_reducible repeat (first | apply Kd.R_alloc | apply Kd.R_drewN | apply Kd.R_drew)); exact HO_261002.out) hb) (Kd.R_base ho0)) (Kd.R_base ho1)) (fun _ h_ => h_.1)); have n4_ := Aside0.mk (Kd.R_mono (Kd.R_told (Kd.R_told (Kd.R_old (by (with_reducible repeat (first | apply Kd.R_alloc | apply Kd.R_drewN | apply Kd.R_drew)); exact HO_271000.out) hb) (Kd.R_base ho0)) (Kd.R_base ho1)) (fun _ h_ => h_.1)); have n5_ := Aside0.mk (Kd.R_mono (Kd.R_told (Kd.R_told (Kd.R_old (by (with_reducible repeat (first | apply Kd.R_alloc | apply Kd.R_drewN | apply Kd.R_drew)); exact HO_271002.out) hb) (Kd.R_base ho0)) (Kd.R_base ho1)) (fun _ h_ => h_.1)); have n6_ := Aside0.mk (Kd.R_lower (Kd.R_new' (Kd.R_new' (Kd.R_new' (Kd.R_new' (Kd.R_new' (Kd.R_new' ho0 (Kd.R_lt (by (with_reducible repeat (first | apply Kd.R_alloc | apply Kd.R_drewN | apply Kd.R_drew)); exact HO_253000.out))) (Kd.Q_lt (by (with_reducible repeat (first | apply Kd.Q_alloc | apply Kd.Q_drewN | apply Kd.Q_drew)); exact HO_253002.out))) (Kd.R_lt (by (with_reducible repeat (first | apply Kd.R_alloc | apply Kd.R_drewN | apply Kd.R_drew)); exact HO_261000.out))) (Kd.R_lt (by (with_reducible repeat (first | apply Kd.R_alloc | apply Kd.R_drewN | apply Kd.R_drew)); exact HO_261002.out))) (Kd.R_lt (by (with_reducible repeat (first | apply Kd.R_alloc | apply Kd.R_drewN | apply Kd.R_drew)); exact HO_271000.out))) (Kd.R_lt (by (with_reducible repeat (first | apply Kd.R_alloc | apply Kd.R_drewN | apply Kd.R_drew)); exact HO_271002.out))) (below_size (by repeat (first | (with_reducible first | exact HB.out | apply below_alloc | apply pw_below_drewN | apply below_drew1 | refine below_set ?_ GE234.out | refine below_set ?_ GE252.out | refine below_set ?_ GE260.out | refine below_set ?_ GE270.out) | exact HB.out)))); have n7_ := Aside0.mk (Kd.R_lower (Kd.R_new' (Kd.R_new' (Kd.R_new' (Kd.R_new' (Kd.R_new' (Kd.R_new' ho1 (Kd.R_lt (by (with_reducible repeat (first | apply Kd.R_alloc | apply Kd.R_drewN | apply Kd.R_drew)); exact HO_253000.out))) (Kd.Q_lt (by (with_reducible repeat (first | apply Kd.Q_alloc | apply Kd.Q_drewN | apply Kd.Q_drew)); exact HO_253002.out))) (Kd.R_lt (by (with_reducible repeat (first | apply Kd.R_alloc | apply Kd.R_drewN | apply Kd.R_drew)); exact HO_261000.out))) (Kd.R_lt (by (with_reducible repeat (first | apply Kd.R_alloc | apply Kd.R_drewN | apply Kd.R_drew)); exact HO_261002.out))) (Kd.R_lt (by (with_reducible repeat (first | apply Kd.R_alloc | apply Kd.R_drewN | apply Kd.R_drew)); exact HO_271000.out))) (Kd.R_lt (by (with_reducible repeat (first | apply Kd.R_alloc | apply Kd.R_drewN | apply Kd.R_drew)); exact HO_271002.out))) (below_size (by repeat (first | (with_reducible first | exact HB.out | apply below_alloc | apply pw_below_drewN | apply below_drew1 | refine below_set ?_ GE234.out | refine below_set ?_ GE252.out | refine below_set ?_ GE260.out | refine below_set ?_ GE270.out) | exact HB.out)))); have n8_ := Aside0.mk (blk_below (g := gb234) (o := .cells #[.slice A0_0 l0_0.length c0_0, .int .i64 a0_1, .slice A0_2 l0_2.length c0_2] 36 (0, 0)) (by (with_reducible repeat (first | refine blk_drewN ?_ _ | refine blk_drew ?_ | refine blk_alloc ?_ _)); exact BK234.out) hb); have n9_ := Aside0.mk (blk_below (g := gb252) (o := .cells #[.slice Ao24 t243.length co24, .int .i64 t246, .slice Ao27 t247.length co27] 26 (0, 0)) (by (with_reducible repeat (first | refine blk_drewN ?_ _ | refine blk_drew ?_ | refine blk_alloc ?_ _)); exact BK252.out) hb); have n10_ := Aside0.mk (blk_below (g := gb260) (o := .cells #[.slice Ao31 t281.length co31, .int .i64 t256, .slice Ao35 t282.length co35] 26 (0, 0)) (by (with_reducible repeat (first | refine blk_drewN ?_ _ | refine blk_drew ?_ | refine blk_alloc ?_ _)); exact BK260.out) hb); have n11_ := Aside0.mk (blk_below (g := gb270) (o := .cells #[.slice Ao38 t261.length co38, .int .i64 t264, .slice Ao43 t265.length co43] 26 (0, 0)) (by (with_reducible repeat (first | refine blk_drewN ?_ _ | refine blk_drew ?_ | refine blk_alloc ?_ _)); exact BK270.out) hb); have n12_ := Aside0.mk (below_step (by repeat (first | (with_reducible first | exact HB.out | apply below_alloc | apply pw_below_drewN | apply below_drew1 | refine below_set ?_ GE234.out | refine below_set ?_ GE252.out | refine below_set ?_ GE260.out | refine below_set ?_ GE270.out) | exact HB.out)) hb); clear HO_253000; clear HO_253002; clear HO_261000; clear HO_261002; clear HO_271000; clear HO_271002; clear BK234; clear BK252; clear BK260; clear BK270; clear HB; have HO_253000 := n0_; have HO_253002 := n1_; have HO_261000 := n2_; have HO_261002 := n3_; have HO_271000 := n4_; have HO_271002 := n5_; have HO290 := n6_; have HO294 := n7_; have BK234 := n8_; have BK252 := n9_; have BK260 := n10_; have BK270 := n11_; have HB := n12_; clear n0_ n1_ n2_ n3_ n4_ n5_ n6_ n7_ n8_ n9_ n10_ n11_ n12_; (try clear hb); (try clear hb2); (try clear hk); (try clear hi); (try clear ho0); (try clear ho1); obtain ⟨Ao102, co102, eo102⟩ := Kd.R_slice HO290.out; subst eo102; obtain ⟨Ao103, co103, eo103⟩ := Kd.R_slice HO294.out; subst eo103) | ((with_reducible refine gate_callee (f := 41) rfl ?_); refine goesL_ (some 106) rfl rfl Try.func41 (by kernel_rfl) rfl #[.agg #[.slice Ao102 t288.length co102, .int .i64 t291, .slice Ao103 t292.length co103], .bool a1, .int .i64 a2, .int .i64 a3] rfl (by (try simp only [List.map_toArray, List.map_cons, List.map_nil]); first | done | rfl | (simp only [List.length_drop, List.length_take]; rfl)) ?_; (with_reducible refine (impl_DevDo.calls kj59 _ _ t288 t291 _ _ t292 a1 a2 a3 t295 t298 t299 t302 t303 _ ?side1 ?side2 ?side3 ?side4 A89.out).mono ?_); (case side1 => repeat (first | exact (Kd.R_reads' HO290.out).2.2 | (with_reducible refine Kd.C_alloc ?_ _) | (with_reducible refine Kd.C_drewN ?_ _) | (with_reducible refine Kd.C_drew ?_))); (case side2 => exact (Kd.R_reads' HO290.out).2.1); (case side3 => repeat (first | exact (Kd.R_reads' HO294.out).2.2 | (with_reducible refine Kd.C_alloc ?_ _) | (with_reducible refine Kd.C_drewN ?_ _) | (with_reducible refine Kd.C_drew ?_))); (case side4 => exact (Kd.R_reads' HO294.out).2.1); rintro e w104 ⟨v296, v300, rfl, ho0, ho1, hb⟩; refine ⟨_, rfl, ?_⟩; have n0_ := Aside0.mk (Kd.R_mono (Kd.R_told (Kd.R_told (Kd.R_old (by (with_reducible repeat (first | apply Kd.R_alloc | apply Kd.R_drewN | apply Kd.R_drew)); exact HO_253000.out) hb) (Kd.R_base ho0)) (Kd.R_base ho1)) (fun _ h_ => h_.1)); have n1_ := Aside0.mk (Kd.Q_mono (Kd.Q_told (Kd.Q_told (Kd.Q_old (by (with_reducible repeat (first | apply Kd.Q_alloc | apply Kd.Q_drewN | apply Kd.Q_drew)); exact HO_253002.out) hb) (Kd.R_base ho0)) (Kd.R_base ho1)) (fun _ h_ => h_.1)); have n2_ := Aside0.mk (Kd.R_mono (Kd.R_told (Kd.R_told (Kd.R_old (by (with_reducible repeat (first | apply Kd.R_alloc | apply Kd.R_drewN | apply Kd.R_drew)); exact HO_261000.out) hb) (Kd.R_base ho0)) (Kd.R_base ho1)) (fun _ h_ => h_.1)); have n3_ := Aside0.mk (Kd.R_mono (Kd.R_told (Kd.R_told (Kd.R_old (by (with_reducible repeat (first | apply Kd.R_alloc | apply Kd.R_drewN | apply Kd.R_drew)); exact HO_261002.out) hb) (Kd.R_base ho0)) (Kd.R_base ho1)) (fun _ h_ => h_.1)); have n4_ := Aside0.mk (Kd.R_mono (Kd.R_told (Kd.R_told (Kd.R_old (by (with_reducible repeat (first | apply Kd.R_alloc | apply Kd.R_drewN | apply Kd.R_drew)); exact HO_271000.out) hb) (Kd.R_base ho0)) (Kd.R_base ho1)) (fun _ h_ => h_.1)); have n5_ := Aside0.mk (Kd.R_mono (Kd.R_told (Kd.R_told (Kd.R_old (by (with_reducible repeat (first | apply Kd.R_alloc | apply Kd.R_drewN | apply Kd.R_drew)); exact HO_271002.out) hb) (Kd.R_base ho0)) (Kd.R_base ho1)) (fun _ h_ => h_.1)); have n6_ := Aside0.mk (Kd.R_mono (Kd.R_told (Kd.R_told (Kd.R_old (by (with_reducible repeat (first | apply Kd.R_alloc | apply Kd.R_drewN | apply Kd.R_drew)); exact HO290.out) hb) (Kd.R_base ho0)) (Kd.R_base ho1)) (fun _ h_ => h_.1)); have n7_ := Aside0.mk (Kd.R_mono (Kd.R_told (Kd.R_told (Kd.R_old (by (with_reducible repeat (first | apply Kd.R_alloc | apply Kd.R_drewN | apply Kd.R_drew)); exact HO294.out) hb) (Kd.R_base ho0)) (Kd.R_base ho1)) (fun _ h_ => h_.1)); have n8_ := Aside0.mk (Kd.R_lower (Kd.R_new' (Kd.R_new' (Kd.R_new' (Kd.R_new' (Kd.R_new' (Kd.R_new' (Kd.R_new' (Kd.R_new' ho0 (Kd.R_lt (by (with_reducible repeat (first | apply Kd.R_alloc | apply Kd.R_drewN | apply Kd.R_drew)); exact HO_253000.out))) (Kd.Q_lt (by (with_reducible repeat (first | apply Kd.Q_alloc | apply Kd.Q_drewN | apply Kd.Q_drew)); exact HO_253002.out))) (Kd.R_lt (by (with_reducible repeat (first | apply Kd.R_alloc | apply Kd.R_drewN | apply Kd.R_drew)); exact HO_261000.out))) (Kd.R_lt (by (with_reducible repeat (first | apply Kd.R_alloc | apply Kd.R_drewN | apply Kd.R_drew)); exact HO_261002.out))) (Kd.R_lt (by (with_reducible repeat (first | apply Kd.R_alloc | apply Kd.R_drewN | apply Kd.R_drew)); exact HO_271000.out))) (Kd.R_lt (by (with_reducible repeat (first | apply Kd.R_alloc | apply Kd.R_drewN | apply Kd.R_drew)); exact HO_271002.out))) (Kd.R_lt (by (with_reducible repeat (first | apply Kd.R_alloc | apply Kd.R_drewN | apply Kd.R_drew)); exact HO290.out))) (Kd.R_lt (by (with_reducible repeat (first | apply Kd.R_alloc | apply Kd.R_drewN | apply Kd.R_drew)); exact HO294.out))) (below_size (by repeat (first | (with_reducible first | exact HB.out | apply below_alloc | apply pw_below_drewN | apply below_drew1 | refine below_set ?_ GE234.out | refine below_set ?_ GE252.out | refine below_set ?_ GE260.out | refine below_set ?_ GE270.out) | exact HB.out)))); have n9_ := Aside0.mk (Kd.R_lower (Kd.R_new' (Kd.R_new' (Kd.R_new' (Kd.R_new' (Kd.R_new' (Kd.R_new' (Kd.R_new' (Kd.R_new' ho1 (Kd.R_lt (by (with_reducible repeat (first | apply Kd.R_alloc | apply Kd.R_drewN | apply Kd.R_drew)); exact HO_253000.out))) (Kd.Q_lt (by (with_reducible repeat (first | apply Kd.Q_alloc | apply Kd.Q_drewN | apply Kd.Q_drew)); exact HO_253002.out))) (Kd.R_lt (by (with_reducible repeat (first | apply Kd.R_alloc | apply Kd.R_drewN | apply Kd.R_drew)); exact HO_261000.out))) (Kd.R_lt (by (with_reducible repeat (first | apply Kd.R_alloc | apply Kd.R_drewN | apply Kd.R_drew)); exact HO_261002.out))) (Kd.R_lt (by (with_reducible repeat (first | apply Kd.R_alloc | apply Kd.R_drewN | apply Kd.R_drew)); exact HO_271000.out))) (Kd.R_lt (by (with_reducible repeat (first | apply Kd.R_alloc | apply Kd.R_drewN | apply Kd.R_drew)); exact HO_271002.out))) (Kd.R_lt (by (with_reducible repeat (first | apply Kd.R_alloc | apply Kd.R_drewN | apply Kd.R_drew)); exact HO290.out))) (Kd.R_lt (by (with_reducible repeat (first | apply Kd.R_alloc | apply Kd.R_drewN | apply Kd.R_drew)); exact HO294.out))) (below_size (by repeat (first | (with_reducible first | exact HB.out | apply below_alloc | apply pw_below_drewN | apply below_drew1 | refine below_set ?_ GE234.out | refine below_set ?_ GE252.out | refine below_set ?_ GE260.out | refine below_set ?_ GE270.out) | exact HB.out)))); have n10_ := Aside0.mk (blk_below (g := gb234) (o := .cells #[.slice A0_0 l0_0.length c0_0, .int .i64 a0_1, .slice A0_2 l0_2.length c0_2] 36 (0, 0)) (by (with_reducible repeat (first | refine blk_drewN ?_ _ | refine blk_drew ?_ | refine blk_alloc ?_ _)); exact BK234.out) hb); have n11_ := Aside0.mk (blk_below (g := gb252) (o := .cells #[.slice Ao24 t243.length co24, .int .i64 t246, .slice Ao27 t247.length co27] 26 (0, 0)) (by (with_reducible repeat (first | refine blk_drewN ?_ _ | refine blk_drew ?_ | refine blk_alloc ?_ _)); exact BK252.out) hb); have n12_ := Aside0.mk (blk_below (g := gb260) (o := .cells #[.slice Ao31 t281.length co31, .int .i64 t256, .slice Ao35 t282.length co35] 26 (0, 0)) (by (with_reducible repeat (first | refine blk_drewN ?_ _ | refine blk_drew ?_ | refine blk_alloc ?_ _)); exact BK260.out) hb); have n13_ := Aside0.mk (blk_below (g := gb270) (o := .cells #[.slice Ao38 t261.length co38, .int .i64 t264, .slice Ao43 t265.length co43] 26 (0, 0)) (by (with_reducible repeat (first | refine blk_drewN ?_ _ | refine blk_drew ?_ | refine blk_alloc ?_ _)); exact BK270.out) hb); have n14_ := Aside0.mk (below_step (by repeat (first | (with_reducible first | exact HB.out | apply below_alloc | apply pw_below_drewN | apply below_drew1 | refine below_set ?_ GE234.out | refine below_set ?_ GE252.out | refine below_set ?_ GE260.out | refine below_set ?_ GE270.out) | exact HB.out)) hb); clear HO_253000; clear HO_253002; clear HO_261000; clear HO_261002; clear HO_271000; clear HO_271002; clear HO290; clear HO294; clear BK234; clear BK252; clear BK260; clear BK270; clear HB; have HO_253000 := n0_; have HO_253002 := n1_; have HO_261000 := n2_; have HO_261002 := n3_; have HO_271000 := n4_; have HO_271002 := n5_; have HO290 := n6_; have HO294 := n7_; have HO297 := n8_; have HO301 := n9_; have BK234 := n10_; have BK252 := n11_; have BK260 := n12_; have BK270 := n13_; have HB := n14_; clear n0_ n1_ n2_ n3_ n4_ n5_ n6_ n7_ n8_ n9_ n10_ n11_ n12_ n13_ n14_; (try clear hb); (try clear hb2); (try clear hk); (try clear hi); (try clear ho0); (try clear ho1)) | ((with_reducible refine gate_dst (N := 20) rfl ?_); refine box_event ?hg (N := 20) ?hd (cs := #[.slice none 0 0, .int .i64 0, .slice none 0 0]) (t := 26) ?hr ?_; (case hd => rfl); (case hg => rfl); (case hr => first | (go_simp; done) | (go_simp; rfl)); intro gb304 hg w105 hbox hb; have n0_ := Aside0.mk (Kd.R_below (by (with_reducible repeat (first | apply Kd.R_alloc | apply Kd.R_drewN | apply Kd.R_drew)); exact HO_253000.out) hb); have n1_ := Aside0.mk (Kd.Q_below (by (with_reducible repeat (first | apply Kd.Q_alloc | apply Kd.Q_drewN | apply Kd.Q_drew)); exact HO_253002.out) hb); have n2_ := Aside0.mk (Kd.R_below (by (with_reducible repeat (first | apply Kd.R_alloc | apply Kd.R_drewN | apply Kd.R_drew)); exact HO_261000.out) hb); have n3_ := Aside0.mk (Kd.R_below (by (with_reducible repeat (first | apply Kd.R_alloc | apply Kd.R_drewN | apply Kd.R_drew)); exact HO_261002.out) hb); have n4_ := Aside0.mk (Kd.R_below (by (with_reducible repeat (first | apply Kd.R_alloc | apply Kd.R_drewN | apply Kd.R_drew)); exact HO_271000.out) hb); have n5_ := Aside0.mk (Kd.R_below (by (with_reducible repeat (first | apply Kd.R_alloc | apply Kd.R_drewN | apply Kd.R_drew)); exact HO_271002.out) hb); have n6_ := Aside0.mk (Kd.R_below (by (with_reducible repeat (first | apply Kd.R_alloc | apply Kd.R_drewN | apply Kd.R_drew)); exact HO290.out) hb); have n7_ := Aside0.mk (Kd.R_below (by (with_reducible repeat (first | apply Kd.R_alloc | apply Kd.R_drewN | apply Kd.R_drew)); exact HO294.out) hb); have n8_ := Aside0.mk (Kd.R_below (by (with_reducible repeat (first | apply Kd.R_alloc | apply Kd.R_drewN | apply Kd.R_drew)); exact HO297.out) hb); have n9_ := Aside0.mk (Kd.R_below (by (with_reducible repeat (first | apply Kd.R_alloc | apply Kd.R_drewN | apply Kd.R_drew)); exact HO301.out) hb); have n10_ := Aside0.mk (blk_below (g := gb234) (o := .cells #[.slice A0_0 l0_0.length c0_0, .int .i64 a0_1, .slice A0_2 l0_2.length c0_2] 36 (0, 0)) (by (with_reducible repeat (first | refine blk_drewN ?_ _ | refine blk_drew ?_ | refine blk_alloc ?_ _)); exact BK234.out) hb); have n11_ := Aside0.mk (blk_below (g := gb252) (o := .cells #[.slice Ao24 t243.length co24, .int .i64 t246, .slice Ao27 t247.length co27] 26 (0, 0)) (by (with_reducible repeat (first | refine blk_drewN ?_ _ | refine blk_drew ?_ | refine blk_alloc ?_ _)); exact BK252.out) hb); have n12_ := Aside0.mk (blk_below (g := gb260) (o := .cells #[.slice Ao31 t281.length co31, .int .i64 t256, .slice Ao35 t282.length co35] 26 (0, 0)) (by (with_reducible repeat (first | refine blk_drewN ?_ _ | refine blk_drew ?_ | refine blk_alloc ?_ _)); exact BK260.out) hb); have n13_ := Aside0.mk (blk_below (g := gb270) (o := .cells #[.slice Ao38 t261.length co38, .int .i64 t264, .slice Ao43 t265.length co43] 26 (0, 0)) (by (with_reducible repeat (first | refine blk_drewN ?_ _ | refine blk_drew ?_ | refine blk_alloc ?_ _)); exact BK270.out) hb); have n14_ := Aside0.mk (below_step (by repeat (first | (with_reducible first | exact HB.out | apply below_alloc | apply pw_below_drewN | apply below_drew1 | refine below_set ?_ GE234.out | refine below_set ?_ GE252.out | refine below_set ?_ GE260.out | refine below_set ?_ GE270.out) | exact HB.out)) hb); have n15_ := Aside0.mk (hbox); have n16_ := Aside0.mk ((by rw [hg]; exact (below_size (by repeat (first | (with_reducible first | exact HB.out | apply below_alloc | apply pw_below_drewN | apply below_drew1 | refine below_set ?_ GE234.out | refine below_set ?_ GE252.out | refine below_set ?_ GE260.out | refine below_set ?_ GE270.out) | exact HB.out))) : w.heap.size ≤ gb304)); have n17_ := Aside0.mk ((by rw [hg]; exact (below_size (by repeat (first | (with_reducible first | exact HB.out | apply below_alloc | apply pw_below_drewN | apply below_drew1 | refine below_set ?_ GE234.out | refine below_set ?_ GE252.out | refine below_set ?_ GE260.out | refine below_set ?_ GE270.out) | exact HB.out))) : w.heap.size ≤ gb304)); have n18_ := Aside0.mk ((by rw [hg]; exact Nat.ne_of_lt (blk_lt (g := gb234) (o := .cells #[.slice A0_0 l0_0.length c0_0, .int .i64 a0_1, .slice A0_2 l0_2.length c0_2] 36 (0, 0)) (by (with_reducible repeat (first | refine blk_drewN ?_ _ | refine blk_drew ?_ | refine blk_alloc ?_ _)); exact BK234.out)) : gb234 ≠ gb304)); have n19_ := Aside0.mk ((by rw [hg]; exact Nat.ne_of_gt (blk_lt (g := gb234) (o := .cells #[.slice A0_0 l0_0.length c0_0, .int .i64 a0_1, .slice A0_2 l0_2.length c0_2] 36 (0, 0)) (by (with_reducible repeat (first | refine blk_drewN ?_ _ | refine blk_drew ?_ | refine blk_alloc ?_ _)); exact BK234.out)) : gb304 ≠ gb234)); have n20_ := Aside0.mk ((by rw [hg]; exact Nat.ne_of_lt (blk_lt (g := gb252) (o := .cells #[.slice Ao24 t243.length co24, .int .i64 t246, .slice Ao27 t247.length co27] 26 (0, 0)) (by (with_reducible repeat (first | refine blk_drewN ?_ _ | refine blk_drew ?_ | refine blk_alloc ?_ _)); exact BK252.out)) : gb252 ≠ gb304)); have n21_ := Aside0.mk ((by rw [hg]; exact Nat.ne_of_gt (blk_lt (g := gb252) (o := .cells #[.slice Ao24 t243.length co24, .int .i64 t246, .slice Ao27 t247.length co27] 26 (0, 0)) (by (with_reducible repeat (first | refine blk_drewN ?_ _ | refine blk_drew ?_ | refine blk_alloc ?_ _)); exact BK252.out)) : gb304 ≠ gb252)); have n22_ := Aside0.mk ((by rw [hg]; exact Nat.ne_of_lt (blk_lt (g := gb260) (o := .cells #[.slice Ao31 t281.length co31, .int .i64 t256, .slice Ao35 t282.length co35] 26 (0, 0)) (by (with_reducible repeat (first | refine blk_drewN ?_ _ | refine blk_drew ?_ | refine blk_alloc ?_ _)); exact BK260.out)) : gb260 ≠ gb304)); have n23_ := Aside0.mk ((by rw [hg]; exact Nat.ne_of_gt (blk_lt (g := gb260) (o := .cells #[.slice Ao31 t281.length co31, .int .i64 t256, .slice Ao35 t282.length co35] 26 (0, 0)) (by (with_reducible repeat (first | refine blk_drewN ?_ _ | refine blk_drew ?_ | refine blk_alloc ?_ _)); exact BK260.out)) : gb304 ≠ gb260)); have n24_ := Aside0.mk ((by rw [hg]; exact Nat.ne_of_lt (blk_lt (g := gb270) (o := .cells #[.slice Ao38 t261.length co38, .int .i64 t264, .slice Ao43 t265.length co43] 26 (0, 0)) (by (with_reducible repeat (first | refine blk_drewN ?_ _ | refine blk_drew ?_ | refine blk_alloc ?_ _)); exact BK270.out)) : gb270 ≠ gb304)); have n25_ := Aside0.mk ((by rw [hg]; exact Nat.ne_of_gt (blk_lt (g := gb270) (o := .cells #[.slice Ao38 t261.length co38, .int .i64 t264, .slice Ao43 t265.length co43] 26 (0, 0)) (by (with_reducible repeat (first | refine blk_drewN ?_ _ | refine blk_drew ?_ | refine blk_alloc ?_ _)); exact BK270.out)) : gb304 ≠ gb270)); clear HO_253000; clear HO_253002; clear HO_261000; clear HO_261002; clear HO_271000; clear HO_271002; clear HO290; clear HO294; clear HO297; clear HO301; clear BK234; clear BK252; clear BK260; clear BK270; clear HB; have HO_253000 := n0_; have HO_253002 := n1_; have HO_261000 := n2_; have HO_261002 := n3_; have HO_271000 := n4_; have HO_271002 := n5_; have HO290 := n6_; have HO294 := n7_; have HO297 := n8_; have HO301 := n9_; have BK234 := n10_; have BK252 := n11_; have BK260 := n12_; have BK270 := n13_; have HB := n14_; have BK304 := n15_; have GW304 := n16_; have GE304 := n17_; have NB234_304 := n18_; have NB304_234 := n19_; have NB252_304 := n20_; have NB304_252 := n21_; have NB260_304 := n22_; have NB304_260 := n23_; have NB270_304 := n24_; have NB304_270 := n25_; clear n0_ n1_ n2_ n3_ n4_ n5_ n6_ n7_ n8_ n9_ n10_ n11_ n12_ n13_ n14_ n15_ n16_ n17_ n18_ n19_ n20_ n21_ n22_ n23_ n24_ n25_; clear hb hbox hg; obtain ⟨Ao106, co106, eo106⟩ := Kd.R_slice HO297.out; subst eo106; have hnb107 := NB304_234.out; have hnc107 := NB234_304.out; have hnb108 := NB304_252.out; have hnc108 := NB252_304.out; have hnb109 := NB304_260.out; have hnc109 := NB260_304.out; have hnb110 := NB304_270.out; have hnc110 := NB270_304.out; have hcz111_0 : w105.cell? ⟨gb304, 0, none⟩ = some (.slice none 0 0) := (blk_cell BK304.out 0).trans rfl; have hcz111_1 : w105.cell? ⟨gb304, 1, none⟩ = some (.int .i64 0) := (blk_cell BK304.out 1).trans rfl; have hcz111_2 : w105.cell? ⟨gb304, 2, none⟩ = some (.slice none 0 0) := (blk_cell BK304.out 2).trans rfl; have hfz111_0 := blk_frozen BK304.out 0; have hfz111_1 := blk_frozen BK304.out 1; have hfz111_2 := blk_frozen BK304.out 2; obtain ⟨Ao112, co112, eo112⟩ := Kd.R_slice HO301.out; subst eo112))
                      (try simp only [Act.put, List.setIfInBounds_toArray, List.set_cons_zero, List.set_cons_succ])
                      go_cut [123] (fun v123 wc => ∃ (kq : Nat) (x123_89 : Bool), v123 = .bool x123_89 ∧ Aside0 (laws_FnExactDevDo.j2 kq t284 x123_89 t285 t264 t286 = some true) ∧ Aside0 (kq ≤ kj59) ∧ Aside0 (Kd.R (Kd.int .i64) 3 wc w.heap.size (fun k_ => some k_ ≠ ((.slice Ao27 t247.length co27) : Value).ownBlock ∧ some k_ ≠ ((.slice Ao31 t281.length co31) : Value).ownBlock ∧ some k_ ≠ ((.slice Ao35 t282.length co35) : Value).ownBlock ∧ some k_ ≠ ((.slice Ao38 t261.length co38) : Value).ownBlock ∧ some k_ ≠ ((.slice Ao43 t265.length co43) : Value).ownBlock ∧ some k_ ≠ ((.slice Ao106 t295.length co106) : Value).ownBlock ∧ some k_ ≠ ((.slice Ao112 t299.length co112) : Value).ownBlock) (.slice Ao24 t243.length co24) t243) ∧ Aside0 (Kd.Q (Kd.int .i64) 3 wc w.heap.size (fun k_ => some k_ ≠ ((.slice Ao24 t243.length co24) : Value).ownBlock ∧ some k_ ≠ ((.slice Ao31 t281.length co31) : Value).ownBlock ∧ some k_ ≠ ((.slice Ao35 t282.length co35) : Value).ownBlock ∧ some k_ ≠ ((.slice Ao38 t261.length co38) : Value).ownBlock ∧ some k_ ≠ ((.slice Ao43 t265.length co43) : Value).ownBlock ∧ some k_ ≠ ((.slice Ao106 t295.length co106) : Value).ownBlock ∧ some k_ ≠ ((.slice Ao112 t299.length co112) : Value).ownBlock) (.slice Ao27 t247.length co27) t247) ∧ Aside0 (Kd.R (Kd.int .i64) 3 wc w.heap.size (fun k_ => some k_ ≠ ((.slice Ao24 t243.length co24) : Value).ownBlock ∧ some k_ ≠ ((.slice Ao27 t247.length co27) : Value).ownBlock ∧ some k_ ≠ ((.slice Ao35 t282.length co35) : Value).ownBlock ∧ some k_ ≠ ((.slice Ao38 t261.length co38) : Value).ownBlock ∧ some k_ ≠ ((.slice Ao43 t265.length co43) : Value).ownBlock ∧ some k_ ≠ ((.slice Ao106 t295.length co106) : Value).ownBlock ∧ some k_ ≠ ((.slice Ao112 t299.length co112) : Value).ownBlock) (.slice Ao31 t281.length co31) t281) ∧ Aside0 (Kd.R (Kd.int .i64) 3 wc w.heap.size (fun k_ => some k_ ≠ ((.slice Ao24 t243.length co24) : Value).ownBlock ∧ some k_ ≠ ((.slice Ao27 t247.length co27) : Value).ownBlock ∧ some k_ ≠ ((.slice Ao31 t281.length co31) : Value).ownBlock ∧ some k_ ≠ ((.slice Ao38 t261.length co38) : Value).ownBlock ∧ some k_ ≠ ((.slice Ao43 t265.length co43) : Value).ownBlock ∧ some k_ ≠ ((.slice Ao106 t295.length co106) : Value).ownBlock ∧ some k_ ≠ ((.slice Ao112 t299.length co112) : Value).ownBlock) (.slice Ao35 t282.length co35) t282) ∧ Aside0 (Kd.R (Kd.int .i64) 3 wc w.heap.size (fun k_ => some k_ ≠ ((.slice Ao24 t243.length co24) : Value).ownBlock ∧ some k_ ≠ ((.slice Ao27 t247.length co27) : Value).ownBlock ∧ some k_ ≠ ((.slice Ao31 t281.length co31) : Value).ownBlock ∧ some k_ ≠ ((.slice Ao35 t282.length co35) : Value).ownBlock ∧ some k_ ≠ ((.slice Ao43 t265.length co43) : Value).ownBlock ∧ some k_ ≠ ((.slice Ao106 t295.length co106) : Value).ownBlock ∧ some k_ ≠ ((.slice Ao112 t299.length co112) : Value).ownBlock) (.slice Ao38 t261.length co38) t285) ∧ Aside0 (Kd.R (Kd.int .i64) 3 wc w.heap.size (fun k_ => some k_ ≠ ((.slice Ao24 t243.length co24) : Value).ownBlock ∧ some k_ ≠ ((.slice Ao27 t247.length co27) : Value).ownBlock ∧ some k_ ≠ ((.slice Ao31 t281.length co31) : Value).ownBlock ∧ some k_ ≠ ((.slice Ao35 t282.length co35) : Value).ownBlock ∧ some k_ ≠ ((.slice Ao38 t261.length co38) : Value).ownBlock ∧ some k_ ≠ ((.slice Ao106 t295.length co106) : Value).ownBlock ∧ some k_ ≠ ((.slice Ao112 t299.length co112) : Value).ownBlock) (.slice Ao43 t265.length co43) t286) ∧ Aside0 (Kd.R (Kd.int .i64) 3 wc w.heap.size (fun k_ => some k_ ≠ ((.slice Ao24 t243.length co24) : Value).ownBlock ∧ some k_ ≠ ((.slice Ao27 t247.length co27) : Value).ownBlock ∧ some k_ ≠ ((.slice Ao31 t281.length co31) : Value).ownBlock ∧ some k_ ≠ ((.slice Ao35 t282.length co35) : Value).ownBlock ∧ some k_ ≠ ((.slice Ao38 t261.length co38) : Value).ownBlock ∧ some k_ ≠ ((.slice Ao43 t265.length co43) : Value).ownBlock ∧ some k_ ≠ ((.slice Ao112 t299.length co112) : Value).ownBlock) (.slice Ao106 t295.length co106) t295) ∧ Aside0 (Kd.R (Kd.int .i64) 3 wc w.heap.size (fun k_ => some k_ ≠ ((.slice Ao24 t243.length co24) : Value).ownBlock ∧ some k_ ≠ ((.slice Ao27 t247.length co27) : Value).ownBlock ∧ some k_ ≠ ((.slice Ao31 t281.length co31) : Value).ownBlock ∧ some k_ ≠ ((.slice Ao35 t282.length co35) : Value).ownBlock ∧ some k_ ≠ ((.slice Ao38 t261.length co38) : Value).ownBlock ∧ some k_ ≠ ((.slice Ao43 t265.length co43) : Value).ownBlock ∧ some k_ ≠ ((.slice Ao106 t295.length co106) : Value).ownBlock) (.slice Ao112 t299.length co112) t299) ∧ Aside0 (wc.heap[gb234]? = some (.cells #[(.slice A0_0 l0_0.length c0_0), .int .i64 a0_1, (.slice A0_2 l0_2.length c0_2)] 36 (0, 0))) ∧ Aside0 (wc.heap[gb252]? = some (.cells #[(.slice Ao24 t243.length co24), .int .i64 t246, (.slice Ao27 t247.length co27)] 26 (0, 0))) ∧ Aside0 (wc.heap[gb260]? = some (.cells #[(.slice Ao31 t281.length co31), .int .i64 t256, (.slice Ao35 t282.length co35)] 26 (0, 0))) ∧ Aside0 (wc.heap[gb270]? = some (.cells #[(.slice Ao38 t261.length co38), .int .i64 t264, (.slice Ao43 t265.length co43)] 26 (0, 0))) ∧ Aside0 (wc.heap[gb304]? = some (.cells #[(.slice Ao106 t295.length co106), .int .i64 t298, (.slice Ao112 t299.length co112)] 26 (0, 0))) ∧ Aside0 (Below w.heap.size w wc))
                      case first =>
                        have H := HC90.out
                        clear HC90
                        replace H := Option.bind_eq_some_iff.mp H
                        obtain ⟨t305, A1130, H⟩ := H
                        replace H : (if t305 = true then (if t302 = t250 then (laws_FnExactDevDo.j2 kj59 t284 (t303 != t251) t285 t264 t286) else (laws_FnExactDevDo.j2 kj59 t284 true t285 t264 t286)) else (laws_FnExactDevDo.j2 kj59 t284 true t285 t264 t286)) = some true := H
                        have A113 := Aside0.mk A1130
                        clear A1130
                        by_cases c114 : t305 = true
                        · subst c114
                          have H1 : (if t302 = t250 then (laws_FnExactDevDo.j2 kj59 t284 (t303 != t251) t285 t264 t286) else (laws_FnExactDevDo.j2 kj59 t284 true t285 t264 t286)) = some true := by rw [if_pos rfl] at H; exact H
                          clear H
                          have H := H1
                          clear H1
                          by_cases c115 : t302 = t250
                          · rw [if_pos c115] at H
                            have c115b0 : (t302 == t250) = true := beq_iff_eq.mpr c115
                            have c115b1 : (t302 != t250) = false := bne_eq_false_iff_eq.mpr c115
                            clear c115
                            (first | rw [c115b0] | (simp only [i64_w, i32_w]; rw [c115b0]) | skip)
                            have H' := Aside0.mk H
                            clear H
                            have hnb116 := NB304_234.out
                            have hnc116 := NB234_304.out
                            have hnb117 := NB304_252.out
                            have hnc117 := NB252_304.out
                            have hnb118 := NB304_260.out
                            have hnc118 := NB260_304.out
                            have hnb119 := NB304_270.out
                            have hnc119 := NB270_304.out
                            have hcz120_0 : w105.cell? ⟨gb304, 0, none⟩ = some (.slice none 0 0) := (blk_cell BK304.out 0).trans rfl
                            have hcz120_1 : w105.cell? ⟨gb304, 1, none⟩ = some (.int .i64 0) := (blk_cell BK304.out 1).trans rfl
                            have hcz120_2 : w105.cell? ⟨gb304, 2, none⟩ = some (.slice none 0 0) := (blk_cell BK304.out 2).trans rfl
                            have hfz120_0 := blk_frozen BK304.out 0
                            have hfz120_1 := blk_frozen BK304.out 1
                            have hfz120_2 := blk_frozen BK304.out 2
                            have hnb121 := NB252_234.out
                            have hnc121 := NB234_252.out
                            have hnb122 := NB252_260.out
                            have hnc122 := NB260_252.out
                            have hnb123 := NB252_270.out
                            have hnc123 := NB270_252.out
                            have hcz124_0 : w105.cell? ⟨gb252, 0, none⟩ = some (.slice Ao24 t243.length co24) := (blk_cell BK252.out 0).trans rfl
                            have hcz124_1 : w105.cell? ⟨gb252, 1, none⟩ = some (.int .i64 t246) := (blk_cell BK252.out 1).trans rfl
                            have hcz124_2 : w105.cell? ⟨gb252, 2, none⟩ = some (.slice Ao27 t247.length co27) := (blk_cell BK252.out 2).trans rfl
                            have hfz124_0 := blk_frozen BK252.out 0
                            have hfz124_1 := blk_frozen BK252.out 1
                            have hfz124_2 := blk_frozen BK252.out 2
                            go_wp2_with (first | ((with_reducible refine gate_callee (f := 27) rfl ?_); refine goesL_ (some 112) rfl rfl Try.func27 (by kernel_rfl) rfl #[.agg #[.slice Ao106 t295.length co106, .int .i64 t298, .slice Ao112 t299.length co112], .agg #[.slice Ao24 t243.length co24, .int .i64 t246, .slice Ao27 t247.length co27]] rfl (by (try simp only [List.map_toArray, List.map_cons, List.map_nil]); first | done | rfl | (simp only [List.length_drop, List.length_take]; rfl)) ?_; (with_reducible refine (laws_eqDev.calls kj59 _ _ t295 t298 _ _ t299 _ _ t243 t246 _ _ t247 true _ ?side1 ?side2 ?side3 ?side4 ?side5 ?side6 ?side7 ?side8 A113.out).mono ?_); (case side1 => refine (Kd.R_reads' (e := 3) (base := w.heap.size) (ok := fun k_ => ((((((((some k_ ≠ (.slice Ao112 t299.length co112 : Value).ownBlock ∧ some k_ ≠ (.slice Ao24 t243.length co24 : Value).ownBlock) ∧ some k_ ≠ (.slice Ao27 t247.length co27 : Value).ownBlock) ∧ some k_ ≠ (.slice Ao31 t281.length co31 : Value).ownBlock) ∧ some k_ ≠ (.slice Ao35 t282.length co35 : Value).ownBlock) ∧ some k_ ≠ (.slice Ao38 t261.length co38 : Value).ownBlock) ∧ some k_ ≠ (.slice Ao43 t265.length co43 : Value).ownBlock) ∧ some k_ ≠ (.slice Ao102 t288.length co102 : Value).ownBlock) ∧ some k_ ≠ (.slice Ao103 t292.length co103 : Value).ownBlock)) (n := t295.length) (c := co106) ?_).2.2; exact (by (with_reducible repeat (first | apply Kd.R_alloc | apply Kd.R_drewN | apply Kd.R_drew)); exact (Kd.R_mono (Kd.R_far (p := ⟨gb304, 2, none⟩) (Kd.R_far (p := ⟨gb304, 1, none⟩) (Kd.R_far (p := ⟨gb304, 0, none⟩) (Kd.R_types HO297.out BK304.out (by decide)) (fun _ hk => hk.2) (.slice Ao106 t295.length co106)) (fun _ hk => hk.2) (.int .i64 t298)) (fun _ hk => hk.2) (.slice Ao112 t299.length co112)) (fun _ h_ => h_.1)))); (case side2 => exact (Kd.R_reads' HO297.out).2.1); (case side3 => refine (Kd.R_reads' (e := 3) (base := w.heap.size) (ok := fun k_ => ((((((((some k_ ≠ (.slice Ao106 t295.length co106 : Value).ownBlock ∧ some k_ ≠ (.slice Ao24 t243.length co24 : Value).ownBlock) ∧ some k_ ≠ (.slice Ao27 t247.length co27 : Value).ownBlock) ∧ some k_ ≠ (.slice Ao31 t281.length co31 : Value).ownBlock) ∧ some k_ ≠ (.slice Ao35 t282.length co35 : Value).ownBlock) ∧ some k_ ≠ (.slice Ao38 t261.length co38 : Value).ownBlock) ∧ some k_ ≠ (.slice Ao43 t265.length co43 : Value).ownBlock) ∧ some k_ ≠ (.slice Ao102 t288.length co102 : Value).ownBlock) ∧ some k_ ≠ (.slice Ao103 t292.length co103 : Value).ownBlock)) (n := t299.length) (c := co112) ?_).2.2; exact (by (with_reducible repeat (first | apply Kd.R_alloc | apply Kd.R_drewN | apply Kd.R_drew)); exact (Kd.R_mono (Kd.R_far (p := ⟨gb304, 2, none⟩) (Kd.R_far (p := ⟨gb304, 1, none⟩) (Kd.R_far (p := ⟨gb304, 0, none⟩) (Kd.R_types HO301.out BK304.out (by decide)) (fun _ hk => hk.2) (.slice Ao106 t295.length co106)) (fun _ hk => hk.2) (.int .i64 t298)) (fun _ hk => hk.2) (.slice Ao112 t299.length co112)) (fun _ h_ => h_.1)))); (case side4 => exact (Kd.R_reads' HO301.out).2.1); (case side5 => refine (Kd.R_reads' (e := 3) (base := w.heap.size) (ok := fun k_ => (((((some k_ ≠ (.slice Ao27 t247.length co27 : Value).ownBlock ∧ (some k_ ≠ (.slice Ao31 t281.length co31 : Value).ownBlock ∧ (some k_ ≠ (.slice Ao35 t282.length co35 : Value).ownBlock ∧ (some k_ ≠ (.slice Ao38 t261.length co38 : Value).ownBlock ∧ some k_ ≠ (.slice Ao43 t265.length co43 : Value).ownBlock)))) ∧ some k_ ≠ (.slice Ao102 t288.length co102 : Value).ownBlock) ∧ some k_ ≠ (.slice Ao103 t292.length co103 : Value).ownBlock) ∧ some k_ ≠ (.slice Ao106 t295.length co106 : Value).ownBlock) ∧ some k_ ≠ (.slice Ao112 t299.length co112 : Value).ownBlock)) (n := t243.length) (c := co24) ?_).2.2; exact (by (with_reducible repeat (first | apply Kd.R_alloc | apply Kd.R_drewN | apply Kd.R_drew)); exact (Kd.R_mono (Kd.R_far (p := ⟨gb304, 2, none⟩) (Kd.R_far (p := ⟨gb304, 1, none⟩) (Kd.R_far (p := ⟨gb304, 0, none⟩) (Kd.R_types HO_253000.out BK304.out (by decide)) (fun _ hk => hk.2) (.slice Ao106 t295.length co106)) (fun _ hk => hk.2) (.int .i64 t298)) (fun _ hk => hk.2) (.slice Ao112 t299.length co112)) (fun _ h_ => h_.1)))); (case side6 => exact (Kd.R_reads' HO_253000.out).2.1); (case side7 => refine (Kd.Q_reads' (e := 3) (base := w.heap.size) (ok := fun k_ => (((((some k_ ≠ (.slice Ao24 t243.length co24 : Value).ownBlock ∧ (some k_ ≠ (.slice Ao31 t281.length co31 : Value).ownBlock ∧ (some k_ ≠ (.slice Ao35 t282.length co35 : Value).ownBlock ∧ (some k_ ≠ (.slice Ao38 t261.length co38 : Value).ownBlock ∧ some k_ ≠ (.slice Ao43 t265.length co43 : Value).ownBlock)))) ∧ some k_ ≠ (.slice Ao102 t288.length co102 : Value).ownBlock) ∧ some k_ ≠ (.slice Ao103 t292.length co103 : Value).ownBlock) ∧ some k_ ≠ (.slice Ao106 t295.length co106 : Value).ownBlock) ∧ some k_ ≠ (.slice Ao112 t299.length co112 : Value).ownBlock)) (n := t247.length) (c := co27) ?_).2.2; exact (by (with_reducible repeat (first | apply Kd.Q_alloc | apply Kd.Q_drewN | apply Kd.Q_drew)); exact (Kd.Q_mono (Kd.Q_far (p := ⟨gb304, 2, none⟩) (Kd.Q_far (p := ⟨gb304, 1, none⟩) (Kd.Q_far (p := ⟨gb304, 0, none⟩) (Kd.Q_types HO_253002.out BK304.out (by decide)) (fun _ hk => hk.2) (.slice Ao106 t295.length co106)) (fun _ hk => hk.2) (.int .i64 t298)) (fun _ hk => hk.2) (.slice Ao112 t299.length co112)) (fun _ h_ => h_.1)))); (case side8 => exact (Kd.Q_reads' HO_253002.out).2.1); rintro e w125 ⟨rfl, hb⟩; refine ⟨_, rfl, ?_⟩; have n0_ := Aside0.mk (Kd.R_below (by (with_reducible repeat (first | apply Kd.R_alloc | apply Kd.R_drewN | apply Kd.R_drew)); exact (Kd.R_mono (Kd.R_far (p := ⟨gb304, 2, none⟩) (Kd.R_far (p := ⟨gb304, 1, none⟩) (Kd.R_far (p := ⟨gb304, 0, none⟩) (Kd.R_types HO_253000.out BK304.out (by decide)) (fun _ hk => hk.2) (.slice Ao106 t295.length co106)) (fun _ hk => hk.2) (.int .i64 t298)) (fun _ hk => hk.2) (.slice Ao112 t299.length co112)) (fun _ h_ => h_.1))) hb); have n1_ := Aside0.mk (Kd.Q_below (by (with_reducible repeat (first | apply Kd.Q_alloc | apply Kd.Q_drewN | apply Kd.Q_drew)); exact (Kd.Q_mono (Kd.Q_far (p := ⟨gb304, 2, none⟩) (Kd.Q_far (p := ⟨gb304, 1, none⟩) (Kd.Q_far (p := ⟨gb304, 0, none⟩) (Kd.Q_types HO_253002.out BK304.out (by decide)) (fun _ hk => hk.2) (.slice Ao106 t295.length co106)) (fun _ hk => hk.2) (.int .i64 t298)) (fun _ hk => hk.2) (.slice Ao112 t299.length co112)) (fun _ h_ => h_.1))) hb); have n2_ := Aside0.mk (Kd.R_below (by (with_reducible repeat (first | apply Kd.R_alloc | apply Kd.R_drewN | apply Kd.R_drew)); exact (Kd.R_mono (Kd.R_far (p := ⟨gb304, 2, none⟩) (Kd.R_far (p := ⟨gb304, 1, none⟩) (Kd.R_far (p := ⟨gb304, 0, none⟩) (Kd.R_types HO_261000.out BK304.out (by decide)) (fun _ hk => hk.2) (.slice Ao106 t295.length co106)) (fun _ hk => hk.2) (.int .i64 t298)) (fun _ hk => hk.2) (.slice Ao112 t299.length co112)) (fun _ h_ => h_.1))) hb); have n3_ := Aside0.mk (Kd.R_below (by (with_reducible repeat (first | apply Kd.R_alloc | apply Kd.R_drewN | apply Kd.R_drew)); exact (Kd.R_mono (Kd.R_far (p := ⟨gb304, 2, none⟩) (Kd.R_far (p := ⟨gb304, 1, none⟩) (Kd.R_far (p := ⟨gb304, 0, none⟩) (Kd.R_types HO_261002.out BK304.out (by decide)) (fun _ hk => hk.2) (.slice Ao106 t295.length co106)) (fun _ hk => hk.2) (.int .i64 t298)) (fun _ hk => hk.2) (.slice Ao112 t299.length co112)) (fun _ h_ => h_.1))) hb); have n4_ := Aside0.mk (Kd.R_below (by (with_reducible repeat (first | apply Kd.R_alloc | apply Kd.R_drewN | apply Kd.R_drew)); exact (Kd.R_mono (Kd.R_far (p := ⟨gb304, 2, none⟩) (Kd.R_far (p := ⟨gb304, 1, none⟩) (Kd.R_far (p := ⟨gb304, 0, none⟩) (Kd.R_types HO_271000.out BK304.out (by decide)) (fun _ hk => hk.2) (.slice Ao106 t295.length co106)) (fun _ hk => hk.2) (.int .i64 t298)) (fun _ hk => hk.2) (.slice Ao112 t299.length co112)) (fun _ h_ => h_.1))) hb); have n5_ := Aside0.mk (Kd.R_below (by (with_reducible repeat (first | apply Kd.R_alloc | apply Kd.R_drewN | apply Kd.R_drew)); exact (Kd.R_mono (Kd.R_far (p := ⟨gb304, 2, none⟩) (Kd.R_far (p := ⟨gb304, 1, none⟩) (Kd.R_far (p := ⟨gb304, 0, none⟩) (Kd.R_types HO_271002.out BK304.out (by decide)) (fun _ hk => hk.2) (.slice Ao106 t295.length co106)) (fun _ hk => hk.2) (.int .i64 t298)) (fun _ hk => hk.2) (.slice Ao112 t299.length co112)) (fun _ h_ => h_.1))) hb); have n6_ := Aside0.mk (Kd.R_below (by (with_reducible repeat (first | apply Kd.R_alloc | apply Kd.R_drewN | apply Kd.R_drew)); exact (Kd.R_mono (Kd.R_far (p := ⟨gb304, 2, none⟩) (Kd.R_far (p := ⟨gb304, 1, none⟩) (Kd.R_far (p := ⟨gb304, 0, none⟩) (Kd.R_types HO290.out BK304.out (by decide)) (fun _ hk => hk.2) (.slice Ao106 t295.length co106)) (fun _ hk => hk.2) (.int .i64 t298)) (fun _ hk => hk.2) (.slice Ao112 t299.length co112)) (fun _ h_ => h_.1))) hb); have n7_ := Aside0.mk (Kd.R_below (by (with_reducible repeat (first | apply Kd.R_alloc | apply Kd.R_drewN | apply Kd.R_drew)); exact (Kd.R_mono (Kd.R_far (p := ⟨gb304, 2, none⟩) (Kd.R_far (p := ⟨gb304, 1, none⟩) (Kd.R_far (p := ⟨gb304, 0, none⟩) (Kd.R_types HO294.out BK304.out (by decide)) (fun _ hk => hk.2) (.slice Ao106 t295.length co106)) (fun _ hk => hk.2) (.int .i64 t298)) (fun _ hk => hk.2) (.slice Ao112 t299.length co112)) (fun _ h_ => h_.1))) hb); have n8_ := Aside0.mk (Kd.R_below (by (with_reducible repeat (first | apply Kd.R_alloc | apply Kd.R_drewN | apply Kd.R_drew)); exact (Kd.R_mono (Kd.R_far (p := ⟨gb304, 2, none⟩) (Kd.R_far (p := ⟨gb304, 1, none⟩) (Kd.R_far (p := ⟨gb304, 0, none⟩) (Kd.R_types HO297.out BK304.out (by decide)) (fun _ hk => hk.2) (.slice Ao106 t295.length co106)) (fun _ hk => hk.2) (.int .i64 t298)) (fun _ hk => hk.2) (.slice Ao112 t299.length co112)) (fun _ h_ => h_.1))) hb); have n9_ := Aside0.mk (Kd.R_below (by (with_reducible repeat (first | apply Kd.R_alloc | apply Kd.R_drewN | apply Kd.R_drew)); exact (Kd.R_mono (Kd.R_far (p := ⟨gb304, 2, none⟩) (Kd.R_far (p := ⟨gb304, 1, none⟩) (Kd.R_far (p := ⟨gb304, 0, none⟩) (Kd.R_types HO301.out BK304.out (by decide)) (fun _ hk => hk.2) (.slice Ao106 t295.length co106)) (fun _ hk => hk.2) (.int .i64 t298)) (fun _ hk => hk.2) (.slice Ao112 t299.length co112)) (fun _ h_ => h_.1))) hb); have n10_ := Aside0.mk (blk_below (g := gb234) (o := .cells #[.slice A0_0 l0_0.length c0_0, .int .i64 a0_1, .slice A0_2 l0_2.length c0_2] 36 (0, 0)) (by (with_reducible repeat (first | refine blk_drewN ?_ _ | refine blk_drew ?_ | refine blk_alloc ?_ _)); refine blk_far ?_ NB234_304.out _; (with_reducible repeat (first | refine blk_drewN ?_ _ | refine blk_drew ?_ | refine blk_alloc ?_ _)); refine blk_far ?_ NB234_304.out _; (with_reducible repeat (first | refine blk_drewN ?_ _ | refine blk_drew ?_ | refine blk_alloc ?_ _)); refine blk_far ?_ NB234_304.out _; (with_reducible repeat (first | refine blk_drewN ?_ _ | refine blk_drew ?_ | refine blk_alloc ?_ _)); exact BK234.out) hb); have n11_ := Aside0.mk (blk_below (g := gb252) (o := .cells #[.slice Ao24 t243.length co24, .int .i64 t246, .slice Ao27 t247.length co27] 26 (0, 0)) (by (with_reducible repeat (first | refine blk_drewN ?_ _ | refine blk_drew ?_ | refine blk_alloc ?_ _)); refine blk_far ?_ NB252_304.out _; (with_reducible repeat (first | refine blk_drewN ?_ _ | refine blk_drew ?_ | refine blk_alloc ?_ _)); refine blk_far ?_ NB252_304.out _; (with_reducible repeat (first | refine blk_drewN ?_ _ | refine blk_drew ?_ | refine blk_alloc ?_ _)); refine blk_far ?_ NB252_304.out _; (with_reducible repeat (first | refine blk_drewN ?_ _ | refine blk_drew ?_ | refine blk_alloc ?_ _)); exact BK252.out) hb); have n12_ := Aside0.mk (blk_below (g := gb260) (o := .cells #[.slice Ao31 t281.length co31, .int .i64 t256, .slice Ao35 t282.length co35] 26 (0, 0)) (by (with_reducible repeat (first | refine blk_drewN ?_ _ | refine blk_drew ?_ | refine blk_alloc ?_ _)); refine blk_far ?_ NB260_304.out _; (with_reducible repeat (first | refine blk_drewN ?_ _ | refine blk_drew ?_ | refine blk_alloc ?_ _)); refine blk_far ?_ NB260_304.out _; (with_reducible repeat (first | refine blk_drewN ?_ _ | refine blk_drew ?_ | refine blk_alloc ?_ _)); refine blk_far ?_ NB260_304.out _; (with_reducible repeat (first | refine blk_drewN ?_ _ | refine blk_drew ?_ | refine blk_alloc ?_ _)); exact BK260.out) hb); have n13_ := Aside0.mk (blk_below (g := gb270) (o := .cells #[.slice Ao38 t261.length co38, .int .i64 t264, .slice Ao43 t265.length co43] 26 (0, 0)) (by (with_reducible repeat (first | refine blk_drewN ?_ _ | refine blk_drew ?_ | refine blk_alloc ?_ _)); refine blk_far ?_ NB270_304.out _; (with_reducible repeat (first | refine blk_drewN ?_ _ | refine blk_drew ?_ | refine blk_alloc ?_ _)); refine blk_far ?_ NB270_304.out _; (with_reducible repeat (first | refine blk_drewN ?_ _ | refine blk_drew ?_ | refine blk_alloc ?_ _)); refine blk_far ?_ NB270_304.out _; (with_reducible repeat (first | refine blk_drewN ?_ _ | refine blk_drew ?_ | refine blk_alloc ?_ _)); exact BK270.out) hb); have n14_ := Aside0.mk (blk_below (g := gb304) (o := .cells #[.slice Ao106 t295.length co106, .int .i64 t298, .slice Ao112 t299.length co112] 26 (0, 0)) (by (with_reducible repeat (first | refine blk_drewN ?_ _ | refine blk_drew ?_ | refine blk_alloc ?_ _)); refine blk_put (cs := #[.slice Ao106 t295.length co106, .int .i64 t298, .slice none 0 0]) ?_ 2 _ rfl; (with_reducible repeat (first | refine blk_drewN ?_ _ | refine blk_drew ?_ | refine blk_alloc ?_ _)); refine blk_put (cs := #[.slice Ao106 t295.length co106, .int .i64 0, .slice none 0 0]) ?_ 1 _ rfl; (with_reducible repeat (first | refine blk_drewN ?_ _ | refine blk_drew ?_ | refine blk_alloc ?_ _)); refine blk_put (cs := #[.slice none 0 0, .int .i64 0, .slice none 0 0]) ?_ 0 _ rfl; (with_reducible repeat (first | refine blk_drewN ?_ _ | refine blk_drew ?_ | refine blk_alloc ?_ _)); exact BK304.out) hb); have n15_ := Aside0.mk (below_step (by repeat (first | (with_reducible first | exact HB.out | apply below_alloc | apply pw_below_drewN | apply below_drew1 | refine below_set ?_ GE234.out | refine below_set ?_ GE252.out | refine below_set ?_ GE260.out | refine below_set ?_ GE270.out | refine below_set ?_ GE304.out) | exact HB.out)) hb); clear HO_253000; clear HO_253002; clear HO_261000; clear HO_261002; clear HO_271000; clear HO_271002; clear HO290; clear HO294; clear HO297; clear HO301; clear BK234; clear BK252; clear BK260; clear BK270; clear BK304; clear HB; have HO_253000 := n0_; have HO_253002 := n1_; have HO_261000 := n2_; have HO_261002 := n3_; have HO_271000 := n4_; have HO_271002 := n5_; have HO290 := n6_; have HO294 := n7_; have HO297 := n8_; have HO301 := n9_; have BK234 := n10_; have BK252 := n11_; have BK260 := n12_; have BK270 := n13_; have BK304 := n14_; have HB := n15_; clear n0_ n1_ n2_ n3_ n4_ n5_ n6_ n7_ n8_ n9_ n10_ n11_ n12_ n13_ n14_ n15_; (try clear hb); (try clear hb2); (try clear hk); (try clear hi)))
                            go_meet
                            case rel => exact ⟨_, ((t303 != t251)), (by first | rfl | (simp; done) | (simp [*]; done)), H', ⟨by have := HJ13.out; have := HJ59.out; first | omega | exact Nat.le_refl _⟩, ⟨by (try simp only [hl261000_59]); (try simp only [hl261002_59]); (with_reducible repeat (first | apply Kd.R_alloc | apply Kd.R_drewN | apply Kd.R_drew)); exact Kd.R_mono HO_253000.out (fun _ hk => ⟨hk.1.1.1.1.1, ⟨hk.1.1.1.1.2.1, ⟨hk.1.1.1.1.2.2.1, ⟨hk.1.1.1.1.2.2.2.1, ⟨hk.1.1.1.1.2.2.2.2, ⟨hk.1.2, hk.2⟩⟩⟩⟩⟩⟩)⟩, ⟨by (try simp only [hl261000_59]); (try simp only [hl261002_59]); (with_reducible repeat (first | apply Kd.Q_alloc | apply Kd.Q_drewN | apply Kd.Q_drew)); exact Kd.Q_mono HO_253002.out (fun _ hk => ⟨hk.1.1.1.1.1, ⟨hk.1.1.1.1.2.1, ⟨hk.1.1.1.1.2.2.1, ⟨hk.1.1.1.1.2.2.2.1, ⟨hk.1.1.1.1.2.2.2.2, ⟨hk.1.2, hk.2⟩⟩⟩⟩⟩⟩)⟩, ⟨by (try simp only [hl261000_59]); (try simp only [hl261002_59]); (with_reducible repeat (first | apply Kd.R_alloc | apply Kd.R_drewN | apply Kd.R_drew)); exact Kd.R_mono HO_261000.out (fun _ hk => ⟨hk.1.1.1.1.1, ⟨hk.1.1.1.1.2.1, ⟨hk.1.1.1.1.2.2.1, ⟨hk.1.1.1.1.2.2.2.1, ⟨hk.1.1.1.1.2.2.2.2, ⟨hk.1.2, hk.2⟩⟩⟩⟩⟩⟩)⟩, ⟨by (try simp only [hl261000_59]); (try simp only [hl261002_59]); (with_reducible repeat (first | apply Kd.R_alloc | apply Kd.R_drewN | apply Kd.R_drew)); exact Kd.R_mono HO_261002.out (fun _ hk => ⟨hk.1.1.1.1.1, ⟨hk.1.1.1.1.2.1, ⟨hk.1.1.1.1.2.2.1, ⟨hk.1.1.1.1.2.2.2.1, ⟨hk.1.1.1.1.2.2.2.2, ⟨hk.1.2, hk.2⟩⟩⟩⟩⟩⟩)⟩, ⟨by (try simp only [hl261000_59]); (try simp only [hl261002_59]); (with_reducible repeat (first | apply Kd.R_alloc | apply Kd.R_drewN | apply Kd.R_drew)); exact Kd.R_mono HO_271000.out (fun _ hk => ⟨hk.1.1.1.1.1, ⟨hk.1.1.1.1.2.1, ⟨hk.1.1.1.1.2.2.1, ⟨hk.1.1.1.1.2.2.2.1, ⟨hk.1.1.1.1.2.2.2.2, ⟨hk.1.2, hk.2⟩⟩⟩⟩⟩⟩)⟩, ⟨by (try simp only [hl261000_59]); (try simp only [hl261002_59]); (with_reducible repeat (first | apply Kd.R_alloc | apply Kd.R_drewN | apply Kd.R_drew)); exact Kd.R_mono HO_271002.out (fun _ hk => ⟨hk.1.1.1.1.1, ⟨hk.1.1.1.1.2.1, ⟨hk.1.1.1.1.2.2.1, ⟨hk.1.1.1.1.2.2.2.1, ⟨hk.1.1.1.1.2.2.2.2, ⟨hk.1.2, hk.2⟩⟩⟩⟩⟩⟩)⟩, ⟨by (try simp only [hl261000_59]); (try simp only [hl261002_59]); (with_reducible repeat (first | apply Kd.R_alloc | apply Kd.R_drewN | apply Kd.R_drew)); exact Kd.R_mono HO297.out (fun _ hk => ⟨hk.1.1.1.1.1.1.1.2, ⟨hk.1.1.1.1.1.1.2, ⟨hk.1.1.1.1.1.2, ⟨hk.1.1.1.1.2, ⟨hk.1.1.1.2, ⟨hk.1.1.2, hk.1.1.1.1.1.1.1.1⟩⟩⟩⟩⟩⟩)⟩, ⟨by (try simp only [hl261000_59]); (try simp only [hl261002_59]); (with_reducible repeat (first | apply Kd.R_alloc | apply Kd.R_drewN | apply Kd.R_drew)); exact Kd.R_mono HO301.out (fun _ hk => ⟨hk.1.1.1.1.1.1.1.2, ⟨hk.1.1.1.1.1.1.2, ⟨hk.1.1.1.1.1.2, ⟨hk.1.1.1.1.2, ⟨hk.1.1.1.2, ⟨hk.1.1.2, hk.1.1.1.1.1.1.1.1⟩⟩⟩⟩⟩⟩)⟩, ⟨by (try simp only [hl261000_59]); (try simp only [hl261002_59]); (with_reducible repeat (first | refine blk_drewN ?_ _ | refine blk_drew ?_ | refine blk_alloc ?_ _)); exact BK234.out⟩, ⟨by (try simp only [hl261000_59]); (try simp only [hl261002_59]); (with_reducible repeat (first | refine blk_drewN ?_ _ | refine blk_drew ?_ | refine blk_alloc ?_ _)); exact BK252.out⟩, ⟨by (try simp only [hl261000_59]); (try simp only [hl261002_59]); (with_reducible repeat (first | refine blk_drewN ?_ _ | refine blk_drew ?_ | refine blk_alloc ?_ _)); exact BK260.out⟩, ⟨by (try simp only [hl261000_59]); (try simp only [hl261002_59]); (with_reducible repeat (first | refine blk_drewN ?_ _ | refine blk_drew ?_ | refine blk_alloc ?_ _)); exact BK270.out⟩, ⟨by (try simp only [hl261000_59]); (try simp only [hl261002_59]); (with_reducible repeat (first | refine blk_drewN ?_ _ | refine blk_drew ?_ | refine blk_alloc ?_ _)); exact BK304.out⟩, ⟨by repeat (first | (with_reducible first | exact HB.out | apply below_alloc | apply pw_below_drewN | apply below_drew1 | refine below_set ?_ GE234.out | refine below_set ?_ GE252.out | refine below_set ?_ GE260.out | refine below_set ?_ GE270.out | refine below_set ?_ GE304.out) | exact HB.out)⟩⟩
                          · rw [if_neg c115] at H
                            have c115b0 : (t302 == t250) = false := beq_eq_false_iff_ne.mpr c115
                            have c115b1 : (t302 != t250) = true := bne_iff_ne.mpr c115
                            (first | rw [c115b0] | (simp only [i64_w, i32_w]; rw [c115b0]) | skip)
                            exact absurd H (by cases kj59 <;> simp [laws_FnExactDevDo.j2])
                        · replace c114 := Bool.eq_false_iff.mpr c114
                          subst c114
                          have H1 : (laws_FnExactDevDo.j2 kj59 t284 true t285 t264 t286) = some true := by rw [if_neg (show ¬ (false = true) by decide)] at H; exact H
                          clear H
                          have H := H1
                          clear H1
                          exact absurd H (by cases kj59 <;> simp [laws_FnExactDevDo.j2])
                      case rest =>
                        clear HC90
                        try clear c1
                        try clear c2
                        try clear p2
                        try clear c3
                        try clear c4
                        try clear c5
                        try clear c6
                        try clear c6b0
                        try clear c7
                        try clear c8
                        try clear c9
                        try clear c10
                        try clear c11
                        try clear c12
                        try clear c25
                        try clear c27
                        try clear c28
                        try clear c29
                        try clear c30
                        try clear c32
                        try clear c33
                        try clear c39
                        try clear c40
                        try clear c41
                        try clear c42
                        try clear c45
                        try clear c46
                        try clear c46b0
                        try clear c46b1
                        try clear c47
                        try clear c48
                        try clear c49
                        try clear c51
                        try clear c52
                        try clear c55
                        try clear c58
                        try clear c66
                        try clear c67
                        try clear c68
                        try clear c71
                        try clear c71b0
                        try clear c73
                        try clear c74
                        try clear c74b0
                        try clear c74b1
                        try clear c75
                        try clear c76
                        try clear c77
                        try clear c79
                        try clear c80
                        try clear c83
                        try clear c86
                        try clear c86b0
                        try clear c87
                        try clear c87b0
                        try clear c87b1
                        try clear c91
                        try clear c92
                        try clear c93
                        try clear c98
                        try clear c99
                        try clear c107
                        try clear c108
                        try clear c109
                        try clear c110
                        try clear c114
                        try clear c115
                        try clear c115b0
                        try clear c115b1
                        try clear c116
                        try clear c117
                        try clear c118
                        try clear c119
                        try clear c121
                        try clear c122
                        try clear c123
                        try clear hcz100_0
                        try clear hcz100_1
                        try clear hcz100_2
                        try clear hcz111_0
                        try clear hcz111_1
                        try clear hcz111_2
                        try clear hcz120_0
                        try clear hcz120_1
                        try clear hcz120_2
                        try clear hcz124_0
                        try clear hcz124_1
                        try clear hcz124_2
                        try clear hcz16_0
                        try clear hcz16_1
                        try clear hcz16_2
                        try clear hcz18_0
                        try clear hcz18_1
                        try clear hcz18_2
                        try clear hcz26_0
                        try clear hcz26_1
                        try clear hcz26_2
                        try clear hcz28_0
                        try clear hcz28_1
                        try clear hcz28_2
                        try clear hcz34_0
                        try clear hcz34_1
                        try clear hcz34_2
                        try clear hcz42_0
                        try clear hcz42_1
                        try clear hcz42_2
                        try clear hcz50_0
                        try clear hcz50_1
                        try clear hcz50_2
                        try clear hcz53_0
                        try clear hcz53_1
                        try clear hcz53_2
                        try clear hcz69_0
                        try clear hcz69_1
                        try clear hcz69_2
                        try clear hcz78_0
                        try clear hcz78_1
                        try clear hcz78_2
                        try clear hcz81_0
                        try clear hcz81_1
                        try clear hcz81_2
                        try clear hcz8_0
                        try clear hcz8_1
                        try clear hcz8_2
                        try clear hcz94_0
                        try clear hcz94_1
                        try clear hcz94_2
                        try clear hcz96_0
                        try clear hcz96_1
                        try clear hcz96_2
                        try clear hfz100_0
                        try clear hfz100_1
                        try clear hfz100_2
                        try clear hfz111_0
                        try clear hfz111_1
                        try clear hfz111_2
                        try clear hfz120_0
                        try clear hfz120_1
                        try clear hfz120_2
                        try clear hfz124_0
                        try clear hfz124_1
                        try clear hfz124_2
                        try clear hfz16_0
                        try clear hfz16_1
                        try clear hfz16_2
                        try clear hfz18_0
                        try clear hfz18_1
                        try clear hfz18_2
                        try clear hfz26_0
                        try clear hfz26_1
                        try clear hfz26_2
                        try clear hfz28_0
                        try clear hfz28_1
                        try clear hfz28_2
                        try clear hfz34_0
                        try clear hfz34_1
                        try clear hfz34_2
                        try clear hfz42_0
                        try clear hfz42_1
                        try clear hfz42_2
                        try clear hfz50_0
                        try clear hfz50_1
                        try clear hfz50_2
                        try clear hfz53_0
                        try clear hfz53_1
                        try clear hfz53_2
                        try clear hfz69_0
                        try clear hfz69_1
                        try clear hfz69_2
                        try clear hfz78_0
                        try clear hfz78_1
                        try clear hfz78_2
                        try clear hfz81_0
                        try clear hfz81_1
                        try clear hfz81_2
                        try clear hfz8_0
                        try clear hfz8_1
                        try clear hfz8_2
                        try clear hfz94_0
                        try clear hfz94_1
                        try clear hfz94_2
                        try clear hfz96_0
                        try clear hfz96_1
                        try clear hfz96_2
                        try clear p2
                        obtain ⟨kq, x123_89, rfl, HA, HJ89, HO_253000, HO_253002, HO_261000, HO_261002, HO_271000, HO_271002, HO_305000, HO_305002, BK234, BK252, BK260, BK270, BK304, HB⟩ := hcut
                        have hl271000_89 := (Kd.R_reads' HO_271000.out).1
                        rw [hl271000_89] at HO_271000
                        (try simp only [hl271000_89])
                        (try simp only [hl271000_89] at BK234)
                        (try simp only [hl271000_89] at BK252)
                        (try simp only [hl271000_89] at BK260)
                        (try simp only [hl271000_89] at BK270)
                        (try simp only [hl271000_89] at BK304)
                        (try simp only [hl271000_89] at HO_253000)
                        (try simp only [hl271000_89] at HO_253002)
                        (try simp only [hl271000_89] at HO_261000)
                        (try simp only [hl271000_89] at HO_261002)
                        (try simp only [hl271000_89] at HO_271002)
                        (try simp only [hl271000_89] at HO_305000)
                        (try simp only [hl271000_89] at HO_305002)
                        have hl271002_89 := (Kd.R_reads' HO_271002.out).1
                        rw [hl271002_89] at HO_271002
                        (try simp only [hl271002_89])
                        (try simp only [hl271002_89] at BK234)
                        (try simp only [hl271002_89] at BK252)
                        (try simp only [hl271002_89] at BK260)
                        (try simp only [hl271002_89] at BK270)
                        (try simp only [hl271002_89] at BK304)
                        (try simp only [hl271002_89] at HO_253000)
                        (try simp only [hl271002_89] at HO_253002)
                        (try simp only [hl271002_89] at HO_261000)
                        (try simp only [hl271002_89] at HO_261002)
                        (try simp only [hl271002_89] at HO_271000)
                        (try simp only [hl271002_89] at HO_305000)
                        (try simp only [hl271002_89] at HO_305002)
                        cases kq with
                        | zero => exact absurd HA.out (by simp [laws_FnExactDevDo.j2])
                        | succ kj89 =>
                          have H := HA.out
                          clear HA
                          simp only [laws_FnExactDevDo.j2] at H
                          by_cases c126 : x123_89 = true
                          · subst c126
                            have H1 : (some false) = some true := by rw [if_pos rfl] at H; exact H
                            clear H
                            have H := H1
                            clear H1
                            exact absurd (Option.some.inj H) (by decide)
                          · replace c126 := Bool.eq_false_iff.mpr c126
                            subst c126
                            have H1 : ((laws_heldDev.f kj89 t285 t264 t286 1).bind fun t306 => (if t306 < 0 then (some false) else (if t306 = t284 then (some true) else (some false)))) = some true := by rw [if_neg (show ¬ (false = true) by decide)] at H; exact H
                            clear H
                            have H := H1
                            clear H1
                            replace H := Option.bind_eq_some_iff.mp H
                            obtain ⟨t306, A1270, H⟩ := H
                            replace H : (if t306 < 0 then (some false) else (if t306 = t284 then (some true) else (some false))) = some true := H
                            have A127 := Aside0.mk A1270
                            clear A1270
                            by_cases c128 : t306 < 0
                            · rw [if_pos c128] at H
                              have c128b0 : decide (t306 < 0) = true := decide_eq_true c128
                              clear c128
                              exact absurd (Option.some.inj H) (by decide)
                            · rw [if_neg c128] at H
                              have c128b0 : decide (t306 < 0) = false := decide_eq_false c128
                              clear c128
                              by_cases c129 : t306 = t284
                              · rw [if_pos c129] at H
                                have c129b0 : (t306 == t284) = true := beq_iff_eq.mpr c129
                                have c129b1 : (t306 != t284) = false := bne_eq_false_iff_eq.mpr c129
                                clear c129
                                clear H
                                have hnb130 := NB270_234.out
                                have hnc130 := NB234_270.out
                                have hnb131 := NB270_252.out
                                have hnc131 := NB252_270.out
                                have hnb132 := NB270_260.out
                                have hnc132 := NB260_270.out
                                have hnb133 := NB270_304.out
                                have hnc133 := NB304_270.out
                                have hcz134_0 : wc.cell? ⟨gb270, 0, none⟩ = some (.slice Ao38 t285.length co38) := (blk_cell BK270.out 0).trans rfl
                                have hcz134_1 : wc.cell? ⟨gb270, 1, none⟩ = some (.int .i64 t264) := (blk_cell BK270.out 1).trans rfl
                                have hcz134_2 : wc.cell? ⟨gb270, 2, none⟩ = some (.slice Ao43 t286.length co43) := (blk_cell BK270.out 2).trans rfl
                                have hfz134_0 := blk_frozen BK270.out 0
                                have hfz134_1 := blk_frozen BK270.out 1
                                have hfz134_2 := blk_frozen BK270.out 2
                                go_wp2_with (first | ((with_reducible refine gate_callee (f := 29) rfl ?_); refine goesL_ (some 126) rfl rfl Try.func29 (by kernel_rfl) rfl #[.agg #[.slice Ao38 t285.length co38, .int .i64 t264, .slice Ao43 t286.length co43], .int .i64 1] rfl (by (try simp only [List.map_toArray, List.map_cons, List.map_nil]); first | done | rfl | (simp only [List.length_drop, List.length_take]; rfl)) ?_; (with_reducible refine (laws_heldDev.calls kj89 _ _ t285 t264 _ _ t286 1 t306 _ ?side1 ?side2 ?side3 ?side4 A127.out).mono ?_); (case side1 => repeat (first | exact (Kd.R_reads' HO_271000.out).2.2 | (with_reducible refine Kd.C_alloc ?_ _) | (with_reducible refine Kd.C_drewN ?_ _) | (with_reducible refine Kd.C_drew ?_))); (case side2 => exact (Kd.R_reads' HO_271000.out).2.1); (case side3 => repeat (first | exact (Kd.R_reads' HO_271002.out).2.2 | (with_reducible refine Kd.C_alloc ?_ _) | (with_reducible refine Kd.C_drewN ?_ _) | (with_reducible refine Kd.C_drew ?_))); (case side4 => exact (Kd.R_reads' HO_271002.out).2.1); rintro e w135 ⟨rfl, hb⟩; refine ⟨_, rfl, ?_⟩; have n0_ := Aside0.mk (Kd.R_below (by (with_reducible repeat (first | apply Kd.R_alloc | apply Kd.R_drewN | apply Kd.R_drew)); exact HO_253000.out) hb); have n1_ := Aside0.mk (Kd.Q_below (by (with_reducible repeat (first | apply Kd.Q_alloc | apply Kd.Q_drewN | apply Kd.Q_drew)); exact HO_253002.out) hb); have n2_ := Aside0.mk (Kd.R_below (by (with_reducible repeat (first | apply Kd.R_alloc | apply Kd.R_drewN | apply Kd.R_drew)); exact HO_261000.out) hb); have n3_ := Aside0.mk (Kd.R_below (by (with_reducible repeat (first | apply Kd.R_alloc | apply Kd.R_drewN | apply Kd.R_drew)); exact HO_261002.out) hb); have n4_ := Aside0.mk (Kd.R_below (by (with_reducible repeat (first | apply Kd.R_alloc | apply Kd.R_drewN | apply Kd.R_drew)); exact HO_271000.out) hb); have n5_ := Aside0.mk (Kd.R_below (by (with_reducible repeat (first | apply Kd.R_alloc | apply Kd.R_drewN | apply Kd.R_drew)); exact HO_271002.out) hb); have n6_ := Aside0.mk (Kd.R_below (by (with_reducible repeat (first | apply Kd.R_alloc | apply Kd.R_drewN | apply Kd.R_drew)); exact HO_305000.out) hb); have n7_ := Aside0.mk (Kd.R_below (by (with_reducible repeat (first | apply Kd.R_alloc | apply Kd.R_drewN | apply Kd.R_drew)); exact HO_305002.out) hb); have n8_ := Aside0.mk (blk_below (g := gb234) (o := .cells #[.slice A0_0 l0_0.length c0_0, .int .i64 a0_1, .slice A0_2 l0_2.length c0_2] 36 (0, 0)) (by (with_reducible repeat (first | refine blk_drewN ?_ _ | refine blk_drew ?_ | refine blk_alloc ?_ _)); exact BK234.out) hb); have n9_ := Aside0.mk (blk_below (g := gb252) (o := .cells #[.slice Ao24 t243.length co24, .int .i64 t246, .slice Ao27 t247.length co27] 26 (0, 0)) (by (with_reducible repeat (first | refine blk_drewN ?_ _ | refine blk_drew ?_ | refine blk_alloc ?_ _)); exact BK252.out) hb); have n10_ := Aside0.mk (blk_below (g := gb260) (o := .cells #[.slice Ao31 t281.length co31, .int .i64 t256, .slice Ao35 t282.length co35] 26 (0, 0)) (by (with_reducible repeat (first | refine blk_drewN ?_ _ | refine blk_drew ?_ | refine blk_alloc ?_ _)); exact BK260.out) hb); have n11_ := Aside0.mk (blk_below (g := gb270) (o := .cells #[.slice Ao38 t285.length co38, .int .i64 t264, .slice Ao43 t286.length co43] 26 (0, 0)) (by (with_reducible repeat (first | refine blk_drewN ?_ _ | refine blk_drew ?_ | refine blk_alloc ?_ _)); exact BK270.out) hb); have n12_ := Aside0.mk (blk_below (g := gb304) (o := .cells #[.slice Ao106 t295.length co106, .int .i64 t298, .slice Ao112 t299.length co112] 26 (0, 0)) (by (with_reducible repeat (first | refine blk_drewN ?_ _ | refine blk_drew ?_ | refine blk_alloc ?_ _)); exact BK304.out) hb); have n13_ := Aside0.mk (below_step (by repeat (first | (with_reducible first | exact HB.out | apply below_alloc | apply pw_below_drewN | apply below_drew1 | refine below_set ?_ GE234.out | refine below_set ?_ GE252.out | refine below_set ?_ GE260.out | refine below_set ?_ GE270.out | refine below_set ?_ GE304.out) | exact HB.out)) hb); clear HO_253000; clear HO_253002; clear HO_261000; clear HO_261002; clear HO_271000; clear HO_271002; clear HO_305000; clear HO_305002; clear BK234; clear BK252; clear BK260; clear BK270; clear BK304; clear HB; have HO_253000 := n0_; have HO_253002 := n1_; have HO_261000 := n2_; have HO_261002 := n3_; have HO_271000 := n4_; have HO_271002 := n5_; have HO_305000 := n6_; have HO_305002 := n7_; have BK234 := n8_; have BK252 := n9_; have BK260 := n10_; have BK270 := n11_; have BK304 := n12_; have HB := n13_; clear n0_ n1_ n2_ n3_ n4_ n5_ n6_ n7_ n8_ n9_ n10_ n11_ n12_ n13_; (try clear hb); (try clear hb2); (try clear hk); (try clear hi)))
                                go_ret
                                exact ⟨by first | rfl | (simp [errW_none, errW_some] <;> rfl) | (simp [*, errW_none, errW_some] <;> rfl), by repeat (first | (with_reducible first | exact HB.out | apply below_alloc | apply pw_below_drewN | apply below_drew1 | refine below_set ?_ GE234.out | refine below_set ?_ GE252.out | refine below_set ?_ GE260.out | refine below_set ?_ GE270.out | refine below_set ?_ GE304.out) | exact HB.out)⟩
                              · rw [if_neg c129] at H
                                have c129b0 : (t306 == t284) = false := beq_eq_false_iff_ne.mpr c129
                                have c129b1 : (t306 != t284) = true := bne_iff_ne.mpr c129
                                exact absurd (Option.some.inj H) (by decide)
                    · rw [if_neg c87] at H
                      have c87b0 : (t287 == t284) = false := beq_eq_false_iff_ne.mpr c87
                      have c87b1 : (t287 != t284) = true := bne_iff_ne.mpr c87
                      exact absurd (Option.some.inj H) (by decide)
          · replace c58 := Bool.eq_false_iff.mpr c58
            subst c58
            have H1 : (some false) = some true := by rw [if_neg (show ¬ (false = true) by decide)] at H; exact H
            clear H
            have H := H1
            clear H1
            exact absurd (Option.some.inj H) (by decide)

end Go.Proofs.Ythikbgjlcdkoaaa.MFnExactDevDo
