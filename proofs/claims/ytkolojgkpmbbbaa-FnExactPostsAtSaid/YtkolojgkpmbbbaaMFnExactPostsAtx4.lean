-- Written for this claim by a program of the session (wip/mk.py) over the kit's print.
import Derived.Test.YtkolojgkpmbbbaaMFnExactPostsAtx0
import Derived.Test.YtkolojgkpmbbbaaMFnExactPostsAtx3
namespace Go.Proofs.Ytkolojgkpmbbbaa.MFnExactPostsAt
open Go.RowKit Go.Proofs.YtkolojgkpmbbbaaW.PrintWords Go.Proofs.YtkolojgkpmbbbaaW.PrintLast Go.Proofs.YtkolojgkpmbbbaaW.PrintMore
attribute [local go_sem] max2_int min2_int max_two min_two max_three min_three max_four min_four   -- for this text's walks alone
set_option linter.unusedVariables false
set_option linter.unusedSimpArgs false

/-! ### laws_heldPostS: function 21 -/
def laws_heldPostS.l0 : Nat → List (S59) → Int → Int → Option (Int)
  | 0, _, _, _ => none
  | k + 1, x0, x1, x5 => if x5 < (x0.length : Int) then (if 0 ≤ x5 then (if ((rd_T59 x0 x5).f0) = x1 then (if ((rd_T59 x0 x5).f1) = (wrap64 (x1 + 1)) then (if (((rd_T59 x0 x5).f2.f0) != ((Int.tmod (wrap64 ((wrap64 (x1 + 1)) + 1)) 3) == 0)) = true then (some (-1)) else (if ((rd_T59 x0 x5).f2.f1) = (wrap64 ((wrap64 ((wrap64 (x1 + 1)) + 1)) + 1)) then (if ((rd_T59 x0 x5).f2.f2) = (wrap64 ((wrap64 ((wrap64 ((wrap64 (x1 + 1)) + 1)) + 1)) + 1)) then (if ((rd_T59 x0 x5).f2.f3) = (wrap64 ((wrap64 ((wrap64 ((wrap64 ((wrap64 (x1 + 1)) + 1)) + 1)) + 1)) + 1)) then (if (((rd_T59 x0 x5).f2.f4) != ((Int.tmod (wrap64 ((wrap64 ((wrap64 ((wrap64 ((wrap64 ((wrap64 (x1 + 1)) + 1)) + 1)) + 1)) + 1)) + 1)) 3) == 0)) = true then (some (-1)) else ((laws_heldIntS.f k ((rd_T59 x0 x5).f2.f5) (wrap64 ((wrap64 ((wrap64 ((wrap64 ((wrap64 ((wrap64 ((wrap64 (x1 + 1)) + 1)) + 1)) + 1)) + 1)) + 1)) + 1))).bind fun t241 => (if t241 < 0 then (some (-1)) else (laws_heldPostS.l0 k x0 t241 (wrap64 (x5 + 1)))))) else (some (-1))) else (some (-1))) else (some (-1)))) else (some (-1))) else (some (-1))) else (none)) else (some x1)
def laws_heldPostS.f (k : Nat) (l0 : List (S59)) (a1 : Int) : Option (Int) := laws_heldPostS.l0 k l0 a1 0
theorem laws_heldPostS.mono_l : ∀ k, (∀ y0 y1 y2, LeO (laws_heldPostS.l0 k y0 y1 y2) (laws_heldPostS.l0 (k + 1) y0 y1 y2))
  | 0 => fun _ _ _ r h => by simp [laws_heldPostS.l0] at h
  | k + 1 => by
    have ih0 := laws_heldPostS.mono_l k
    · intro y0 y1 y2
      unfold laws_heldPostS.l0
      repeat' first
      | (with_reducible exact ih0 _ _ _)
      | (with_reducible exact laws_heldIntS.mono _ _ _)
      | (with_reducible exact LeO.refl _)
      | (with_reducible exact LeO.none _)
      | (with_reducible refine LeO.ite ?_ ?_)
      | (with_reducible refine LeO.bind ?_ (fun _ => ?_))
      | exact ih0 _ _ _
      | exact laws_heldIntS.mono _ _ _
      | exact LeO.none _
      | refine LeO.ite ?_ ?_
      | refine LeO.bind ?_ (fun _ => ?_)
theorem laws_heldPostS.mono : ∀ a0 a1 k, LeO (laws_heldPostS.f k a0 a1) (laws_heldPostS.f (k + 1) a0 a1) := by
  intro a0 a1 k
  have ih0 := laws_heldPostS.mono_l k
  unfold laws_heldPostS.f
  repeat' first
      | (with_reducible exact ih0 _ _ _)
      | (with_reducible exact laws_heldIntS.mono _ _ _)
      | (with_reducible exact LeO.refl _)
      | (with_reducible exact LeO.none _)
      | (with_reducible refine LeO.ite ?_ ?_)
      | (with_reducible refine LeO.bind ?_ (fun _ => ?_))
      | exact ih0 _ _ _
      | exact laws_heldIntS.mono _ _ _
      | exact LeO.none _
      | refine LeO.ite ?_ ?_
      | refine LeO.bind ?_ (fun _ => ?_)
set_option maxHeartbeats 8000000 in
set_option maxRecDepth 100000 in
theorem laws_heldPostS.calls (k : Nat) (A0 : Option Addr) (c0 : Nat) (l0 : List (S59)) (a1 : Int) (r : Int) (w : World) (hr0 : Kd.C k59 w A0 l0.length l0) (hc0 : l0.length ≤ c0) (h : laws_heldPostS.f k l0 a1 = some r) :
    Calls Try.prog 21 #[.slice A0 l0.length c0, .int .i64 a1] w fun e w' => e = .returned (.int .i64 r) ∧ Drawn0 w w' := by
  have HR0 := Aside0.mk hr0
  have HC0 := Aside0.mk hc0
  clear hr0 hc0
  have H : (laws_heldPostS.l0 k l0 a1 0) = some r := h
  clear h
  have H' := Aside0.mk H
  clear H
  go_enter Try.func21, Try.ntmps21
  go_wp2
  go_loopg [1, 5] k (fun kq v1 v5 w' => ∃ (x1_1 : Int) (x5_1 : Int), v1 = .int .i64 x1_1 ∧ v5 = .int .i64 x5_1 ∧ Aside0 (laws_heldPostS.l0 kq l0 x1_1 x5_1 = some r) ∧ Aside0 (kq ≤ k) ∧ Drawn0 w w')
  case atStart => exact ⟨(a1), (0), (by first | rfl | (simp; done) | (simp [*]; done)), (by first | rfl | (simp; done) | (simp [*]; done)), H', ⟨Nat.le_refl _⟩, by repeat (first | exact Drawn0.refl _ | apply Drawn0.step)⟩
  case round =>
    clear H'
    try clear c2
    try clear p2
    obtain ⟨x1_1, x5_1, rfl, rfl, HA, HK1, ⟨m1, rfl⟩⟩ := hrel
    cases gk with
    | zero => exact absurd HA.out (by simp [laws_heldPostS.l0])
    | succ k1 =>
      have H := HA.out
      clear HA
      simp only [laws_heldPostS.l0] at H
      by_cases c3 : x5_1 < (l0.length : Int)
      · rw [if_pos c3] at H
        have c3b0 : decide (x5_1 < (l0.length : Int)) = true := decide_eq_true c3
        clear c3
        by_cases c4 : 0 ≤ x5_1
        · rw [if_pos c4] at H
          have c4b0 : decide (0 ≤ x5_1) = true := decide_eq_true c4
          clear c4
          by_cases c5 : ((rd_T59 l0 x5_1).f0) = x1_1
          · rw [if_pos c5] at H
            have c5b0 : (((rd_T59 l0 x5_1).f0) == x1_1) = true := beq_iff_eq.mpr c5
            have c5b1 : (((rd_T59 l0 x5_1).f0) != x1_1) = false := bne_eq_false_iff_eq.mpr c5
            clear c5
            by_cases c6 : ((rd_T59 l0 x5_1).f1) = (wrap64 (x1_1 + 1))
            · rw [if_pos c6] at H
              have c6b0 : (((rd_T59 l0 x5_1).f1) == (wrap64 (x1_1 + 1))) = true := beq_iff_eq.mpr c6
              have c6b1 : (((rd_T59 l0 x5_1).f1) != (wrap64 (x1_1 + 1))) = false := bne_eq_false_iff_eq.mpr c6
              clear c6
              by_cases c7 : (((rd_T59 l0 x5_1).f2.f0) != ((Int.tmod (wrap64 ((wrap64 (x1_1 + 1)) + 1)) 3) == 0)) = true
              · rw [if_pos c7] at H
                have c7b0 : (((rd_T59 l0 x5_1).f2.f0) != ((Int.tmod (wrap64 ((wrap64 (x1_1 + 1)) + 1)) 3) == 0)) = true := c7
                (try (have c7b1 : decide (((rd_T59 l0 x5_1).f2.f0) = ((Int.tmod (wrap64 ((wrap64 (x1_1 + 1)) + 1)) 3) == 0)) = false := by simpa using c7))
                (try (have c7b2 : (((rd_T59 l0 x5_1).f2.f0) == ((Int.tmod (wrap64 ((wrap64 (x1_1 + 1)) + 1)) 3) == 0)) = false := by simpa using c7))
                (try (have c7b3 : ¬ (((rd_T59 l0 x5_1).f2.f0) = ((Int.tmod (wrap64 ((wrap64 (x1_1 + 1)) + 1)) 3) == 0)) := by simpa using c7))
                clear c7
                obtain rfl := Option.some.inj H
                have p233 : 0 ≤ (x5_1 : Int) := of_decide_eq_true (by first | (with_reducible assumption) | assumption)
                have q233 : x5_1 < (l0.length : Int) := of_decide_eq_true (by first | (with_reducible assumption) | assumption)
                obtain ⟨ad233, A233_7, c233_7, e233, hx233_0, hx233_1, hx233_2, hx233_3, hx233_4, hx233_5, hx233_6, hx233_7, hl233_7, hi233_7⟩ := at_T59 HR0.out x5_1 p233 q233
                cases e233
                have HR233_7 := Aside0.mk hi233_7
                have HC233_7 := Aside0.mk hl233_7
                clear hi233_7 hl233_7
                replace p233 := eq_true p233
                replace q233 := eq_true q233
                have p234 : 0 ≤ (x5_1 : Int) := of_decide_eq_true (by first | (with_reducible assumption) | assumption)
                have q234 : x5_1 < (l0.length : Int) := of_decide_eq_true (by first | (with_reducible assumption) | assumption)
                obtain ⟨ad234, A234_7, c234_7, e234, hx234_0, hx234_1, hx234_2, hx234_3, hx234_4, hx234_5, hx234_6, hx234_7, hl234_7, hi234_7⟩ := at_T59 HR0.out x5_1 p234 q234
                obtain rfl : ad233 = ad234 := (by injection e234)
                have HR234_7 := Aside0.mk hi234_7
                have HC234_7 := Aside0.mk hl234_7
                clear hi234_7 hl234_7
                replace p234 := eq_true p234
                replace q234 := eq_true q234
                have ea_ := Option.some.inj (hx233_7.symm.trans hx234_7)
                injection ea_ with ea_ en_ ec_
                subst ea_
                subst ec_
                clear en_
                have p235 : 0 ≤ (x5_1 : Int) := of_decide_eq_true (by first | (with_reducible assumption) | assumption)
                have q235 : x5_1 < (l0.length : Int) := of_decide_eq_true (by first | (with_reducible assumption) | assumption)
                obtain ⟨ad235, A235_7, c235_7, e235, hx235_0, hx235_1, hx235_2, hx235_3, hx235_4, hx235_5, hx235_6, hx235_7, hl235_7, hi235_7⟩ := at_T59 HR0.out x5_1 p235 q235
                obtain rfl : ad233 = ad235 := (by injection e235)
                have HR235_7 := Aside0.mk hi235_7
                have HC235_7 := Aside0.mk hl235_7
                clear hi235_7 hl235_7
                replace p235 := eq_true p235
                replace q235 := eq_true q235
                have ea_ := Option.some.inj (hx233_7.symm.trans hx235_7)
                injection ea_ with ea_ en_ ec_
                subst ea_
                subst ec_
                clear en_
                go_wp2
                go_ret
                exact ⟨by first | rfl | (simp; done) | (simp [*]; done), by repeat (first | exact Drawn0.refl _ | apply Drawn0.step)⟩
              · rw [if_neg c7] at H
                have c7b0 : (((rd_T59 l0 x5_1).f2.f0) != ((Int.tmod (wrap64 ((wrap64 (x1_1 + 1)) + 1)) 3) == 0)) = false := by simpa using c7
                (try (have c7b1 : decide (((rd_T59 l0 x5_1).f2.f0) = ((Int.tmod (wrap64 ((wrap64 (x1_1 + 1)) + 1)) 3) == 0)) = true := by simpa using c7))
                (try (have c7b2 : (((rd_T59 l0 x5_1).f2.f0) == ((Int.tmod (wrap64 ((wrap64 (x1_1 + 1)) + 1)) 3) == 0)) = true := by simpa using c7))
                clear c7
                by_cases c8 : ((rd_T59 l0 x5_1).f2.f1) = (wrap64 ((wrap64 ((wrap64 (x1_1 + 1)) + 1)) + 1))
                · rw [if_pos c8] at H
                  have c8b0 : (((rd_T59 l0 x5_1).f2.f1) == (wrap64 ((wrap64 ((wrap64 (x1_1 + 1)) + 1)) + 1))) = true := beq_iff_eq.mpr c8
                  have c8b1 : (((rd_T59 l0 x5_1).f2.f1) != (wrap64 ((wrap64 ((wrap64 (x1_1 + 1)) + 1)) + 1))) = false := bne_eq_false_iff_eq.mpr c8
                  clear c8
                  by_cases c9 : ((rd_T59 l0 x5_1).f2.f2) = (wrap64 ((wrap64 ((wrap64 ((wrap64 (x1_1 + 1)) + 1)) + 1)) + 1))
                  · rw [if_pos c9] at H
                    have c9b0 : (((rd_T59 l0 x5_1).f2.f2) == (wrap64 ((wrap64 ((wrap64 ((wrap64 (x1_1 + 1)) + 1)) + 1)) + 1))) = true := beq_iff_eq.mpr c9
                    have c9b1 : (((rd_T59 l0 x5_1).f2.f2) != (wrap64 ((wrap64 ((wrap64 ((wrap64 (x1_1 + 1)) + 1)) + 1)) + 1))) = false := bne_eq_false_iff_eq.mpr c9
                    clear c9
                    by_cases c10 : ((rd_T59 l0 x5_1).f2.f3) = (wrap64 ((wrap64 ((wrap64 ((wrap64 ((wrap64 (x1_1 + 1)) + 1)) + 1)) + 1)) + 1))
                    · rw [if_pos c10] at H
                      have c10b0 : (((rd_T59 l0 x5_1).f2.f3) == (wrap64 ((wrap64 ((wrap64 ((wrap64 ((wrap64 (x1_1 + 1)) + 1)) + 1)) + 1)) + 1))) = true := beq_iff_eq.mpr c10
                      have c10b1 : (((rd_T59 l0 x5_1).f2.f3) != (wrap64 ((wrap64 ((wrap64 ((wrap64 ((wrap64 (x1_1 + 1)) + 1)) + 1)) + 1)) + 1))) = false := bne_eq_false_iff_eq.mpr c10
                      clear c10
                      by_cases c11 : (((rd_T59 l0 x5_1).f2.f4) != ((Int.tmod (wrap64 ((wrap64 ((wrap64 ((wrap64 ((wrap64 ((wrap64 (x1_1 + 1)) + 1)) + 1)) + 1)) + 1)) + 1)) 3) == 0)) = true
                      · rw [if_pos c11] at H
                        have c11b0 : (((rd_T59 l0 x5_1).f2.f4) != ((Int.tmod (wrap64 ((wrap64 ((wrap64 ((wrap64 ((wrap64 ((wrap64 (x1_1 + 1)) + 1)) + 1)) + 1)) + 1)) + 1)) 3) == 0)) = true := c11
                        (try (have c11b1 : decide (((rd_T59 l0 x5_1).f2.f4) = ((Int.tmod (wrap64 ((wrap64 ((wrap64 ((wrap64 ((wrap64 ((wrap64 (x1_1 + 1)) + 1)) + 1)) + 1)) + 1)) + 1)) 3) == 0)) = false := by simpa using c11))
                        (try (have c11b2 : (((rd_T59 l0 x5_1).f2.f4) == ((Int.tmod (wrap64 ((wrap64 ((wrap64 ((wrap64 ((wrap64 ((wrap64 (x1_1 + 1)) + 1)) + 1)) + 1)) + 1)) + 1)) 3) == 0)) = false := by simpa using c11))
                        (try (have c11b3 : ¬ (((rd_T59 l0 x5_1).f2.f4) = ((Int.tmod (wrap64 ((wrap64 ((wrap64 ((wrap64 ((wrap64 ((wrap64 (x1_1 + 1)) + 1)) + 1)) + 1)) + 1)) + 1)) 3) == 0)) := by simpa using c11))
                        clear c11
                        obtain rfl := Option.some.inj H
                        have p233 : 0 ≤ (x5_1 : Int) := of_decide_eq_true (by first | (with_reducible assumption) | assumption)
                        have q233 : x5_1 < (l0.length : Int) := of_decide_eq_true (by first | (with_reducible assumption) | assumption)
                        obtain ⟨ad233, A233_7, c233_7, e233, hx233_0, hx233_1, hx233_2, hx233_3, hx233_4, hx233_5, hx233_6, hx233_7, hl233_7, hi233_7⟩ := at_T59 HR0.out x5_1 p233 q233
                        cases e233
                        have HR233_7 := Aside0.mk hi233_7
                        have HC233_7 := Aside0.mk hl233_7
                        clear hi233_7 hl233_7
                        replace p233 := eq_true p233
                        replace q233 := eq_true q233
                        have p234 : 0 ≤ (x5_1 : Int) := of_decide_eq_true (by first | (with_reducible assumption) | assumption)
                        have q234 : x5_1 < (l0.length : Int) := of_decide_eq_true (by first | (with_reducible assumption) | assumption)
                        obtain ⟨ad234, A234_7, c234_7, e234, hx234_0, hx234_1, hx234_2, hx234_3, hx234_4, hx234_5, hx234_6, hx234_7, hl234_7, hi234_7⟩ := at_T59 HR0.out x5_1 p234 q234
                        obtain rfl : ad233 = ad234 := (by injection e234)
                        have HR234_7 := Aside0.mk hi234_7
                        have HC234_7 := Aside0.mk hl234_7
                        clear hi234_7 hl234_7
                        replace p234 := eq_true p234
                        replace q234 := eq_true q234
                        have ea_ := Option.some.inj (hx233_7.symm.trans hx234_7)
                        injection ea_ with ea_ en_ ec_
                        subst ea_
                        subst ec_
                        clear en_
                        have p235 : 0 ≤ (x5_1 : Int) := of_decide_eq_true (by first | (with_reducible assumption) | assumption)
                        have q235 : x5_1 < (l0.length : Int) := of_decide_eq_true (by first | (with_reducible assumption) | assumption)
                        obtain ⟨ad235, A235_7, c235_7, e235, hx235_0, hx235_1, hx235_2, hx235_3, hx235_4, hx235_5, hx235_6, hx235_7, hl235_7, hi235_7⟩ := at_T59 HR0.out x5_1 p235 q235
                        obtain rfl : ad233 = ad235 := (by injection e235)
                        have HR235_7 := Aside0.mk hi235_7
                        have HC235_7 := Aside0.mk hl235_7
                        clear hi235_7 hl235_7
                        replace p235 := eq_true p235
                        replace q235 := eq_true q235
                        have ea_ := Option.some.inj (hx233_7.symm.trans hx235_7)
                        injection ea_ with ea_ en_ ec_
                        subst ea_
                        subst ec_
                        clear en_
                        have p236 : 0 ≤ (x5_1 : Int) := of_decide_eq_true (by first | (with_reducible assumption) | assumption)
                        have q236 : x5_1 < (l0.length : Int) := of_decide_eq_true (by first | (with_reducible assumption) | assumption)
                        obtain ⟨ad236, A236_7, c236_7, e236, hx236_0, hx236_1, hx236_2, hx236_3, hx236_4, hx236_5, hx236_6, hx236_7, hl236_7, hi236_7⟩ := at_T59 HR0.out x5_1 p236 q236
                        obtain rfl : ad233 = ad236 := (by injection e236)
                        have HR236_7 := Aside0.mk hi236_7
                        have HC236_7 := Aside0.mk hl236_7
                        clear hi236_7 hl236_7
                        replace p236 := eq_true p236
                        replace q236 := eq_true q236
                        have ea_ := Option.some.inj (hx233_7.symm.trans hx236_7)
                        injection ea_ with ea_ en_ ec_
                        subst ea_
                        subst ec_
                        clear en_
                        have p237 : 0 ≤ (x5_1 : Int) := of_decide_eq_true (by first | (with_reducible assumption) | assumption)
                        have q237 : x5_1 < (l0.length : Int) := of_decide_eq_true (by first | (with_reducible assumption) | assumption)
                        obtain ⟨ad237, A237_7, c237_7, e237, hx237_0, hx237_1, hx237_2, hx237_3, hx237_4, hx237_5, hx237_6, hx237_7, hl237_7, hi237_7⟩ := at_T59 HR0.out x5_1 p237 q237
                        obtain rfl : ad233 = ad237 := (by injection e237)
                        have HR237_7 := Aside0.mk hi237_7
                        have HC237_7 := Aside0.mk hl237_7
                        clear hi237_7 hl237_7
                        replace p237 := eq_true p237
                        replace q237 := eq_true q237
                        have ea_ := Option.some.inj (hx233_7.symm.trans hx237_7)
                        injection ea_ with ea_ en_ ec_
                        subst ea_
                        subst ec_
                        clear en_
                        have p238 : 0 ≤ (x5_1 : Int) := of_decide_eq_true (by first | (with_reducible assumption) | assumption)
                        have q238 : x5_1 < (l0.length : Int) := of_decide_eq_true (by first | (with_reducible assumption) | assumption)
                        obtain ⟨ad238, A238_7, c238_7, e238, hx238_0, hx238_1, hx238_2, hx238_3, hx238_4, hx238_5, hx238_6, hx238_7, hl238_7, hi238_7⟩ := at_T59 HR0.out x5_1 p238 q238
                        obtain rfl : ad233 = ad238 := (by injection e238)
                        have HR238_7 := Aside0.mk hi238_7
                        have HC238_7 := Aside0.mk hl238_7
                        clear hi238_7 hl238_7
                        replace p238 := eq_true p238
                        replace q238 := eq_true q238
                        have ea_ := Option.some.inj (hx233_7.symm.trans hx238_7)
                        injection ea_ with ea_ en_ ec_
                        subst ea_
                        subst ec_
                        clear en_
                        have p239 : 0 ≤ (x5_1 : Int) := of_decide_eq_true (by first | (with_reducible assumption) | assumption)
                        have q239 : x5_1 < (l0.length : Int) := of_decide_eq_true (by first | (with_reducible assumption) | assumption)
                        obtain ⟨ad239, A239_7, c239_7, e239, hx239_0, hx239_1, hx239_2, hx239_3, hx239_4, hx239_5, hx239_6, hx239_7, hl239_7, hi239_7⟩ := at_T59 HR0.out x5_1 p239 q239
                        obtain rfl : ad233 = ad239 := (by injection e239)
                        have HR239_7 := Aside0.mk hi239_7
                        have HC239_7 := Aside0.mk hl239_7
                        clear hi239_7 hl239_7
                        replace p239 := eq_true p239
                        replace q239 := eq_true q239
                        have ea_ := Option.some.inj (hx233_7.symm.trans hx239_7)
                        injection ea_ with ea_ en_ ec_
                        subst ea_
                        subst ec_
                        clear en_
                        go_wp2
                        go_ret
                        exact ⟨by first | rfl | (simp; done) | (simp [*]; done), by repeat (first | exact Drawn0.refl _ | apply Drawn0.step)⟩
                      · rw [if_neg c11] at H
                        have c11b0 : (((rd_T59 l0 x5_1).f2.f4) != ((Int.tmod (wrap64 ((wrap64 ((wrap64 ((wrap64 ((wrap64 ((wrap64 (x1_1 + 1)) + 1)) + 1)) + 1)) + 1)) + 1)) 3) == 0)) = false := by simpa using c11
                        (try (have c11b1 : decide (((rd_T59 l0 x5_1).f2.f4) = ((Int.tmod (wrap64 ((wrap64 ((wrap64 ((wrap64 ((wrap64 ((wrap64 (x1_1 + 1)) + 1)) + 1)) + 1)) + 1)) + 1)) 3) == 0)) = true := by simpa using c11))
                        (try (have c11b2 : (((rd_T59 l0 x5_1).f2.f4) == ((Int.tmod (wrap64 ((wrap64 ((wrap64 ((wrap64 ((wrap64 ((wrap64 (x1_1 + 1)) + 1)) + 1)) + 1)) + 1)) + 1)) 3) == 0)) = true := by simpa using c11))
                        clear c11
                        replace H := Option.bind_eq_some_iff.mp H
                        obtain ⟨t241, A120, H⟩ := H
                        replace H : (if t241 < 0 then (some (-1)) else (laws_heldPostS.l0 k1 l0 t241 (wrap64 (x5_1 + 1)))) = some r := H
                        have A12 := Aside0.mk A120
                        clear A120
                        by_cases c13 : t241 < 0
                        · rw [if_pos c13] at H
                          have c13b0 : decide (t241 < 0) = true := decide_eq_true c13
                          clear c13
                          obtain rfl := Option.some.inj H
                          have p233 : 0 ≤ (x5_1 : Int) := of_decide_eq_true (by first | (with_reducible assumption) | assumption)
                          have q233 : x5_1 < (l0.length : Int) := of_decide_eq_true (by first | (with_reducible assumption) | assumption)
                          obtain ⟨ad233, A233_7, c233_7, e233, hx233_0, hx233_1, hx233_2, hx233_3, hx233_4, hx233_5, hx233_6, hx233_7, hl233_7, hi233_7⟩ := at_T59 HR0.out x5_1 p233 q233
                          cases e233
                          have HR233_7 := Aside0.mk hi233_7
                          have HC233_7 := Aside0.mk hl233_7
                          clear hi233_7 hl233_7
                          replace p233 := eq_true p233
                          replace q233 := eq_true q233
                          have p234 : 0 ≤ (x5_1 : Int) := of_decide_eq_true (by first | (with_reducible assumption) | assumption)
                          have q234 : x5_1 < (l0.length : Int) := of_decide_eq_true (by first | (with_reducible assumption) | assumption)
                          obtain ⟨ad234, A234_7, c234_7, e234, hx234_0, hx234_1, hx234_2, hx234_3, hx234_4, hx234_5, hx234_6, hx234_7, hl234_7, hi234_7⟩ := at_T59 HR0.out x5_1 p234 q234
                          obtain rfl : ad233 = ad234 := (by injection e234)
                          have HR234_7 := Aside0.mk hi234_7
                          have HC234_7 := Aside0.mk hl234_7
                          clear hi234_7 hl234_7
                          replace p234 := eq_true p234
                          replace q234 := eq_true q234
                          have ea_ := Option.some.inj (hx233_7.symm.trans hx234_7)
                          injection ea_ with ea_ en_ ec_
                          subst ea_
                          subst ec_
                          clear en_
                          have p235 : 0 ≤ (x5_1 : Int) := of_decide_eq_true (by first | (with_reducible assumption) | assumption)
                          have q235 : x5_1 < (l0.length : Int) := of_decide_eq_true (by first | (with_reducible assumption) | assumption)
                          obtain ⟨ad235, A235_7, c235_7, e235, hx235_0, hx235_1, hx235_2, hx235_3, hx235_4, hx235_5, hx235_6, hx235_7, hl235_7, hi235_7⟩ := at_T59 HR0.out x5_1 p235 q235
                          obtain rfl : ad233 = ad235 := (by injection e235)
                          have HR235_7 := Aside0.mk hi235_7
                          have HC235_7 := Aside0.mk hl235_7
                          clear hi235_7 hl235_7
                          replace p235 := eq_true p235
                          replace q235 := eq_true q235
                          have ea_ := Option.some.inj (hx233_7.symm.trans hx235_7)
                          injection ea_ with ea_ en_ ec_
                          subst ea_
                          subst ec_
                          clear en_
                          have p236 : 0 ≤ (x5_1 : Int) := of_decide_eq_true (by first | (with_reducible assumption) | assumption)
                          have q236 : x5_1 < (l0.length : Int) := of_decide_eq_true (by first | (with_reducible assumption) | assumption)
                          obtain ⟨ad236, A236_7, c236_7, e236, hx236_0, hx236_1, hx236_2, hx236_3, hx236_4, hx236_5, hx236_6, hx236_7, hl236_7, hi236_7⟩ := at_T59 HR0.out x5_1 p236 q236
                          obtain rfl : ad233 = ad236 := (by injection e236)
                          have HR236_7 := Aside0.mk hi236_7
                          have HC236_7 := Aside0.mk hl236_7
                          clear hi236_7 hl236_7
                          replace p236 := eq_true p236
                          replace q236 := eq_true q236
                          have ea_ := Option.some.inj (hx233_7.symm.trans hx236_7)
                          injection ea_ with ea_ en_ ec_
                          subst ea_
                          subst ec_
                          clear en_
                          have p237 : 0 ≤ (x5_1 : Int) := of_decide_eq_true (by first | (with_reducible assumption) | assumption)
                          have q237 : x5_1 < (l0.length : Int) := of_decide_eq_true (by first | (with_reducible assumption) | assumption)
                          obtain ⟨ad237, A237_7, c237_7, e237, hx237_0, hx237_1, hx237_2, hx237_3, hx237_4, hx237_5, hx237_6, hx237_7, hl237_7, hi237_7⟩ := at_T59 HR0.out x5_1 p237 q237
                          obtain rfl : ad233 = ad237 := (by injection e237)
                          have HR237_7 := Aside0.mk hi237_7
                          have HC237_7 := Aside0.mk hl237_7
                          clear hi237_7 hl237_7
                          replace p237 := eq_true p237
                          replace q237 := eq_true q237
                          have ea_ := Option.some.inj (hx233_7.symm.trans hx237_7)
                          injection ea_ with ea_ en_ ec_
                          subst ea_
                          subst ec_
                          clear en_
                          have p238 : 0 ≤ (x5_1 : Int) := of_decide_eq_true (by first | (with_reducible assumption) | assumption)
                          have q238 : x5_1 < (l0.length : Int) := of_decide_eq_true (by first | (with_reducible assumption) | assumption)
                          obtain ⟨ad238, A238_7, c238_7, e238, hx238_0, hx238_1, hx238_2, hx238_3, hx238_4, hx238_5, hx238_6, hx238_7, hl238_7, hi238_7⟩ := at_T59 HR0.out x5_1 p238 q238
                          obtain rfl : ad233 = ad238 := (by injection e238)
                          have HR238_7 := Aside0.mk hi238_7
                          have HC238_7 := Aside0.mk hl238_7
                          clear hi238_7 hl238_7
                          replace p238 := eq_true p238
                          replace q238 := eq_true q238
                          have ea_ := Option.some.inj (hx233_7.symm.trans hx238_7)
                          injection ea_ with ea_ en_ ec_
                          subst ea_
                          subst ec_
                          clear en_
                          have p239 : 0 ≤ (x5_1 : Int) := of_decide_eq_true (by first | (with_reducible assumption) | assumption)
                          have q239 : x5_1 < (l0.length : Int) := of_decide_eq_true (by first | (with_reducible assumption) | assumption)
                          obtain ⟨ad239, A239_7, c239_7, e239, hx239_0, hx239_1, hx239_2, hx239_3, hx239_4, hx239_5, hx239_6, hx239_7, hl239_7, hi239_7⟩ := at_T59 HR0.out x5_1 p239 q239
                          obtain rfl : ad233 = ad239 := (by injection e239)
                          have HR239_7 := Aside0.mk hi239_7
                          have HC239_7 := Aside0.mk hl239_7
                          clear hi239_7 hl239_7
                          replace p239 := eq_true p239
                          replace q239 := eq_true q239
                          have ea_ := Option.some.inj (hx233_7.symm.trans hx239_7)
                          injection ea_ with ea_ en_ ec_
                          subst ea_
                          subst ec_
                          clear en_
                          have p240 : 0 ≤ (x5_1 : Int) := of_decide_eq_true (by first | (with_reducible assumption) | assumption)
                          have q240 : x5_1 < (l0.length : Int) := of_decide_eq_true (by first | (with_reducible assumption) | assumption)
                          obtain ⟨ad240, A240_7, c240_7, e240, hx240_0, hx240_1, hx240_2, hx240_3, hx240_4, hx240_5, hx240_6, hx240_7, hl240_7, hi240_7⟩ := at_T59 HR0.out x5_1 p240 q240
                          obtain rfl : ad233 = ad240 := (by injection e240)
                          have HR240_7 := Aside0.mk hi240_7
                          have HC240_7 := Aside0.mk hl240_7
                          clear hi240_7 hl240_7
                          replace p240 := eq_true p240
                          replace q240 := eq_true q240
                          have ea_ := Option.some.inj (hx233_7.symm.trans hx240_7)
                          injection ea_ with ea_ en_ ec_
                          subst ea_
                          subst ec_
                          clear en_
                          go_wp2_with (first | ((with_reducible refine gate_callee (f := 36) rfl ?_); refine goesL_ (some 91) rfl rfl Try.func36 (by kernel_rfl) rfl #[.slice A233_7 ((rd_T59 l0 x5_1).f2.f5).length c233_7, .int .i64 (wrap64 ((wrap64 ((wrap64 ((wrap64 ((wrap64 ((wrap64 ((wrap64 (x1_1 + 1)) + 1)) + 1)) + 1)) + 1)) + 1)) + 1))] rfl (by (try simp only [List.map_toArray, List.map_cons, List.map_nil]); first | done | rfl | (simp only [List.length_drop, List.length_take]; rfl)) ?_; (with_reducible refine (laws_heldIntS.calls k1 _ _ ((rd_T59 l0 x5_1).f2.f5) (wrap64 ((wrap64 ((wrap64 ((wrap64 ((wrap64 ((wrap64 ((wrap64 (x1_1 + 1)) + 1)) + 1)) + 1)) + 1)) + 1)) + 1)) t241 _ ?side1 ?side2 A12.out).mono ?_); (case side1 => repeat (first | exact HR240_7.out | (with_reducible refine Kd.C_alloc ?_ _) | (with_reducible refine Kd.C_drewN ?_ _) | (with_reducible refine Kd.C_drew ?_))); (case side2 => exact HC240_7.out); rintro e w' ⟨rfl, ⟨nd, rfl⟩⟩; refine ⟨_, rfl, ?_⟩))
                          go_ret
                          exact ⟨by first | rfl | (simp; done) | (simp [*]; done), by repeat (first | exact Drawn0.refl _ | apply Drawn0.step)⟩
                        · rw [if_neg c13] at H
                          have c13b0 : decide (t241 < 0) = false := decide_eq_false c13
                          clear c13
                          have H' := Aside0.mk H
                          clear H
                          have p233 : 0 ≤ (x5_1 : Int) := of_decide_eq_true (by first | (with_reducible assumption) | assumption)
                          have q233 : x5_1 < (l0.length : Int) := of_decide_eq_true (by first | (with_reducible assumption) | assumption)
                          obtain ⟨ad233, A233_7, c233_7, e233, hx233_0, hx233_1, hx233_2, hx233_3, hx233_4, hx233_5, hx233_6, hx233_7, hl233_7, hi233_7⟩ := at_T59 HR0.out x5_1 p233 q233
                          cases e233
                          have HR233_7 := Aside0.mk hi233_7
                          have HC233_7 := Aside0.mk hl233_7
                          clear hi233_7 hl233_7
                          replace p233 := eq_true p233
                          replace q233 := eq_true q233
                          have p234 : 0 ≤ (x5_1 : Int) := of_decide_eq_true (by first | (with_reducible assumption) | assumption)
                          have q234 : x5_1 < (l0.length : Int) := of_decide_eq_true (by first | (with_reducible assumption) | assumption)
                          obtain ⟨ad234, A234_7, c234_7, e234, hx234_0, hx234_1, hx234_2, hx234_3, hx234_4, hx234_5, hx234_6, hx234_7, hl234_7, hi234_7⟩ := at_T59 HR0.out x5_1 p234 q234
                          obtain rfl : ad233 = ad234 := (by injection e234)
                          have HR234_7 := Aside0.mk hi234_7
                          have HC234_7 := Aside0.mk hl234_7
                          clear hi234_7 hl234_7
                          replace p234 := eq_true p234
                          replace q234 := eq_true q234
                          have ea_ := Option.some.inj (hx233_7.symm.trans hx234_7)
                          injection ea_ with ea_ en_ ec_
                          subst ea_
                          subst ec_
                          clear en_
                          have p235 : 0 ≤ (x5_1 : Int) := of_decide_eq_true (by first | (with_reducible assumption) | assumption)
                          have q235 : x5_1 < (l0.length : Int) := of_decide_eq_true (by first | (with_reducible assumption) | assumption)
                          obtain ⟨ad235, A235_7, c235_7, e235, hx235_0, hx235_1, hx235_2, hx235_3, hx235_4, hx235_5, hx235_6, hx235_7, hl235_7, hi235_7⟩ := at_T59 HR0.out x5_1 p235 q235
                          obtain rfl : ad233 = ad235 := (by injection e235)
                          have HR235_7 := Aside0.mk hi235_7
                          have HC235_7 := Aside0.mk hl235_7
                          clear hi235_7 hl235_7
                          replace p235 := eq_true p235
                          replace q235 := eq_true q235
                          have ea_ := Option.some.inj (hx233_7.symm.trans hx235_7)
                          injection ea_ with ea_ en_ ec_
                          subst ea_
                          subst ec_
                          clear en_
                          have p236 : 0 ≤ (x5_1 : Int) := of_decide_eq_true (by first | (with_reducible assumption) | assumption)
                          have q236 : x5_1 < (l0.length : Int) := of_decide_eq_true (by first | (with_reducible assumption) | assumption)
                          obtain ⟨ad236, A236_7, c236_7, e236, hx236_0, hx236_1, hx236_2, hx236_3, hx236_4, hx236_5, hx236_6, hx236_7, hl236_7, hi236_7⟩ := at_T59 HR0.out x5_1 p236 q236
                          obtain rfl : ad233 = ad236 := (by injection e236)
                          have HR236_7 := Aside0.mk hi236_7
                          have HC236_7 := Aside0.mk hl236_7
                          clear hi236_7 hl236_7
                          replace p236 := eq_true p236
                          replace q236 := eq_true q236
                          have ea_ := Option.some.inj (hx233_7.symm.trans hx236_7)
                          injection ea_ with ea_ en_ ec_
                          subst ea_
                          subst ec_
                          clear en_
                          have p237 : 0 ≤ (x5_1 : Int) := of_decide_eq_true (by first | (with_reducible assumption) | assumption)
                          have q237 : x5_1 < (l0.length : Int) := of_decide_eq_true (by first | (with_reducible assumption) | assumption)
                          obtain ⟨ad237, A237_7, c237_7, e237, hx237_0, hx237_1, hx237_2, hx237_3, hx237_4, hx237_5, hx237_6, hx237_7, hl237_7, hi237_7⟩ := at_T59 HR0.out x5_1 p237 q237
                          obtain rfl : ad233 = ad237 := (by injection e237)
                          have HR237_7 := Aside0.mk hi237_7
                          have HC237_7 := Aside0.mk hl237_7
                          clear hi237_7 hl237_7
                          replace p237 := eq_true p237
                          replace q237 := eq_true q237
                          have ea_ := Option.some.inj (hx233_7.symm.trans hx237_7)
                          injection ea_ with ea_ en_ ec_
                          subst ea_
                          subst ec_
                          clear en_
                          have p238 : 0 ≤ (x5_1 : Int) := of_decide_eq_true (by first | (with_reducible assumption) | assumption)
                          have q238 : x5_1 < (l0.length : Int) := of_decide_eq_true (by first | (with_reducible assumption) | assumption)
                          obtain ⟨ad238, A238_7, c238_7, e238, hx238_0, hx238_1, hx238_2, hx238_3, hx238_4, hx238_5, hx238_6, hx238_7, hl238_7, hi238_7⟩ := at_T59 HR0.out x5_1 p238 q238
                          obtain rfl : ad233 = ad238 := (by injection e238)
                          have HR238_7 := Aside0.mk hi238_7
                          have HC238_7 := Aside0.mk hl238_7
                          clear hi238_7 hl238_7
                          replace p238 := eq_true p238
                          replace q238 := eq_true q238
                          have ea_ := Option.some.inj (hx233_7.symm.trans hx238_7)
                          injection ea_ with ea_ en_ ec_
                          subst ea_
                          subst ec_
                          clear en_
                          have p239 : 0 ≤ (x5_1 : Int) := of_decide_eq_true (by first | (with_reducible assumption) | assumption)
                          have q239 : x5_1 < (l0.length : Int) := of_decide_eq_true (by first | (with_reducible assumption) | assumption)
                          obtain ⟨ad239, A239_7, c239_7, e239, hx239_0, hx239_1, hx239_2, hx239_3, hx239_4, hx239_5, hx239_6, hx239_7, hl239_7, hi239_7⟩ := at_T59 HR0.out x5_1 p239 q239
                          obtain rfl : ad233 = ad239 := (by injection e239)
                          have HR239_7 := Aside0.mk hi239_7
                          have HC239_7 := Aside0.mk hl239_7
                          clear hi239_7 hl239_7
                          replace p239 := eq_true p239
                          replace q239 := eq_true q239
                          have ea_ := Option.some.inj (hx233_7.symm.trans hx239_7)
                          injection ea_ with ea_ en_ ec_
                          subst ea_
                          subst ec_
                          clear en_
                          have p240 : 0 ≤ (x5_1 : Int) := of_decide_eq_true (by first | (with_reducible assumption) | assumption)
                          have q240 : x5_1 < (l0.length : Int) := of_decide_eq_true (by first | (with_reducible assumption) | assumption)
                          obtain ⟨ad240, A240_7, c240_7, e240, hx240_0, hx240_1, hx240_2, hx240_3, hx240_4, hx240_5, hx240_6, hx240_7, hl240_7, hi240_7⟩ := at_T59 HR0.out x5_1 p240 q240
                          obtain rfl : ad233 = ad240 := (by injection e240)
                          have HR240_7 := Aside0.mk hi240_7
                          have HC240_7 := Aside0.mk hl240_7
                          clear hi240_7 hl240_7
                          replace p240 := eq_true p240
                          replace q240 := eq_true q240
                          have ea_ := Option.some.inj (hx233_7.symm.trans hx240_7)
                          injection ea_ with ea_ en_ ec_
                          subst ea_
                          subst ec_
                          clear en_
                          go_wp2_with (first | ((with_reducible refine gate_callee (f := 36) rfl ?_); refine goesL_ (some 91) rfl rfl Try.func36 (by kernel_rfl) rfl #[.slice A233_7 ((rd_T59 l0 x5_1).f2.f5).length c233_7, .int .i64 (wrap64 ((wrap64 ((wrap64 ((wrap64 ((wrap64 ((wrap64 ((wrap64 (x1_1 + 1)) + 1)) + 1)) + 1)) + 1)) + 1)) + 1))] rfl (by (try simp only [List.map_toArray, List.map_cons, List.map_nil]); first | done | rfl | (simp only [List.length_drop, List.length_take]; rfl)) ?_; (with_reducible refine (laws_heldIntS.calls k1 _ _ ((rd_T59 l0 x5_1).f2.f5) (wrap64 ((wrap64 ((wrap64 ((wrap64 ((wrap64 ((wrap64 ((wrap64 (x1_1 + 1)) + 1)) + 1)) + 1)) + 1)) + 1)) + 1)) t241 _ ?side1 ?side2 A12.out).mono ?_); (case side1 => repeat (first | exact HR240_7.out | (with_reducible refine Kd.C_alloc ?_ _) | (with_reducible refine Kd.C_drewN ?_ _) | (with_reducible refine Kd.C_drew ?_))); (case side2 => exact HC240_7.out); rintro e w' ⟨rfl, ⟨nd, rfl⟩⟩; refine ⟨_, rfl, ?_⟩))
                          go_roundg k1
                          case measure => have := HK1.out; omega
                          case rel => exact ⟨(t241), (wrap64 (x5_1 + 1)), (by first | rfl | (simp; done) | (simp [*]; done)), (by first | rfl | (simp; done) | (simp [*]; done)), H', ⟨by have := HK1.out; omega⟩, by repeat (first | exact Drawn0.refl _ | apply Drawn0.step)⟩
                    · rw [if_neg c10] at H
                      have c10b0 : (((rd_T59 l0 x5_1).f2.f3) == (wrap64 ((wrap64 ((wrap64 ((wrap64 ((wrap64 (x1_1 + 1)) + 1)) + 1)) + 1)) + 1))) = false := beq_eq_false_iff_ne.mpr c10
                      have c10b1 : (((rd_T59 l0 x5_1).f2.f3) != (wrap64 ((wrap64 ((wrap64 ((wrap64 ((wrap64 (x1_1 + 1)) + 1)) + 1)) + 1)) + 1))) = true := bne_iff_ne.mpr c10
                      obtain rfl := Option.some.inj H
                      have p233 : 0 ≤ (x5_1 : Int) := of_decide_eq_true (by first | (with_reducible assumption) | assumption)
                      have q233 : x5_1 < (l0.length : Int) := of_decide_eq_true (by first | (with_reducible assumption) | assumption)
                      obtain ⟨ad233, A233_7, c233_7, e233, hx233_0, hx233_1, hx233_2, hx233_3, hx233_4, hx233_5, hx233_6, hx233_7, hl233_7, hi233_7⟩ := at_T59 HR0.out x5_1 p233 q233
                      cases e233
                      have HR233_7 := Aside0.mk hi233_7
                      have HC233_7 := Aside0.mk hl233_7
                      clear hi233_7 hl233_7
                      replace p233 := eq_true p233
                      replace q233 := eq_true q233
                      have p234 : 0 ≤ (x5_1 : Int) := of_decide_eq_true (by first | (with_reducible assumption) | assumption)
                      have q234 : x5_1 < (l0.length : Int) := of_decide_eq_true (by first | (with_reducible assumption) | assumption)
                      obtain ⟨ad234, A234_7, c234_7, e234, hx234_0, hx234_1, hx234_2, hx234_3, hx234_4, hx234_5, hx234_6, hx234_7, hl234_7, hi234_7⟩ := at_T59 HR0.out x5_1 p234 q234
                      obtain rfl : ad233 = ad234 := (by injection e234)
                      have HR234_7 := Aside0.mk hi234_7
                      have HC234_7 := Aside0.mk hl234_7
                      clear hi234_7 hl234_7
                      replace p234 := eq_true p234
                      replace q234 := eq_true q234
                      have ea_ := Option.some.inj (hx233_7.symm.trans hx234_7)
                      injection ea_ with ea_ en_ ec_
                      subst ea_
                      subst ec_
                      clear en_
                      have p235 : 0 ≤ (x5_1 : Int) := of_decide_eq_true (by first | (with_reducible assumption) | assumption)
                      have q235 : x5_1 < (l0.length : Int) := of_decide_eq_true (by first | (with_reducible assumption) | assumption)
                      obtain ⟨ad235, A235_7, c235_7, e235, hx235_0, hx235_1, hx235_2, hx235_3, hx235_4, hx235_5, hx235_6, hx235_7, hl235_7, hi235_7⟩ := at_T59 HR0.out x5_1 p235 q235
                      obtain rfl : ad233 = ad235 := (by injection e235)
                      have HR235_7 := Aside0.mk hi235_7
                      have HC235_7 := Aside0.mk hl235_7
                      clear hi235_7 hl235_7
                      replace p235 := eq_true p235
                      replace q235 := eq_true q235
                      have ea_ := Option.some.inj (hx233_7.symm.trans hx235_7)
                      injection ea_ with ea_ en_ ec_
                      subst ea_
                      subst ec_
                      clear en_
                      have p236 : 0 ≤ (x5_1 : Int) := of_decide_eq_true (by first | (with_reducible assumption) | assumption)
                      have q236 : x5_1 < (l0.length : Int) := of_decide_eq_true (by first | (with_reducible assumption) | assumption)
                      obtain ⟨ad236, A236_7, c236_7, e236, hx236_0, hx236_1, hx236_2, hx236_3, hx236_4, hx236_5, hx236_6, hx236_7, hl236_7, hi236_7⟩ := at_T59 HR0.out x5_1 p236 q236
                      obtain rfl : ad233 = ad236 := (by injection e236)
                      have HR236_7 := Aside0.mk hi236_7
                      have HC236_7 := Aside0.mk hl236_7
                      clear hi236_7 hl236_7
                      replace p236 := eq_true p236
                      replace q236 := eq_true q236
                      have ea_ := Option.some.inj (hx233_7.symm.trans hx236_7)
                      injection ea_ with ea_ en_ ec_
                      subst ea_
                      subst ec_
                      clear en_
                      have p237 : 0 ≤ (x5_1 : Int) := of_decide_eq_true (by first | (with_reducible assumption) | assumption)
                      have q237 : x5_1 < (l0.length : Int) := of_decide_eq_true (by first | (with_reducible assumption) | assumption)
                      obtain ⟨ad237, A237_7, c237_7, e237, hx237_0, hx237_1, hx237_2, hx237_3, hx237_4, hx237_5, hx237_6, hx237_7, hl237_7, hi237_7⟩ := at_T59 HR0.out x5_1 p237 q237
                      obtain rfl : ad233 = ad237 := (by injection e237)
                      have HR237_7 := Aside0.mk hi237_7
                      have HC237_7 := Aside0.mk hl237_7
                      clear hi237_7 hl237_7
                      replace p237 := eq_true p237
                      replace q237 := eq_true q237
                      have ea_ := Option.some.inj (hx233_7.symm.trans hx237_7)
                      injection ea_ with ea_ en_ ec_
                      subst ea_
                      subst ec_
                      clear en_
                      have p238 : 0 ≤ (x5_1 : Int) := of_decide_eq_true (by first | (with_reducible assumption) | assumption)
                      have q238 : x5_1 < (l0.length : Int) := of_decide_eq_true (by first | (with_reducible assumption) | assumption)
                      obtain ⟨ad238, A238_7, c238_7, e238, hx238_0, hx238_1, hx238_2, hx238_3, hx238_4, hx238_5, hx238_6, hx238_7, hl238_7, hi238_7⟩ := at_T59 HR0.out x5_1 p238 q238
                      obtain rfl : ad233 = ad238 := (by injection e238)
                      have HR238_7 := Aside0.mk hi238_7
                      have HC238_7 := Aside0.mk hl238_7
                      clear hi238_7 hl238_7
                      replace p238 := eq_true p238
                      replace q238 := eq_true q238
                      have ea_ := Option.some.inj (hx233_7.symm.trans hx238_7)
                      injection ea_ with ea_ en_ ec_
                      subst ea_
                      subst ec_
                      clear en_
                      go_wp2
                      go_ret
                      exact ⟨by first | rfl | (simp; done) | (simp [*]; done), by repeat (first | exact Drawn0.refl _ | apply Drawn0.step)⟩
                  · rw [if_neg c9] at H
                    have c9b0 : (((rd_T59 l0 x5_1).f2.f2) == (wrap64 ((wrap64 ((wrap64 ((wrap64 (x1_1 + 1)) + 1)) + 1)) + 1))) = false := beq_eq_false_iff_ne.mpr c9
                    have c9b1 : (((rd_T59 l0 x5_1).f2.f2) != (wrap64 ((wrap64 ((wrap64 ((wrap64 (x1_1 + 1)) + 1)) + 1)) + 1))) = true := bne_iff_ne.mpr c9
                    obtain rfl := Option.some.inj H
                    have p233 : 0 ≤ (x5_1 : Int) := of_decide_eq_true (by first | (with_reducible assumption) | assumption)
                    have q233 : x5_1 < (l0.length : Int) := of_decide_eq_true (by first | (with_reducible assumption) | assumption)
                    obtain ⟨ad233, A233_7, c233_7, e233, hx233_0, hx233_1, hx233_2, hx233_3, hx233_4, hx233_5, hx233_6, hx233_7, hl233_7, hi233_7⟩ := at_T59 HR0.out x5_1 p233 q233
                    cases e233
                    have HR233_7 := Aside0.mk hi233_7
                    have HC233_7 := Aside0.mk hl233_7
                    clear hi233_7 hl233_7
                    replace p233 := eq_true p233
                    replace q233 := eq_true q233
                    have p234 : 0 ≤ (x5_1 : Int) := of_decide_eq_true (by first | (with_reducible assumption) | assumption)
                    have q234 : x5_1 < (l0.length : Int) := of_decide_eq_true (by first | (with_reducible assumption) | assumption)
                    obtain ⟨ad234, A234_7, c234_7, e234, hx234_0, hx234_1, hx234_2, hx234_3, hx234_4, hx234_5, hx234_6, hx234_7, hl234_7, hi234_7⟩ := at_T59 HR0.out x5_1 p234 q234
                    obtain rfl : ad233 = ad234 := (by injection e234)
                    have HR234_7 := Aside0.mk hi234_7
                    have HC234_7 := Aside0.mk hl234_7
                    clear hi234_7 hl234_7
                    replace p234 := eq_true p234
                    replace q234 := eq_true q234
                    have ea_ := Option.some.inj (hx233_7.symm.trans hx234_7)
                    injection ea_ with ea_ en_ ec_
                    subst ea_
                    subst ec_
                    clear en_
                    have p235 : 0 ≤ (x5_1 : Int) := of_decide_eq_true (by first | (with_reducible assumption) | assumption)
                    have q235 : x5_1 < (l0.length : Int) := of_decide_eq_true (by first | (with_reducible assumption) | assumption)
                    obtain ⟨ad235, A235_7, c235_7, e235, hx235_0, hx235_1, hx235_2, hx235_3, hx235_4, hx235_5, hx235_6, hx235_7, hl235_7, hi235_7⟩ := at_T59 HR0.out x5_1 p235 q235
                    obtain rfl : ad233 = ad235 := (by injection e235)
                    have HR235_7 := Aside0.mk hi235_7
                    have HC235_7 := Aside0.mk hl235_7
                    clear hi235_7 hl235_7
                    replace p235 := eq_true p235
                    replace q235 := eq_true q235
                    have ea_ := Option.some.inj (hx233_7.symm.trans hx235_7)
                    injection ea_ with ea_ en_ ec_
                    subst ea_
                    subst ec_
                    clear en_
                    have p236 : 0 ≤ (x5_1 : Int) := of_decide_eq_true (by first | (with_reducible assumption) | assumption)
                    have q236 : x5_1 < (l0.length : Int) := of_decide_eq_true (by first | (with_reducible assumption) | assumption)
                    obtain ⟨ad236, A236_7, c236_7, e236, hx236_0, hx236_1, hx236_2, hx236_3, hx236_4, hx236_5, hx236_6, hx236_7, hl236_7, hi236_7⟩ := at_T59 HR0.out x5_1 p236 q236
                    obtain rfl : ad233 = ad236 := (by injection e236)
                    have HR236_7 := Aside0.mk hi236_7
                    have HC236_7 := Aside0.mk hl236_7
                    clear hi236_7 hl236_7
                    replace p236 := eq_true p236
                    replace q236 := eq_true q236
                    have ea_ := Option.some.inj (hx233_7.symm.trans hx236_7)
                    injection ea_ with ea_ en_ ec_
                    subst ea_
                    subst ec_
                    clear en_
                    have p237 : 0 ≤ (x5_1 : Int) := of_decide_eq_true (by first | (with_reducible assumption) | assumption)
                    have q237 : x5_1 < (l0.length : Int) := of_decide_eq_true (by first | (with_reducible assumption) | assumption)
                    obtain ⟨ad237, A237_7, c237_7, e237, hx237_0, hx237_1, hx237_2, hx237_3, hx237_4, hx237_5, hx237_6, hx237_7, hl237_7, hi237_7⟩ := at_T59 HR0.out x5_1 p237 q237
                    obtain rfl : ad233 = ad237 := (by injection e237)
                    have HR237_7 := Aside0.mk hi237_7
                    have HC237_7 := Aside0.mk hl237_7
                    clear hi237_7 hl237_7
                    replace p237 := eq_true p237
                    replace q237 := eq_true q237
                    have ea_ := Option.some.inj (hx233_7.symm.trans hx237_7)
                    injection ea_ with ea_ en_ ec_
                    subst ea_
                    subst ec_
                    clear en_
                    go_wp2
                    go_ret
                    exact ⟨by first | rfl | (simp; done) | (simp [*]; done), by repeat (first | exact Drawn0.refl _ | apply Drawn0.step)⟩
                · rw [if_neg c8] at H
                  have c8b0 : (((rd_T59 l0 x5_1).f2.f1) == (wrap64 ((wrap64 ((wrap64 (x1_1 + 1)) + 1)) + 1))) = false := beq_eq_false_iff_ne.mpr c8
                  have c8b1 : (((rd_T59 l0 x5_1).f2.f1) != (wrap64 ((wrap64 ((wrap64 (x1_1 + 1)) + 1)) + 1))) = true := bne_iff_ne.mpr c8
                  obtain rfl := Option.some.inj H
                  have p233 : 0 ≤ (x5_1 : Int) := of_decide_eq_true (by first | (with_reducible assumption) | assumption)
                  have q233 : x5_1 < (l0.length : Int) := of_decide_eq_true (by first | (with_reducible assumption) | assumption)
                  obtain ⟨ad233, A233_7, c233_7, e233, hx233_0, hx233_1, hx233_2, hx233_3, hx233_4, hx233_5, hx233_6, hx233_7, hl233_7, hi233_7⟩ := at_T59 HR0.out x5_1 p233 q233
                  cases e233
                  have HR233_7 := Aside0.mk hi233_7
                  have HC233_7 := Aside0.mk hl233_7
                  clear hi233_7 hl233_7
                  replace p233 := eq_true p233
                  replace q233 := eq_true q233
                  have p234 : 0 ≤ (x5_1 : Int) := of_decide_eq_true (by first | (with_reducible assumption) | assumption)
                  have q234 : x5_1 < (l0.length : Int) := of_decide_eq_true (by first | (with_reducible assumption) | assumption)
                  obtain ⟨ad234, A234_7, c234_7, e234, hx234_0, hx234_1, hx234_2, hx234_3, hx234_4, hx234_5, hx234_6, hx234_7, hl234_7, hi234_7⟩ := at_T59 HR0.out x5_1 p234 q234
                  obtain rfl : ad233 = ad234 := (by injection e234)
                  have HR234_7 := Aside0.mk hi234_7
                  have HC234_7 := Aside0.mk hl234_7
                  clear hi234_7 hl234_7
                  replace p234 := eq_true p234
                  replace q234 := eq_true q234
                  have ea_ := Option.some.inj (hx233_7.symm.trans hx234_7)
                  injection ea_ with ea_ en_ ec_
                  subst ea_
                  subst ec_
                  clear en_
                  have p235 : 0 ≤ (x5_1 : Int) := of_decide_eq_true (by first | (with_reducible assumption) | assumption)
                  have q235 : x5_1 < (l0.length : Int) := of_decide_eq_true (by first | (with_reducible assumption) | assumption)
                  obtain ⟨ad235, A235_7, c235_7, e235, hx235_0, hx235_1, hx235_2, hx235_3, hx235_4, hx235_5, hx235_6, hx235_7, hl235_7, hi235_7⟩ := at_T59 HR0.out x5_1 p235 q235
                  obtain rfl : ad233 = ad235 := (by injection e235)
                  have HR235_7 := Aside0.mk hi235_7
                  have HC235_7 := Aside0.mk hl235_7
                  clear hi235_7 hl235_7
                  replace p235 := eq_true p235
                  replace q235 := eq_true q235
                  have ea_ := Option.some.inj (hx233_7.symm.trans hx235_7)
                  injection ea_ with ea_ en_ ec_
                  subst ea_
                  subst ec_
                  clear en_
                  have p236 : 0 ≤ (x5_1 : Int) := of_decide_eq_true (by first | (with_reducible assumption) | assumption)
                  have q236 : x5_1 < (l0.length : Int) := of_decide_eq_true (by first | (with_reducible assumption) | assumption)
                  obtain ⟨ad236, A236_7, c236_7, e236, hx236_0, hx236_1, hx236_2, hx236_3, hx236_4, hx236_5, hx236_6, hx236_7, hl236_7, hi236_7⟩ := at_T59 HR0.out x5_1 p236 q236
                  obtain rfl : ad233 = ad236 := (by injection e236)
                  have HR236_7 := Aside0.mk hi236_7
                  have HC236_7 := Aside0.mk hl236_7
                  clear hi236_7 hl236_7
                  replace p236 := eq_true p236
                  replace q236 := eq_true q236
                  have ea_ := Option.some.inj (hx233_7.symm.trans hx236_7)
                  injection ea_ with ea_ en_ ec_
                  subst ea_
                  subst ec_
                  clear en_
                  go_wp2
                  go_ret
                  exact ⟨by first | rfl | (simp; done) | (simp [*]; done), by repeat (first | exact Drawn0.refl _ | apply Drawn0.step)⟩
            · rw [if_neg c6] at H
              have c6b0 : (((rd_T59 l0 x5_1).f1) == (wrap64 (x1_1 + 1))) = false := beq_eq_false_iff_ne.mpr c6
              have c6b1 : (((rd_T59 l0 x5_1).f1) != (wrap64 (x1_1 + 1))) = true := bne_iff_ne.mpr c6
              obtain rfl := Option.some.inj H
              have p233 : 0 ≤ (x5_1 : Int) := of_decide_eq_true (by first | (with_reducible assumption) | assumption)
              have q233 : x5_1 < (l0.length : Int) := of_decide_eq_true (by first | (with_reducible assumption) | assumption)
              obtain ⟨ad233, A233_7, c233_7, e233, hx233_0, hx233_1, hx233_2, hx233_3, hx233_4, hx233_5, hx233_6, hx233_7, hl233_7, hi233_7⟩ := at_T59 HR0.out x5_1 p233 q233
              cases e233
              have HR233_7 := Aside0.mk hi233_7
              have HC233_7 := Aside0.mk hl233_7
              clear hi233_7 hl233_7
              replace p233 := eq_true p233
              replace q233 := eq_true q233
              have p234 : 0 ≤ (x5_1 : Int) := of_decide_eq_true (by first | (with_reducible assumption) | assumption)
              have q234 : x5_1 < (l0.length : Int) := of_decide_eq_true (by first | (with_reducible assumption) | assumption)
              obtain ⟨ad234, A234_7, c234_7, e234, hx234_0, hx234_1, hx234_2, hx234_3, hx234_4, hx234_5, hx234_6, hx234_7, hl234_7, hi234_7⟩ := at_T59 HR0.out x5_1 p234 q234
              obtain rfl : ad233 = ad234 := (by injection e234)
              have HR234_7 := Aside0.mk hi234_7
              have HC234_7 := Aside0.mk hl234_7
              clear hi234_7 hl234_7
              replace p234 := eq_true p234
              replace q234 := eq_true q234
              have ea_ := Option.some.inj (hx233_7.symm.trans hx234_7)
              injection ea_ with ea_ en_ ec_
              subst ea_
              subst ec_
              clear en_
              go_wp2
              go_ret
              exact ⟨by first | rfl | (simp; done) | (simp [*]; done), by repeat (first | exact Drawn0.refl _ | apply Drawn0.step)⟩
          · rw [if_neg c5] at H
            have c5b0 : (((rd_T59 l0 x5_1).f0) == x1_1) = false := beq_eq_false_iff_ne.mpr c5
            have c5b1 : (((rd_T59 l0 x5_1).f0) != x1_1) = true := bne_iff_ne.mpr c5
            obtain rfl := Option.some.inj H
            have p233 : 0 ≤ (x5_1 : Int) := of_decide_eq_true (by first | (with_reducible assumption) | assumption)
            have q233 : x5_1 < (l0.length : Int) := of_decide_eq_true (by first | (with_reducible assumption) | assumption)
            obtain ⟨ad233, A233_7, c233_7, e233, hx233_0, hx233_1, hx233_2, hx233_3, hx233_4, hx233_5, hx233_6, hx233_7, hl233_7, hi233_7⟩ := at_T59 HR0.out x5_1 p233 q233
            cases e233
            have HR233_7 := Aside0.mk hi233_7
            have HC233_7 := Aside0.mk hl233_7
            clear hi233_7 hl233_7
            replace p233 := eq_true p233
            replace q233 := eq_true q233
            go_wp2
            go_ret
            exact ⟨by first | rfl | (simp; done) | (simp [*]; done), by repeat (first | exact Drawn0.refl _ | apply Drawn0.step)⟩
        · rw [if_neg c4] at H
          exact absurd H (by simp)
      · rw [if_neg c3] at H
        have c3b0 : decide (x5_1 < (l0.length : Int)) = false := decide_eq_false c3
        clear c3
        obtain rfl := Option.some.inj H
        go_wp2
        go_ret
        exact ⟨by first | rfl | (simp; done) | (simp [*]; done), by repeat (first | exact Drawn0.refl _ | apply Drawn0.step)⟩

-- NOT PRINTED: function 5 (laws_FnExactPostsAt)

end Go.Proofs.Ytkolojgkpmbbbaa.MFnExactPostsAt
