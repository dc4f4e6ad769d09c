-- Written for this claim by a program of the session (wip/mk.py) over the kit's print.
import Derived.Test.YthikbgjlcdkoaaaMFnModelsx0
import Derived.Test.YthikbgjlcdkoaaaMFnModelsx6
namespace Go.Proofs.Ythikbgjlcdkoaaa.MFnModels
open Go.RowKit Go.Proofs.YthikbgjlcdkoaaaW.PrintWords Go.Proofs.YthikbgjlcdkoaaaW.PrintLast Go.Proofs.YthikbgjlcdkoaaaW.PrintMore
attribute [local go_sem] max2_int min2_int max_two min_two max_three min_three max_four min_four
set_option linter.unusedVariables false
set_option linter.unusedSimpArgs false
def impl_DevOk.f (k:Nat) (l0_0:List Int) (a0_1:Int) (l0_2:List Int):Option (Bool):=if (l0_0.length:Int) = 4 then (if (l0_2.length:Int) ≤ 4 then ((slices_ContainsFunc_at_impl_DevOk_1.f k l0_0).bind fun t405=>(if t405 = true then (some false) else ((slices_ContainsFunc_at_impl_DevOk_1.f k l0_2).bind fun t406=>(if t406 = true then (some false) else ((impl_isNum.f a0_1 2).bind fun t407=>(some t407)))))) else (some false)) else (some false)
set_option maxHeartbeats 8000000 in
set_option maxRecDepth 100000 in
theorem impl_DevOk.calls (k:Nat) (A0_0:Option Addr) (c0_0:Nat) (l0_0:List Int) (a0_1:Int) (A0_2:Option Addr) (c0_2:Nat) (l0_2:List Int) (r:Bool) (w:World) (hr0_0:Kd.C (Kd.int .i64) w A0_0 l0_0.length l0_0) (hc0_0:l0_0.length ≤ c0_0) (hr0_2:Kd.C (Kd.int .i64) w A0_2 l0_2.length l0_2) (hc0_2:l0_2.length ≤ c0_2) (h:impl_DevOk.f k l0_0 a0_1 l0_2 = some r) :
  Calls Try.prog 37 #[.agg #[.slice A0_0 l0_0.length c0_0,.int .i64 a0_1,.slice A0_2 l0_2.length c0_2]] w fun e w'=>e = .returned (.bool r) ∧ Below w.heap.size w w':=by
 have hu26:=Try.underlying26
 have HR0_0:=Aside0.mk hr0_0
 have HC0_0:=Aside0.mk hc0_0
 clear hr0_0 hc0_0
 have HR0_2:=Aside0.mk hr0_2
 have HC0_2:=Aside0.mk hc0_2
 clear hr0_2 hc0_2
 have HB:=Az (Below.refl w.heap.size w)
 have H:(if (l0_0.length:Int) = 4 then (if (l0_2.length:Int) ≤ 4 then ((slices_ContainsFunc_at_impl_DevOk_1.f k l0_0).bind fun t405=>(if t405 = true then (some false) else ((slices_ContainsFunc_at_impl_DevOk_1.f k l0_2).bind fun t406=>(if t406 = true then (some false) else ((impl_isNum.f a0_1 2).bind fun t407=>(some t407)))))) else (some false)) else (some false)) = some r:=h
 clear h
 by_cases c2:(l0_0.length:Int) = 4
 ·rw [if_pos c2] at H
  have c2b0:((l0_0.length:Int) == 4) = true:=beq_iff_eq.mpr c2
  have c2b1:((l0_0.length:Int) != 4) = false:=bne_eq_false_iff_eq.mpr c2
  clear c2
  by_cases c3:(l0_2.length:Int) ≤ 4
  ·rw [if_pos c3] at H
   have c3b0:decide ((l0_2.length:Int) ≤ 4) = true:=decide_eq_true c3
   have c3b1:decide (l0_2.length ≤ 4) = true:=decide_eq_true (by omega)
   clear c3
   replace H:=Option.bind_eq_some_iff.mp H
   obtain ⟨t405,A40,H⟩:=H
   replace H:(if t405 = true then (some false) else ((slices_ContainsFunc_at_impl_DevOk_1.f k l0_2).bind fun t406=>(if t406 = true then (some false) else ((impl_isNum.f a0_1 2).bind fun t407=>(some t407))))) = some r:=H
   have A4:=Aside0.mk A40
   clear A40
   by_cases c5:t405 = true
   ·subst c5
    have H1:(some false) = some r:=by rw [if_pos rfl] at H;exact H
    clear H
    have H:=H1
    clear H1
    obtain rfl:=Option.some.inj H
    go_enter Try.func37,Try.ntmps37
    go_wp2_with (first | ((with_reducible refine gate_dst (N:=1) rfl ?_);(try (refine gate_guard (by rfl) ?_;dsimp only));refine box_event ?hg (N:=1) ?hd (cs:=#[.slice A0_0 l0_0.length c0_0,.int .i64 a0_1,.slice A0_2 l0_2.length c0_2]) (t:=26) ?hr ?_;(case hd=>rfl);(case hg=>rfl);(case hr=>first | (go_simp;done) | (go_simp;rfl));intro gb404 hg w6 hbox hb;have n0_:=Az (below_step (mb HB) hb);have n1_:=Az (hbox);have n2_:=Az ((by rw [hg];exact (below_size (mb HB)):w.heap.size ≤ gb404));have n3_:=Az ((by rw [hg];exact (below_size (mb HB)):w.heap.size ≤ gb404));clear HB;have HB:=n0_;have BK404:=n1_;have GW404:=n2_;have GE404:=n3_;clear n0_ n1_ n2_ n3_ hb hbox hg;have hcz7_0:=bz0 BK404;have hcz7_1:=bz1 BK404;have hcz7_2:=bz2 BK404;have hfz7_0:=bf BK404 0;have hfz7_1:=bf BK404 1;have hfz7_2:=bf BK404 2) | (go_at_call 72;(with_reducible refine (slices_ContainsFunc_at_impl_DevOk_1.calls k _ _ l0_0 true _ ?side1 ?side2 A4.out).mono ?_);(case side1=>exact mc (Kd.C_below HR0_0.out HB.out));(case side2=>exact HC0_0.out);rintro e w' ⟨rfl,⟨nd,rfl⟩⟩))
    go_ret
    exact ⟨by first | rfl | (simp [errW_none,errW_some] <;> rfl) | (simp [*,errW_none,errW_some] <;> rfl),mb HB⟩
   ·replace c5:=Bool.eq_false_iff.mpr c5
    subst c5
    have H1:((slices_ContainsFunc_at_impl_DevOk_1.f k l0_2).bind fun t406=>(if t406 = true then (some false) else ((impl_isNum.f a0_1 2).bind fun t407=>(some t407)))) = some r:=by rw [if_neg (show ¬ (false = true) by decide)] at H;exact H
    clear H
    have H:=H1
    clear H1
    replace H:=Option.bind_eq_some_iff.mp H
    obtain ⟨t406,A80,H⟩:=H
    replace H:(if t406 = true then (some false) else ((impl_isNum.f a0_1 2).bind fun t407=>(some t407))) = some r:=H
    have A8:=Aside0.mk A80
    clear A80
    by_cases c9:t406 = true
    ·subst c9
     have H1:(some false) = some r:=by rw [if_pos rfl] at H;exact H
     clear H
     have H:=H1
     clear H1
     obtain rfl:=Option.some.inj H
     go_enter Try.func37,Try.ntmps37
     go_wp2_with (first | ((with_reducible refine gate_dst (N:=1) rfl ?_);(try (refine gate_guard (by rfl) ?_;dsimp only));refine box_event ?hg (N:=1) ?hd (cs:=#[.slice A0_0 l0_0.length c0_0,.int .i64 a0_1,.slice A0_2 l0_2.length c0_2]) (t:=26) ?hr ?_;(case hd=>rfl);(case hg=>rfl);(case hr=>first | (go_simp;done) | (go_simp;rfl));intro gb404 hg w10 hbox hb;have n0_:=Az (below_step (mb HB) hb);have n1_:=Az (hbox);have n2_:=Az ((by rw [hg];exact (below_size (mb HB)):w.heap.size ≤ gb404));have n3_:=Az ((by rw [hg];exact (below_size (mb HB)):w.heap.size ≤ gb404));clear HB;have HB:=n0_;have BK404:=n1_;have GW404:=n2_;have GE404:=n3_;clear n0_ n1_ n2_ n3_ hb hbox hg;have hcz11_0:=bz0 BK404;have hcz11_1:=bz1 BK404;have hcz11_2:=bz2 BK404;have hfz11_0:=bf BK404 0;have hfz11_1:=bf BK404 1;have hfz11_2:=bf BK404 2) | (go_at_call 72;(with_reducible refine (slices_ContainsFunc_at_impl_DevOk_1.calls k _ _ l0_0 false _ ?side1 ?side2 A4.out).mono ?_);(case side1=>exact mc (Kd.C_below HR0_0.out HB.out));(case side2=>exact HC0_0.out);rintro e w' ⟨rfl,⟨nd,rfl⟩⟩) | (go_at_call 72;(with_reducible refine (slices_ContainsFunc_at_impl_DevOk_1.calls k _ _ l0_2 true _ ?side1 ?side2 A8.out).mono ?_);(case side1=>repeat (first | exact (Kd.C_below HR0_2.out (mb HB)) | (with_reducible refine Kd.C_alloc ?_ _) | (with_reducible refine Kd.C_drewN ?_ _) | (with_reducible refine Kd.C_drew ?_)));(case side2=>exact HC0_2.out);rintro e w' ⟨rfl,⟨nd,rfl⟩⟩))
     go_ret
     exact ⟨by first | rfl | (simp [errW_none,errW_some] <;> rfl) | (simp [*,errW_none,errW_some] <;> rfl),mb HB⟩
    ·replace c9:=Bool.eq_false_iff.mpr c9
     subst c9
     have H1:((impl_isNum.f a0_1 2).bind fun t407=>(some t407)) = some r:=by rw [if_neg (show ¬ (false = true) by decide)] at H;exact H
     clear H
     have H:=H1
     clear H1
     replace H:=Option.bind_eq_some_iff.mp H
     obtain ⟨t407,A120,H⟩:=H
     replace H:(some t407) = some r:=H
     have A12:=Aside0.mk A120
     clear A120
     obtain rfl:=Option.some.inj H
     go_enter Try.func37,Try.ntmps37
     go_wp2_with (first | ((with_reducible refine gate_dst (N:=1) rfl ?_);(try (refine gate_guard (by rfl) ?_;dsimp only));refine box_event ?hg (N:=1) ?hd (cs:=#[.slice A0_0 l0_0.length c0_0,.int .i64 a0_1,.slice A0_2 l0_2.length c0_2]) (t:=26) ?hr ?_;(case hd=>rfl);(case hg=>rfl);(case hr=>first | (go_simp;done) | (go_simp;rfl));intro gb404 hg w13 hbox hb;have n0_:=Az (below_step (mb HB) hb);have n1_:=Az (hbox);have n2_:=Az ((by rw [hg];exact (below_size (mb HB)):w.heap.size ≤ gb404));have n3_:=Az ((by rw [hg];exact (below_size (mb HB)):w.heap.size ≤ gb404));clear HB;have HB:=n0_;have BK404:=n1_;have GW404:=n2_;have GE404:=n3_;clear n0_ n1_ n2_ n3_ hb hbox hg;have hcz14_0:=bz0 BK404;have hcz14_1:=bz1 BK404;have hcz14_2:=bz2 BK404;have hfz14_0:=bf BK404 0;have hfz14_1:=bf BK404 1;have hfz14_2:=bf BK404 2) | (go_at_call 72;(with_reducible refine (slices_ContainsFunc_at_impl_DevOk_1.calls k _ _ l0_0 false _ ?side1 ?side2 A4.out).mono ?_);(case side1=>exact mc (Kd.C_below HR0_0.out HB.out));(case side2=>exact HC0_0.out);rintro e w' ⟨rfl,⟨nd,rfl⟩⟩) | (go_at_call 72;(with_reducible refine (slices_ContainsFunc_at_impl_DevOk_1.calls k _ _ l0_2 false _ ?side1 ?side2 A8.out).mono ?_);(case side1=>repeat (first | exact (Kd.C_below HR0_2.out (mb HB)) | (with_reducible refine Kd.C_alloc ?_ _) | (with_reducible refine Kd.C_drewN ?_ _) | (with_reducible refine Kd.C_drew ?_)));(case side2=>exact HC0_2.out);rintro e w' ⟨rfl,⟨nd,rfl⟩⟩) | (go_at_call 51;(with_reducible refine (impl_isNum.calls a0_1 2 t407 _ A12.out).mono ?_);rintro e w' ⟨rfl,⟨nd,rfl⟩⟩))
     go_ret
     exact ⟨by first | rfl | (simp [errW_none,errW_some] <;> rfl) | (simp [*,errW_none,errW_some] <;> rfl),mb HB⟩
  ·rw [if_neg c3] at H
   have c3b0:decide ((l0_2.length:Int) ≤ 4) = false:=decide_eq_false c3
   have c3b1:decide (l0_2.length ≤ 4) = false:=decide_eq_false (by omega)
   clear c3
   obtain rfl:=Option.some.inj H
   go_enter Try.func37,Try.ntmps37
   go_wp2_with (first | ((with_reducible refine gate_dst (N:=1) rfl ?_);(try (refine gate_guard (by rfl) ?_;dsimp only));refine box_event ?hg (N:=1) ?hd (cs:=#[.slice A0_0 l0_0.length c0_0,.int .i64 a0_1,.slice A0_2 l0_2.length c0_2]) (t:=26) ?hr ?_;(case hd=>rfl);(case hg=>rfl);(case hr=>first | (go_simp;done) | (go_simp;rfl));intro gb404 hg w15 hbox hb;have n0_:=Az (below_step (mb HB) hb);have n1_:=Az (hbox);have n2_:=Az ((by rw [hg];exact (below_size (mb HB)):w.heap.size ≤ gb404));have n3_:=Az ((by rw [hg];exact (below_size (mb HB)):w.heap.size ≤ gb404));clear HB;have HB:=n0_;have BK404:=n1_;have GW404:=n2_;have GE404:=n3_;clear n0_ n1_ n2_ n3_ hb hbox hg;have hcz16_0:=bz0 BK404;have hcz16_1:=bz1 BK404;have hcz16_2:=bz2 BK404;have hfz16_0:=bf BK404 0;have hfz16_1:=bf BK404 1;have hfz16_2:=bf BK404 2))
   go_ret
   exact ⟨by first | rfl | (simp [errW_none,errW_some] <;> rfl) | (simp [*,errW_none,errW_some] <;> rfl),mb HB⟩
 ·rw [if_neg c2] at H
  have c2b0:((l0_0.length:Int) == 4) = false:=beq_eq_false_iff_ne.mpr c2
  have c2b1:((l0_0.length:Int) != 4) = true:=bne_iff_ne.mpr c2
  obtain rfl:=Option.some.inj H
  go_enter Try.func37,Try.ntmps37
  go_wp2_with (first | ((with_reducible refine gate_dst (N:=1) rfl ?_);(try (refine gate_guard (by rfl) ?_;dsimp only));refine box_event ?hg (N:=1) ?hd (cs:=#[.slice A0_0 l0_0.length c0_0,.int .i64 a0_1,.slice A0_2 l0_2.length c0_2]) (t:=26) ?hr ?_;(case hd=>rfl);(case hg=>rfl);(case hr=>first | (go_simp;done) | (go_simp;rfl));intro gb404 hg w17 hbox hb;have n0_:=Az (below_step (mb HB) hb);have n1_:=Az (hbox);have n2_:=Az ((by rw [hg];exact (below_size (mb HB)):w.heap.size ≤ gb404));have n3_:=Az ((by rw [hg];exact (below_size (mb HB)):w.heap.size ≤ gb404));clear HB;have HB:=n0_;have BK404:=n1_;have GW404:=n2_;have GE404:=n3_;clear n0_ n1_ n2_ n3_ hb hbox hg;have hcz18_0:=bz0 BK404;have hcz18_1:=bz1 BK404;have hcz18_2:=bz2 BK404;have hfz18_0:=bf BK404 0;have hfz18_1:=bf BK404 1;have hfz18_2:=bf BK404 2))
  go_ret
  exact ⟨by first | rfl | (simp [errW_none,errW_some] <;> rfl) | (simp [*,errW_none,errW_some] <;> rfl),mb HB⟩
def impl_Aligned.f (a0:Int) (a1:Int):Option (Bool):=(impl_within.f a1 0 2).bind fun t408=>(if t408 = true then (if a0 ≥ 0 then ((impl_BytesOf.f a1).bind fun t409=>(if t409 = 0 then (none) else (some ((Int.tmod a0 t409) == 0)))) else (some false)) else (some false))
set_option maxHeartbeats 8000000 in
set_option maxRecDepth 100000 in
theorem impl_Aligned.calls (a0:Int) (a1:Int) (r:Bool) (w:World) (h:impl_Aligned.f a0 a1 = some r) :
  Calls Try.prog 50 #[.int .i64 a0,.int .i64 a1] w fun e w'=>e = .returned (.bool r) ∧ Drawn0 w w':=by
 have H:((impl_within.f a1 0 2).bind fun t408=>(if t408 = true then (if a0 ≥ 0 then ((impl_BytesOf.f a1).bind fun t409=>(if t409 = 0 then (none) else (some ((Int.tmod a0 t409) == 0)))) else (some false)) else (some false))) = some r:=h
 clear h
 replace H:=Option.bind_eq_some_iff.mp H
 obtain ⟨t408,A30,H⟩:=H
 replace H:(if t408 = true then (if a0 ≥ 0 then ((impl_BytesOf.f a1).bind fun t409=>(if t409 = 0 then (none) else (some ((Int.tmod a0 t409) == 0)))) else (some false)) else (some false)) = some r:=H
 have A3:=Aside0.mk A30
 clear A30
 by_cases c4:t408 = true
 ·subst c4
  have H1:(if a0 ≥ 0 then ((impl_BytesOf.f a1).bind fun t409=>(if t409 = 0 then (none) else (some ((Int.tmod a0 t409) == 0)))) else (some false)) = some r:=by rw [if_pos rfl] at H;exact H
  clear H
  have H:=H1
  clear H1
  by_cases c5:a0 ≥ 0
  ·rw [if_pos c5] at H
   have c5b0:decide (0 ≤ a0) = true:=decide_eq_true c5
   clear c5
   replace H:=Option.bind_eq_some_iff.mp H
   obtain ⟨t409,A60,H⟩:=H
   replace H:(if t409 = 0 then (none) else (some ((Int.tmod a0 t409) == 0))) = some r:=H
   have A6:=Aside0.mk A60
   clear A60
   by_cases c7:t409 = 0
   ·rw [if_pos c7] at H
    exact absurd H (by simp)
   ·rw [if_neg c7] at H
    have c7b0:(t409 == 0) = false:=beq_eq_false_iff_ne.mpr c7
    have c7b1:(t409 != 0) = true:=bne_iff_ne.mpr c7
    obtain rfl:=Option.some.inj H
    go_enter Try.func50,Try.ntmps50
    go_wp2_with (first | ((with_reducible refine gate_callee (f:=81) rfl ?_);refine goesL_ (some 6) rfl rfl Try.func81 (by kernel_rfl) rfl #[.int .i64 a1,.int .i64 0,.int .i64 2] rfl ml ?_;(with_reducible refine (impl_within.calls a1 0 2 true _ A3.out).mono ?_);rintro e w' ⟨rfl,⟨nd,rfl⟩⟩;refine ⟨_,rfl,?_⟩) | (go_at_call 82;(with_reducible refine (impl_BytesOf.calls a1 t409 _ A6.out).mono ?_);rintro e w' ⟨rfl,⟨nd,rfl⟩⟩))
    go_ret
    exact ⟨by first | rfl | (simp;done) | (simp [*];done),by repeat (first | exact Drawn0.refl _ | apply Drawn0.step)⟩
  ·rw [if_neg c5] at H
   have c5b0:decide (0 ≤ a0) = false:=decide_eq_false c5
   clear c5
   obtain rfl:=Option.some.inj H
   go_enter Try.func50,Try.ntmps50
   go_wp2_with (first | ((with_reducible refine gate_callee (f:=81) rfl ?_);refine goesL_ (some 6) rfl rfl Try.func81 (by kernel_rfl) rfl #[.int .i64 a1,.int .i64 0,.int .i64 2] rfl ml ?_;(with_reducible refine (impl_within.calls a1 0 2 true _ A3.out).mono ?_);rintro e w' ⟨rfl,⟨nd,rfl⟩⟩;refine ⟨_,rfl,?_⟩))
   go_ret
   exact ⟨by first | rfl | (simp;done) | (simp [*];done),by repeat (first | exact Drawn0.refl _ | apply Drawn0.step)⟩
 ·replace c4:=Bool.eq_false_iff.mpr c4
  subst c4
  have H1:(some false) = some r:=by rw [if_neg (show ¬ (false = true) by decide)] at H;exact H
  clear H
  have H:=H1
  clear H1
  obtain rfl:=Option.some.inj H
  go_enter Try.func50,Try.ntmps50
  go_wp2_with (first | ((with_reducible refine gate_callee (f:=81) rfl ?_);refine goesL_ (some 6) rfl rfl Try.func81 (by kernel_rfl) rfl #[.int .i64 a1,.int .i64 0,.int .i64 2] rfl ml ?_;(with_reducible refine (impl_within.calls a1 0 2 false _ A3.out).mono ?_);rintro e w' ⟨rfl,⟨nd,rfl⟩⟩;refine ⟨_,rfl,?_⟩))
  go_ret
  exact ⟨by first | rfl | (simp;done) | (simp [*];done),by repeat (first | exact Drawn0.refl _ | apply Drawn0.step)⟩
def impl_fits_1.f (a0:Int):Option (Bool):=(impl_within.f a0 0 255).bind fun t410=>(some (!t410))
set_option maxHeartbeats 8000000 in
set_option maxRecDepth 100000 in
theorem impl_fits_1.calls (a0:Int) (r:Bool) (w:World) (h:impl_fits_1.f a0 = some r) :
  Calls Try.prog 85 #[.int .i64 a0] w fun e w'=>e = .returned (.bool r) ∧ Drawn0 w w':=by
 have H:((impl_within.f a0 0 255).bind fun t410=>(some (!t410))) = some r:=h
 clear h
 replace H:=Option.bind_eq_some_iff.mp H
 obtain ⟨t410,A20,H⟩:=H
 replace H:(some (!t410)) = some r:=H
 have A2:=Aside0.mk A20
 clear A20
 obtain rfl:=Option.some.inj H
 go_enter Try.func85,Try.ntmps85
 go_wp2_with (first | ((with_reducible refine gate_callee (f:=81) rfl ?_);refine goesL_ (some 4) rfl rfl Try.func81 (by kernel_rfl) rfl #[.int .i64 a0,.int .i64 0,.int .i64 255] rfl ml ?_;(with_reducible refine (impl_within.calls a0 0 255 t410 _ A2.out).mono ?_);rintro e w' ⟨rfl,⟨nd,rfl⟩⟩;refine ⟨_,rfl,?_⟩))
 go_ret
 exact ⟨by first | rfl | (simp;done) | (simp [*];done),by repeat (first | exact Drawn0.refl _ | apply Drawn0.step)⟩
def slices_IndexFunc_at_impl_fits_1.l0:Nat → List Int → Int → Int → Option (Int)
 | 0,_,_,_=>none
 | k + 1,x0,x7,x8=>if x8 < x7 then (if 0 ≤ x8 then (if x8 < (x0.length:Int) then ((impl_fits_1.f (rd x0 x8)).bind fun t412=>(if t412 = true then (some x8) else (slices_IndexFunc_at_impl_fits_1.l0 k x0 x7 (wrap64 (x8 + 1))))) else (none)) else (none)) else (some (-1))
def slices_IndexFunc_at_impl_fits_1.f (k:Nat) (l0:List Int):Option (Int):=slices_IndexFunc_at_impl_fits_1.l0 k l0 (l0.length:Int) 0
set_option maxHeartbeats 8000000 in
set_option maxRecDepth 100000 in
theorem slices_IndexFunc_at_impl_fits_1.calls (k:Nat) (A0:Option Addr) (c0:Nat) (l0:List Int) (r:Int) (w:World) (hr0:Kd.C (Kd.int .i64) w A0 l0.length l0) (hc0:l0.length ≤ c0) (h:slices_IndexFunc_at_impl_fits_1.f k l0 = some r) :
  Calls Try.prog 86 #[.slice A0 l0.length c0,.func (.func 85) #[] #[]] w fun e w'=>e = .returned (.int .i64 r) ∧ Drawn0 w w':=by
 have HR0:=Aside0.mk hr0
 have HC0:=Aside0.mk hc0
 clear hr0 hc0
 have H:(slices_IndexFunc_at_impl_fits_1.l0 k l0 (l0.length:Int) 0) = some r:=h
 clear h
 have H':=Aside0.mk H
 clear H
 go_enter Try.func86,Try.ntmps86
 go_wp2
 go_loopg [8] k (fun kq v8 w'=>∃ (x8_1:Int),v8 = .int .i64 x8_1 ∧ Aside0 (slices_IndexFunc_at_impl_fits_1.l0 kq l0 (l0.length:Int) x8_1 = some r) ∧ Aside0 (kq ≤ k) ∧ Drawn0 w w')
 case atStart=>exact ⟨(0),(by first | rfl | (simp;done) | (simp [*];done)),H',⟨Nat.le_refl _⟩,by repeat (first | exact Drawn0.refl _ | apply Drawn0.step)⟩
 case round =>
  clear H'
  obtain ⟨x8_1,rfl,HA,HK1,⟨m1,rfl⟩⟩:=hrel
  cases gk with
  | zero=>exact absurd HA.out (by simp [slices_IndexFunc_at_impl_fits_1.l0])
  | succ k1 =>
   have H:=HA.out
   clear HA
   simp only [slices_IndexFunc_at_impl_fits_1.l0] at H
   by_cases c2:x8_1 < (l0.length:Int)
   ·rw [if_pos c2] at H
    have c2b0:decide (x8_1 < (l0.length:Int)) = true:=decide_eq_true c2
    clear c2
    by_cases c3:0 ≤ x8_1
    ·rw [if_pos c3] at H
     have c3b0:decide (0 ≤ x8_1) = true:=decide_eq_true c3
     clear c3
     by_cases c4:x8_1 < (l0.length:Int)
     ·rw [if_pos c4] at H
      have c4b0:decide (x8_1 < (l0.length:Int)) = true:=decide_eq_true c4
      clear c4
      replace H:=Option.bind_eq_some_iff.mp H
      obtain ⟨t412,A50,H⟩:=H
      replace H:(if t412 = true then (some x8_1) else (slices_IndexFunc_at_impl_fits_1.l0 k1 l0 (l0.length:Int) (wrap64 (x8_1 + 1)))) = some r:=H
      have A5:=Aside0.mk A50
      clear A50
      by_cases c6:t412 = true
      ·subst c6
       have H1:(some x8_1) = some r:=by rw [if_pos rfl] at H;exact H
       clear H
       have H:=H1
       clear H1
       obtain rfl:=Option.some.inj H
       have p411:0 ≤ (x8_1:Int):=of_decide_eq_true (by first | (with_reducible assumption) | assumption)
       have q411:x8_1 < (l0.length:Int):=of_decide_eq_true (by first | (with_reducible assumption) | assumption)
       obtain ⟨ad411,e411,hx411_0⟩:=Kd.at_int HR0.out x8_1 p411 q411
       cases e411
       replace p411:=eq_true p411
       replace q411:=eq_true q411
       go_wp2_with fail
       refine (impl_fits_1.calls (rd l0 x8_1) true _ A5.out).mono ?_
       rintro e w' ⟨rfl,⟨nd,rfl⟩⟩
       go_wp2
       go_ret
       exact ⟨by first | rfl | (simp;done) | (simp [*];done),by repeat (first | exact Drawn0.refl _ | apply Drawn0.step)⟩
      ·replace c6:=Bool.eq_false_iff.mpr c6
       subst c6
       have H1:(slices_IndexFunc_at_impl_fits_1.l0 k1 l0 (l0.length:Int) (wrap64 (x8_1 + 1))) = some r:=by rw [if_neg (show ¬ (false = true) by decide)] at H;exact H
       clear H
       have H:=H1
       clear H1
       have H':=Aside0.mk H
       clear H
       have p411:0 ≤ (x8_1:Int):=of_decide_eq_true (by first | (with_reducible assumption) | assumption)
       have q411:x8_1 < (l0.length:Int):=of_decide_eq_true (by first | (with_reducible assumption) | assumption)
       obtain ⟨ad411,e411,hx411_0⟩:=Kd.at_int HR0.out x8_1 p411 q411
       cases e411
       replace p411:=eq_true p411
       replace q411:=eq_true q411
       go_wp2_with fail
       refine (impl_fits_1.calls (rd l0 x8_1) false _ A5.out).mono ?_
       rintro e w' ⟨rfl,⟨nd,rfl⟩⟩
       go_wp2
       go_roundg k1
       case measure=>have:=HK1.out;omega
       case rel=>exact ⟨(wrap64 (x8_1 + 1)),(by first | rfl | (simp;done) | (simp [*];done)),H',⟨by have:=HK1.out;omega⟩,by repeat (first | exact Drawn0.refl _ | apply Drawn0.step)⟩
     ·rw [if_neg c4] at H
      exact absurd H (by simp)
    ·rw [if_neg c3] at H
     exact absurd H (by simp)
   ·rw [if_neg c2] at H
    have c2b0:decide (x8_1 < (l0.length:Int)) = false:=decide_eq_false c2
    clear c2
    obtain rfl:=Option.some.inj H
    go_wp2
    go_ret
    exact ⟨by first | rfl | (simp;done) | (simp [*];done),by repeat (first | exact Drawn0.refl _ | apply Drawn0.step)⟩
def slices_ContainsFunc_at_impl_fits_1.f (k:Nat) (l0:List Int):Option (Bool):=(slices_IndexFunc_at_impl_fits_1.f k l0).bind fun t413=>(some (decide (t413 ≥ 0)))
set_option maxHeartbeats 8000000 in
set_option maxRecDepth 100000 in
theorem slices_ContainsFunc_at_impl_fits_1.calls (k:Nat) (A0:Option Addr) (c0:Nat) (l0:List Int) (r:Bool) (w:World) (hr0:Kd.C (Kd.int .i64) w A0 l0.length l0) (hc0:l0.length ≤ c0) (h:slices_ContainsFunc_at_impl_fits_1.f k l0 = some r) :
  Calls Try.prog 72 #[.slice A0 l0.length c0,.func (.func 85) #[] #[]] w fun e w'=>e = .returned (.bool r) ∧ Drawn0 w w':=by
 have HR0:=Aside0.mk hr0
 have HC0:=Aside0.mk hc0
 clear hr0 hc0
 have H:((slices_IndexFunc_at_impl_fits_1.f k l0).bind fun t413=>(some (decide (t413 ≥ 0)))) = some r:=h
 clear h
 replace H:=Option.bind_eq_some_iff.mp H
 obtain ⟨t413,A20,H⟩:=H
 replace H:(some (decide (t413 ≥ 0))) = some r:=H
 have A2:=Aside0.mk A20
 clear A20
 obtain rfl:=Option.some.inj H
 go_enter Try.func72,Try.ntmps72
 go_wp2_with (first | ((with_reducible refine gate_callee (f:=86) rfl ?_);refine goesL_ (some 7) rfl rfl Try.func86 (by kernel_rfl) rfl #[.slice A0 l0.length c0,.func (.func 85) #[] #[]] rfl ml ?_;(with_reducible refine (slices_IndexFunc_at_impl_fits_1.calls k _ _ l0 t413 _ ?side1 ?side2 A2.out).mono ?_);(case side1=>repeat (first | exact HR0.out | (with_reducible refine Kd.C_alloc ?_ _) | (with_reducible refine Kd.C_drewN ?_ _) | (with_reducible refine Kd.C_drew ?_)));(case side2=>exact HC0.out);rintro e w' ⟨rfl,⟨nd,rfl⟩⟩;refine ⟨_,rfl,?_⟩))
 go_ret
 exact ⟨by first | rfl | (simp;done) | (simp [*];done),by repeat (first | exact Drawn0.refl _ | apply Drawn0.step)⟩
def impl_fits.f (k:Nat) (l0:List Int) (a1:Int) (a2:Int):Option (Bool):=if (l0.length:Int) ≤ 512 then ((slices_ContainsFunc_at_impl_fits_1.f k l0).bind fun t414=>(if t414 = true then (some false) else ((impl_Aligned.f a1 a2).bind fun t415=>(if t415 = true then ((impl_BytesOf.f a2).bind fun t416=>(some (decide (a1 ≤ (wrap64 ((l0.length:Int) - t416)))))) else (some false))))) else (some false)
set_option maxHeartbeats 8000000 in
set_option maxRecDepth 100000 in
theorem impl_fits.calls (k:Nat) (A0:Option Addr) (c0:Nat) (l0:List Int) (a1:Int) (a2:Int) (r:Bool) (w:World) (hr0:Kd.C (Kd.int .i64) w A0 l0.length l0) (hc0:l0.length ≤ c0) (h:impl_fits.f k l0 a1 a2 = some r) :
  Calls Try.prog 63 #[.slice A0 l0.length c0,.int .i64 a1,.int .i64 a2] w fun e w'=>e = .returned (.bool r) ∧ Drawn0 w w':=by
 have HR0:=Aside0.mk hr0
 have HC0:=Aside0.mk hc0
 clear hr0 hc0
 have H:(if (l0.length:Int) ≤ 512 then ((slices_ContainsFunc_at_impl_fits_1.f k l0).bind fun t414=>(if t414 = true then (some false) else ((impl_Aligned.f a1 a2).bind fun t415=>(if t415 = true then ((impl_BytesOf.f a2).bind fun t416=>(some (decide (a1 ≤ (wrap64 ((l0.length:Int) - t416)))))) else (some false))))) else (some false)) = some r:=h
 clear h
 by_cases c4:(l0.length:Int) ≤ 512
 ·rw [if_pos c4] at H
  have c4b0:decide ((l0.length:Int) ≤ 512) = true:=decide_eq_true c4
  have c4b1:decide (l0.length ≤ 512) = true:=decide_eq_true (by omega)
  clear c4
  replace H:=Option.bind_eq_some_iff.mp H
  obtain ⟨t414,A50,H⟩:=H
  replace H:(if t414 = true then (some false) else ((impl_Aligned.f a1 a2).bind fun t415=>(if t415 = true then ((impl_BytesOf.f a2).bind fun t416=>(some (decide (a1 ≤ (wrap64 ((l0.length:Int) - t416)))))) else (some false)))) = some r:=H
  have A5:=Aside0.mk A50
  clear A50
  by_cases c6:t414 = true
  ·subst c6
   have H1:(some false) = some r:=by rw [if_pos rfl] at H;exact H
   clear H
   have H:=H1
   clear H1
   obtain rfl:=Option.some.inj H
   go_enter Try.func63,Try.ntmps63
   go_wp2_with (first | (go_at_call 72;(with_reducible refine (slices_ContainsFunc_at_impl_fits_1.calls k _ _ l0 true _ ?side1 ?side2 A5.out).mono ?_);(case side1=>repeat (first | exact HR0.out | (with_reducible refine Kd.C_alloc ?_ _) | (with_reducible refine Kd.C_drewN ?_ _) | (with_reducible refine Kd.C_drew ?_)));(case side2=>exact HC0.out);rintro e w' ⟨rfl,⟨nd,rfl⟩⟩))
   go_ret
   exact ⟨by first | rfl | (simp;done) | (simp [*];done),by repeat (first | exact Drawn0.refl _ | apply Drawn0.step)⟩
  ·replace c6:=Bool.eq_false_iff.mpr c6
   subst c6
   have H1:((impl_Aligned.f a1 a2).bind fun t415=>(if t415 = true then ((impl_BytesOf.f a2).bind fun t416=>(some (decide (a1 ≤ (wrap64 ((l0.length:Int) - t416)))))) else (some false))) = some r:=by rw [if_neg (show ¬ (false = true) by decide)] at H;exact H
   clear H
   have H:=H1
   clear H1
   replace H:=Option.bind_eq_some_iff.mp H
   obtain ⟨t415,A70,H⟩:=H
   replace H:(if t415 = true then ((impl_BytesOf.f a2).bind fun t416=>(some (decide (a1 ≤ (wrap64 ((l0.length:Int) - t416)))))) else (some false)) = some r:=H
   have A7:=Aside0.mk A70
   clear A70
   by_cases c8:t415 = true
   ·subst c8
    have H1:((impl_BytesOf.f a2).bind fun t416=>(some (decide (a1 ≤ (wrap64 ((l0.length:Int) - t416)))))) = some r:=by rw [if_pos rfl] at H;exact H
    clear H
    have H:=H1
    clear H1
    replace H:=Option.bind_eq_some_iff.mp H
    obtain ⟨t416,A90,H⟩:=H
    replace H:(some (decide (a1 ≤ (wrap64 ((l0.length:Int) - t416))))) = some r:=H
    have A9:=Aside0.mk A90
    clear A90
    obtain rfl:=Option.some.inj H
    go_enter Try.func63,Try.ntmps63
    go_wp2_with (first | (go_at_call 72;(with_reducible refine (slices_ContainsFunc_at_impl_fits_1.calls k _ _ l0 false _ ?side1 ?side2 A5.out).mono ?_);(case side1=>repeat (first | exact HR0.out | (with_reducible refine Kd.C_alloc ?_ _) | (with_reducible refine Kd.C_drewN ?_ _) | (with_reducible refine Kd.C_drew ?_)));(case side2=>exact HC0.out);rintro e w' ⟨rfl,⟨nd,rfl⟩⟩) | (go_at_call 50;(with_reducible refine (impl_Aligned.calls a1 a2 true _ A7.out).mono ?_);rintro e w' ⟨rfl,⟨nd,rfl⟩⟩) | (go_at_call 82;(with_reducible refine (impl_BytesOf.calls a2 t416 _ A9.out).mono ?_);rintro e w' ⟨rfl,⟨nd,rfl⟩⟩))
    go_ret
    exact ⟨by first | rfl | (simp;done) | (simp [*];done),by repeat (first | exact Drawn0.refl _ | apply Drawn0.step)⟩
   ·replace c8:=Bool.eq_false_iff.mpr c8
    subst c8
    have H1:(some false) = some r:=by rw [if_neg (show ¬ (false = true) by decide)] at H;exact H
    clear H
    have H:=H1
    clear H1
    obtain rfl:=Option.some.inj H
    go_enter Try.func63,Try.ntmps63
    go_wp2_with (first | (go_at_call 72;(with_reducible refine (slices_ContainsFunc_at_impl_fits_1.calls k _ _ l0 false _ ?side1 ?side2 A5.out).mono ?_);(case side1=>repeat (first | exact HR0.out | (with_reducible refine Kd.C_alloc ?_ _) | (with_reducible refine Kd.C_drewN ?_ _) | (with_reducible refine Kd.C_drew ?_)));(case side2=>exact HC0.out);rintro e w' ⟨rfl,⟨nd,rfl⟩⟩) | (go_at_call 50;(with_reducible refine (impl_Aligned.calls a1 a2 false _ A7.out).mono ?_);rintro e w' ⟨rfl,⟨nd,rfl⟩⟩))
    go_ret
    exact ⟨by first | rfl | (simp;done) | (simp [*];done),by repeat (first | exact Drawn0.refl _ | apply Drawn0.step)⟩
 ·rw [if_neg c4] at H
  have c4b0:decide ((l0.length:Int) ≤ 512) = false:=decide_eq_false c4
  have c4b1:decide (l0.length ≤ 512) = false:=decide_eq_false (by omega)
  clear c4
  obtain rfl:=Option.some.inj H
  go_enter Try.func63,Try.ntmps63
  go_wp2
  go_ret
  exact ⟨by first | rfl | (simp;done) | (simp [*];done),by repeat (first | exact Drawn0.refl _ | apply Drawn0.step)⟩
def impl_ModelOk.f (k:Nat) (l0_0:List Int) (l0_1:List Int) (a0_2:Int) (l0_3:List Int):Option (Bool):=if (l0_0.length:Int) = 192 then ((impl_fits.f k l0_0 0 0).bind fun t418=>(if t418 = true then ((impl_DevOk.f k l0_1 a0_2 l0_3).bind fun t419=>(some t419)) else (some false))) else (some false)
set_option maxHeartbeats 8000000 in
set_option maxRecDepth 100000 in
theorem impl_ModelOk.calls (k:Nat) (A0_0:Option Addr) (c0_0:Nat) (l0_0:List Int) (A0_1:Option Addr) (c0_1:Nat) (l0_1:List Int) (a0_2:Int) (A0_3:Option Addr) (c0_3:Nat) (l0_3:List Int) (r:Bool) (w:World) (hr0_0:Kd.C (Kd.int .i64) w A0_0 l0_0.length l0_0) (hc0_0:l0_0.length ≤ c0_0) (hr0_1:Kd.C (Kd.int .i64) w A0_1 l0_1.length l0_1) (hc0_1:l0_1.length ≤ c0_1) (hr0_3:Kd.C (Kd.int .i64) w A0_3 l0_3.length l0_3) (hc0_3:l0_3.length ≤ c0_3) (h:impl_ModelOk.f k l0_0 l0_1 a0_2 l0_3 = some r) :
  Calls Try.prog 18 #[.agg #[.slice A0_0 l0_0.length c0_0,.slice A0_1 l0_1.length c0_1,.int .i64 a0_2,.slice A0_3 l0_3.length c0_3]] w fun e w'=>e = .returned (.bool r) ∧ Below w.heap.size w w':=by
 have hu28:=Try.underlying28
 have hu26:=Try.underlying26
 have HR0_0:=Aside0.mk hr0_0
 have HC0_0:=Aside0.mk hc0_0
 clear hr0_0 hc0_0
 have HR0_1:=Aside0.mk hr0_1
 have HC0_1:=Aside0.mk hc0_1
 clear hr0_1 hc0_1
 have HR0_3:=Aside0.mk hr0_3
 have HC0_3:=Aside0.mk hc0_3
 clear hr0_3 hc0_3
 have HB:=Az (Below.refl w.heap.size w)
 have H:(if (l0_0.length:Int) = 192 then ((impl_fits.f k l0_0 0 0).bind fun t418=>(if t418 = true then ((impl_DevOk.f k l0_1 a0_2 l0_3).bind fun t419=>(some t419)) else (some false))) else (some false)) = some r:=h
 clear h
 by_cases c2:(l0_0.length:Int) = 192
 ·rw [if_pos c2] at H
  have c2b0:((l0_0.length:Int) == 192) = true:=beq_iff_eq.mpr c2
  have c2b1:((l0_0.length:Int) != 192) = false:=bne_eq_false_iff_eq.mpr c2
  clear c2
  replace H:=Option.bind_eq_some_iff.mp H
  obtain ⟨t418,A30,H⟩:=H
  replace H:(if t418 = true then ((impl_DevOk.f k l0_1 a0_2 l0_3).bind fun t419=>(some t419)) else (some false)) = some r:=H
  have A3:=Aside0.mk A30
  clear A30
  by_cases c4:t418 = true
  ·subst c4
   have H1:((impl_DevOk.f k l0_1 a0_2 l0_3).bind fun t419=>(some t419)) = some r:=by rw [if_pos rfl] at H;exact H
   clear H
   have H:=H1
   clear H1
   replace H:=Option.bind_eq_some_iff.mp H
   obtain ⟨t419,A50,H⟩:=H
   replace H:(some t419) = some r:=H
   have A5:=Aside0.mk A50
   clear A50
   obtain rfl:=Option.some.inj H
   go_enter Try.func18,Try.ntmps18
   go_wp2_with (first | ((with_reducible refine gate_dst (N:=1) rfl ?_);refine box_event ?hg (N:=1) ?hd (cs:=#[.slice A0_0 l0_0.length c0_0,.slice A0_1 l0_1.length c0_1,.int .i64 a0_2,.slice A0_3 l0_3.length c0_3]) (t:=28) ?hr ?_;(case hd=>rfl);(case hg=>rfl);(case hr=>first | (go_simp;done) | (go_simp;rfl));intro gb417 hg w6 hbox hb;have n0_:=Az (below_step (mb HB) hb);have n1_:=Az (hbox);have n2_:=Az ((by rw [hg];exact (below_size (mb HB)):w.heap.size ≤ gb417));have n3_:=Az ((by rw [hg];exact (below_size (mb HB)):w.heap.size ≤ gb417));clear HB;have HB:=n0_;have BK417:=n1_;have GW417:=n2_;have GE417:=n3_;clear n0_ n1_ n2_ n3_ hb hbox hg;have hcz7_0:=bz0 BK417;have hcz7_1:=bz1 BK417;have hcz7_2:=bz2 BK417;have hcz7_3:=bz3 BK417;have hfz7_0:=bf BK417 0;have hfz7_1:=bf BK417 1;have hfz7_2:=bf BK417 2;have hfz7_3:=bf BK417 3) | (go_at_call 63;(with_reducible refine (impl_fits.calls k _ _ l0_0 0 0 true _ ?side1 ?side2 A3.out).mono ?_);(case side1=>exact mc (Kd.C_below HR0_0.out HB.out));(case side2=>exact HC0_0.out);rintro e w' ⟨rfl,⟨nd,rfl⟩⟩) | (go_at_call 37;(with_reducible refine (impl_DevOk.calls k _ _ l0_1 a0_2 _ _ l0_3 t419 _ ?side1 ?side2 ?side3 ?side4 A5.out).mono ?_);(case side1=>repeat (first | exact (Kd.C_below HR0_1.out (mb HB)) | (with_reducible refine Kd.C_alloc ?_ _) | (with_reducible refine Kd.C_drewN ?_ _) | (with_reducible refine Kd.C_drew ?_)));(case side2=>exact HC0_1.out);(case side3=>repeat (first | exact (Kd.C_below HR0_3.out (mb HB)) | (with_reducible refine Kd.C_alloc ?_ _) | (with_reducible refine Kd.C_drewN ?_ _) | (with_reducible refine Kd.C_drew ?_)));(case side4=>exact HC0_3.out);rintro e w8 ⟨rfl,hb⟩;have n0_:=Az (blk_below (mz BK417) hb);have n1_:=Az (below_step (mb HB) hb);clear BK417 HB;have BK417:=n0_;have HB:=n1_;clear n0_ n1_;(try clear hb);(try clear hb2);(try clear hk);(try clear hi)))
   go_ret
   exact ⟨by first | rfl | (simp [errW_none,errW_some] <;> rfl) | (simp [*,errW_none,errW_some] <;> rfl),mb HB⟩
  ·replace c4:=Bool.eq_false_iff.mpr c4
   subst c4
   have H1:(some false) = some r:=by rw [if_neg (show ¬ (false = true) by decide)] at H;exact H
   clear H
   have H:=H1
   clear H1
   obtain rfl:=Option.some.inj H
   go_enter Try.func18,Try.ntmps18
   go_wp2_with (first | ((with_reducible refine gate_dst (N:=1) rfl ?_);refine box_event ?hg (N:=1) ?hd (cs:=#[.slice A0_0 l0_0.length c0_0,.slice A0_1 l0_1.length c0_1,.int .i64 a0_2,.slice A0_3 l0_3.length c0_3]) (t:=28) ?hr ?_;(case hd=>rfl);(case hg=>rfl);(case hr=>first | (go_simp;done) | (go_simp;rfl));intro gb417 hg w9 hbox hb;have n0_:=Az (below_step (mb HB) hb);have n1_:=Az (hbox);have n2_:=Az ((by rw [hg];exact (below_size (mb HB)):w.heap.size ≤ gb417));have n3_:=Az ((by rw [hg];exact (below_size (mb HB)):w.heap.size ≤ gb417));clear HB;have HB:=n0_;have BK417:=n1_;have GW417:=n2_;have GE417:=n3_;clear n0_ n1_ n2_ n3_ hb hbox hg;have hcz10_0:=bz0 BK417;have hcz10_1:=bz1 BK417;have hcz10_2:=bz2 BK417;have hcz10_3:=bz3 BK417;have hfz10_0:=bf BK417 0;have hfz10_1:=bf BK417 1;have hfz10_2:=bf BK417 2;have hfz10_3:=bf BK417 3) | (go_at_call 63;(with_reducible refine (impl_fits.calls k _ _ l0_0 0 0 false _ ?side1 ?side2 A3.out).mono ?_);(case side1=>exact mc (Kd.C_below HR0_0.out HB.out));(case side2=>exact HC0_0.out);rintro e w' ⟨rfl,⟨nd,rfl⟩⟩))
   go_ret
   exact ⟨by first | rfl | (simp [errW_none,errW_some] <;> rfl) | (simp [*,errW_none,errW_some] <;> rfl),mb HB⟩
 ·rw [if_neg c2] at H
  have c2b0:((l0_0.length:Int) == 192) = false:=beq_eq_false_iff_ne.mpr c2
  have c2b1:((l0_0.length:Int) != 192) = true:=bne_iff_ne.mpr c2
  obtain rfl:=Option.some.inj H
  go_enter Try.func18,Try.ntmps18
  go_wp2_with (first | ((with_reducible refine gate_dst (N:=1) rfl ?_);refine box_event ?hg (N:=1) ?hd (cs:=#[.slice A0_0 l0_0.length c0_0,.slice A0_1 l0_1.length c0_1,.int .i64 a0_2,.slice A0_3 l0_3.length c0_3]) (t:=28) ?hr ?_;(case hd=>rfl);(case hg=>rfl);(case hr=>first | (go_simp;done) | (go_simp;rfl));intro gb417 hg w11 hbox hb;have n0_:=Az (below_step (mb HB) hb);have n1_:=Az (hbox);have n2_:=Az ((by rw [hg];exact (below_size (mb HB)):w.heap.size ≤ gb417));have n3_:=Az ((by rw [hg];exact (below_size (mb HB)):w.heap.size ≤ gb417));clear HB;have HB:=n0_;have BK417:=n1_;have GW417:=n2_;have GE417:=n3_;clear n0_ n1_ n2_ n3_ hb hbox hg;have hcz12_0:=bz0 BK417;have hcz12_1:=bz1 BK417;have hcz12_2:=bz2 BK417;have hcz12_3:=bz3 BK417;have hfz12_0:=bf BK417 0;have hfz12_1:=bf BK417 1;have hfz12_2:=bf BK417 2;have hfz12_3:=bf BK417 3))
  go_ret
  exact ⟨by first | rfl | (simp [errW_none,errW_some] <;> rfl) | (simp [*,errW_none,errW_some] <;> rfl),mb HB⟩
def slices_Clone_int_int.f (l0:List Int):Option (List Int):=(some (([]:List Int):List Int)).bind fun y420=>(if y420.length + l0.length < 17592186044416 then (some (y420 ++ l0)) else (none))
set_option maxHeartbeats 8000000 in
set_option maxRecDepth 100000 in
theorem slices_Clone_int_int.calls (A0:Option Addr) (c0:Nat) (l0:List Int) (r:List Int) (w:World) (hr0:Kd.C (Kd.int .i64) w A0 l0.length l0) (hc0:l0.length ≤ c0) (h:slices_Clone_int_int.f l0 = some r) :
  Calls Try.prog 77 #[.slice A0 l0.length c0] w fun e w'=>∃ v0_:Value,e = .returned (v0_) ∧ Kd.R (Kd.int .i64) 3 w' w.heap.size (fun _=>True) v0_ r ∧ Below w.heap.size w w':=by
 cases A0 with
 | none =>
  obtain rfl:l0 = []:=by
   cases l0 with
   | nil=>rfl
   | cons x xs =>
    obtain ⟨ad,e,_⟩:=hr0.2.2 (by simp)
    cases e
  obtain rfl:r = []:=by
   have h2:=Option.some.inj (h:some [] = some r)
   exact h2.symm
  clear h hr0 hc0
  have hne:=fun (W:World)=>Lib.run_eql_slice_nil (P:=Try.prog) W 24 3 none 0 c0 0 0 Try.underlying24
  go_enter Try.func77,Try.ntmps77
  go_wp2
  go_ret
  exact ⟨.slice none 0 0,rfl,Kd.R_nil _ _ _ _ _,Below.refl _ _⟩
 | some a0 =>
  have hne:=fun (W:World)=>Lib.run_eql_slice_nil (P:=Try.prog) W 24 3 (some a0) l0.length c0 0 0 Try.underlying24
  have HR0:=Aside0.mk hr0
  have HC0:=Aside0.mk hc0
  clear hr0 hc0
  have HB:=Az (Below.refl w.heap.size w)
  have H:((some (([]:List Int):List Int)).bind fun y420=>(if y420.length + l0.length < 17592186044416 then (some (y420 ++ l0)) else (none))) = some r:=h
  clear h
  obtain ⟨y420,hy420⟩:∃ y_:List Int,y_ = (([]:List Int)):=⟨_,rfl⟩
  replace H:(if y420.length + l0.length < 17592186044416 then (some (y420 ++ l0)) else (none)) = some r:=by first | (rw [hy420];with_reducible exact H) | (have H2_:=(Option.bind_some _ _).symm.trans H;rw [hy420];with_reducible exact H2_) | (have H2_:=(Option.bind_some _ _).symm.trans H;with_reducible exact H2_) | with_reducible exact H | (rw [hy420];exact H) | exact H
  have Ny420:=Aside0.mk hy420
  clear hy420
  by_cases c2:y420.length + l0.length < 17592186044416
  ·rw [if_pos c2] at H
   have LMc2:=Aside0.mk c2
   clear c2
   obtain ⟨y423,hy423⟩:∃ y_:List Int,y_ = (y420 ++ l0):=⟨_,rfl⟩
   replace H:(some y423) = some r:=by first | (rw [hy423];with_reducible exact H) | (have H2_:=(Option.bind_some _ _).symm.trans H;rw [hy423];with_reducible exact H2_) | (have H2_:=(Option.bind_some _ _).symm.trans H;with_reducible exact H2_) | with_reducible exact H | (rw [hy423];exact H) | exact H
   have Ny423:=Aside0.mk hy423
   clear hy423
   obtain rfl:=Option.some.inj H
   go_enter Try.func77,Try.ntmps77
   go_wp2_with (first | ((with_reducible refine gate_dst (N:=5) rfl ?_);refine Kd.R_lit (Kd.int .i64) _ 3 ?hg (N:=5) ?hd (xs:=([]:List Int)) (inner:=[]) (ok:=fun _=>True) (okp:=fun _=>True) ?hr ?hp (fun _ hk=>hk) trivial (Below.refl _ _) (Nat.le_refl _) (by simp) ?_;(case hd=>rfl);(case hg=>rfl);(case hr=>first | (go_simp;done) | (go_simp;rfl));(case hp=>exact (Reps.none _ _));intro v421 w3 ho4 hb hg_ hnew_;clear hg_ hnew_;(first | rw [← Ny420.out] at ho4 | (simp only [Int.reduceToNat] at ho4;rw [← Ny420.out] at ho4));have n0_:=Az (Kd.R_lower ho4 (below_size (mb HB)));have n1_:=Az (below_step (mb HB) hb);clear HB;have HO422:=n0_;have HB:=n1_;clear n0_ n1_;clear hb ho4) | ((with_reducible refine gate_builtin (b:=.append) (xs:=#[.tmp 5,.tmp 6]) rfl ?_);at_builtin;refine Kd.R_append_rows (Kd.int .i64) (w0:=w) w.heap.size rfl (.tmp 5) (.tmp 6) 24 3 (.int .i64 0) 8 rfl Try.underlying24 info3 rfl (by decide) (by omega) v421 y420 l0 _ _ _ (fun _=>True) (fun _=>False) rfl rfl ?aO ?aR (fun _ _ h=>h) (fun _ h=>h.elim) ?aF ?aB ?aS ?aL ?_;(case aR=>exact mc (Kd.C_below HR0.out HB.out));(case aB=>exact (mb HB));(case aF=>exact (fun _ _=>trivial));(case aO=>exact (mr HO422));(case aS=>exact (below_size (mb HB)));(case aL=>have:=LMc2.out;omega);intro v424 w5 ho hb hg hat;rw [← Ny423.out] at ho;have n0_:=Az (hb);have n1_:=Az (ho);clear HB HO422;have HB:=n0_;have HO425:=n1_;clear n0_ n1_;clear ho hb hg hat))
   go_ret
   exact ⟨_,by first | rfl | (simp [errW_none,errW_some] <;> rfl) | (simp [*,errW_none,errW_some] <;> rfl),mr HO425,mb HB⟩
  ·rw [if_neg c2] at H
   exact absurd H (by simp)
def impl_ownDev.f (l0_0:List Int) (a0_1:Int) (l0_2:List Int):Option (List Int × Int × List Int):=(slices_Clone_int_int.f l0_0).bind fun t428=>((slices_Clone_int_int.f l0_2).bind fun t431=>(some (t428,a0_1,t431)))
def impl_ownDev.T1:Bool × List (List Nat × List Nat):=(true,[([],[]),([0],[0]),([1],[1]),([],[]),([3],[3]),([],[]),([5],[5]),([6,2],[6]),([2,4,7],[2,4,7]),([8,7,0,1,2,3,4,5,6,7,8],[8])])
def impl_ownDev.B1:List Nat:=[0,1,3,0,8,0,32,103,255,511]
theorem impl_ownDev.tab1:rtab .any (opsOf Try.f75 1) = impl_ownDev.T1:=by kernel_rfl
theorem impl_ownDev.bits1:waitsOk impl_ownDev.T1.2 impl_ownDev.B1 = true:=by kernel_rfl
set_option maxHeartbeats 8000000 in
set_option maxRecDepth 100000 in
theorem impl_ownDev.calls (A0_0:Option Addr) (c0_0:Nat) (l0_0:List Int) (a0_1:Int) (A0_2:Option Addr) (c0_2:Nat) (l0_2:List Int) (r1:List Int) (r2:Int) (r3:List Int) (w:World) (hr0_0:Kd.C (Kd.int .i64) w A0_0 l0_0.length l0_0) (hc0_0:l0_0.length ≤ c0_0) (hr0_2:Kd.C (Kd.int .i64) w A0_2 l0_2.length l0_2) (hc0_2:l0_2.length ≤ c0_2) (h:impl_ownDev.f l0_0 a0_1 l0_2 = some (r1,r2,r3)) :
  Calls Try.prog 75 #[.agg #[.slice A0_0 l0_0.length c0_0,.int .i64 a0_1,.slice A0_2 l0_2.length c0_2]] w fun e w'=>∃ v0_ v2_:Value,e = .returned (.agg #[v0_,.int .i64 r2,v2_]) ∧ Kd.R (Kd.int .i64) 3 w' w.heap.size (fun k_=>some k_ ≠ (v2_:Value).ownBlock) v0_ r1 ∧ Kd.R (Kd.int .i64) 3 w' w.heap.size (fun k_=>some k_ ≠ (v0_:Value).ownBlock) v2_ r3 ∧ Below w.heap.size w w':=by
 have hu26:=Try.underlying26
 have HR0_0:=Aside0.mk hr0_0
 have HC0_0:=Aside0.mk hc0_0
 clear hr0_0 hc0_0
 have HR0_2:=Aside0.mk hr0_2
 have HC0_2:=Aside0.mk hc0_2
 clear hr0_2 hc0_2
 have HB:=Az (Below.refl w.heap.size w)
 have H:((slices_Clone_int_int.f l0_0).bind fun t428=>((slices_Clone_int_int.f l0_2).bind fun t431=>(some (t428,a0_1,t431)))) = some (r1,r2,r3):=h
 clear h
 replace H:=Option.bind_eq_some_iff.mp H
 obtain ⟨t428,A20,H⟩:=H
 replace H:((slices_Clone_int_int.f l0_2).bind fun t431=>(some (t428,a0_1,t431))) = some (r1,r2,r3):=H
 have A2:=Aside0.mk A20
 clear A20
 replace H:=Option.bind_eq_some_iff.mp H
 obtain ⟨t431,A30,H⟩:=H
 replace H:(some (t428,a0_1,t431)) = some (r1,r2,r3):=H
 have A3:=Aside0.mk A30
 clear A30
 simp only [Option.some.injEq,Prod.mk.injEq] at H
 obtain ⟨rfl,rfl,rfl⟩:=H
 go_enter Try.func75,Try.ntmps75
 try go_wp2_with (first | ((with_reducible refine gate_dst (N:=1) rfl ?_);refine box_event ?hg (N:=1) ?hd (cs:=#[.slice A0_0 l0_0.length c0_0,.int .i64 a0_1,.slice A0_2 l0_2.length c0_2]) (t:=26) ?hr ?_;(case hd=>rfl);(case hg=>rfl);(case hr=>first | (go_simp;done) | (go_simp;rfl));intro gb426 hg w4 hbox hb;have n0_:=Az (below_step (mb HB) hb);have n1_:=Az (hbox);have n2_:=Az ((by rw [hg];exact (below_size (mb HB)):w.heap.size ≤ gb426));have n3_:=Az ((by rw [hg];exact (below_size (mb HB)):w.heap.size ≤ gb426));clear HB;have HB:=n0_;have BK426:=n1_;have GW426:=n2_;have GE426:=n3_;clear n0_ n1_ n2_ n3_;clear hb hbox hg) | ((with_reducible refine gate_dst (N:=2) rfl ?_);refine box_event ?hg (N:=2) ?hd (cs:=#[.slice none 0 0,.int .i64 0,.slice none 0 0]) (t:=26) ?hr ?_;(case hd=>rfl);(case hg=>rfl);(case hr=>first | (go_simp;done) | (go_simp;rfl));intro gb427 hg w5 hbox hb;have n0_:=Az (blk_below (mz BK426) hb);have n1_:=Az (below_step (mb HB) hb);have n2_:=Az (hbox);have n3_:=Az ((by rw [hg];exact (below_size (mb HB)):w.heap.size ≤ gb427));have n4_:=Az ((by rw [hg];exact (below_size (mb HB)):w.heap.size ≤ gb427));have n5_:=Az ((by rw [hg];exact Nat.ne_of_lt (blk_lt (mz BK426)):gb426 ≠ gb427));have n6_:=Az ((by rw [hg];exact Nat.ne_of_gt (blk_lt (mz BK426)):gb427 ≠ gb426));clear BK426 HB;have BK426:=n0_;have HB:=n1_;have BK427:=n2_;have GW427:=n3_;have GE427:=n4_;have NB426_427:=n5_;have NB427_426:=n6_;clear n0_ n1_ n2_ n3_ n4_ n5_ n6_;clear hb hbox hg))
 have n0_:=Az (blk_drew BK426.out)
 have n1_:=Az (blk_drew BK427.out)
 have n2_:=Az (below_drew1 HB.out)
 clear BK426 BK427 HB
 have BK426:=n0_
 have BK427:=n1_
 have HB:=n2_
 clear n0_ n1_ n2_
 refine start_ (n:=10) (S:=fun w'=>w'.cell? ⟨gb426,0,none⟩ = some (.slice A0_0 l0_0.length c0_0) ∧ w'.cell? ⟨gb426,1,none⟩ = some (.int .i64 a0_1) ∧ w'.cell? ⟨gb426,2,none⟩ = some (.slice A0_2 l0_2.length c0_2)) (ds:=[]) #[false,false,false,false,false,false,false,false,false,false] (by kernel_rfl) rfl rfl ⟨(blk_cell BK426.out 0).trans rfl,(blk_cell BK426.out 1).trans rfl,(blk_cell BK426.out 2).trans rfl⟩ (fun hHeld=>?_);refine with_tabW impl_ownDev.tab1 impl_ownDev.bits1 (fun HT_ HW_=>?_)
 generalize w5.drew = w6 at BK426 BK427 HB hHeld ⊢
 refine pure_ (i:=0) (N:=some 3) (v:=?_) (a':=?_) #[true,false,false,false,false,false,false,false,false,false] rfl rfl (any_of HT_.out (by kernel_rfl)) (fun _ _ _ h=>h) (Or.inl ⟨by rfl,?_⟩) ?_ ?_
 rotate_left
 ·intro w'
  go_simp
  with_reducible rfl
 rotate_left
 ·simp only [Act.put,List.setIfInBounds_toArray,List.set_cons_zero,List.set_cons_succ,i64_w,i32_w]
  rfl
 refine pure_ (i:=3) (N:=some 6) (v:=?_) (a':=?_) #[true,false,false,true,false,false,false,false,false,false] rfl rfl (any_of HT_.out (by kernel_rfl)) (fun _ _ _ h=>h) (Or.inl ⟨by rfl,?_⟩) ?_ ?_
 rotate_left
 ·intro w'
  go_simp
  with_reducible rfl
 rotate_left
 ·simp only [Act.put,List.setIfInBounds_toArray,List.set_cons_zero,List.set_cons_succ,i64_w,i32_w]
  rfl
 refine pure_ (i:=5) (N:=some 8) (v:=?_) (a':=?_) #[true,false,false,true,false,true,false,false,false,false] rfl rfl (any_of HT_.out (by kernel_rfl)) (fun _ _ _ h=>h) (Or.inl ⟨by rfl,?_⟩) ?_ ?_
 rotate_left
 ·intro w'
  go_simp
  with_reducible rfl
 rotate_left
 ·simp only [Act.put,List.setIfInBounds_toArray,List.set_cons_zero,List.set_cons_succ,i64_w,i32_w]
  rfl
 refine take_ (i:=1) (N:=some 4) (v:=?_) (a':=?_) #[true,true,false,true,false,true,false,false,false,false] rfl rfl (take_ofW HT_.out HW_.out (by kernel_rfl)) (fun _ _ _ h=>h) (Or.inl ⟨by rfl,?_⟩) hHeld ?_ ?_
 rotate_left
 ·rintro w' ⟨s0,s1,s2⟩
  go_simp
  with_reducible rfl
 rotate_left
 ·simp only [Act.put,List.setIfInBounds_toArray,List.set_cons_zero,List.set_cons_succ,i64_w,i32_w]
  rfl
 refine take_ (i:=4) (N:=some 7) (v:=?_) (a':=?_) #[true,true,false,true,true,true,false,false,false,false] rfl rfl (take_ofW HT_.out HW_.out (by kernel_rfl)) (fun _ _ _ h=>h) (Or.inl ⟨by rfl,?_⟩) hHeld ?_ ?_
 rotate_left
 ·rintro w' ⟨s0,s1,s2⟩
  go_simp
  with_reducible rfl
 rotate_left
 ·simp only [Act.put,List.setIfInBounds_toArray,List.set_cons_zero,List.set_cons_succ,i64_w,i32_w]
  rfl
 refine take_ (i:=6) (N:=some 9) (v:=?_) (a':=?_) #[true,true,false,true,true,true,true,false,false,false] rfl rfl (take_ofW HT_.out HW_.out (by kernel_rfl)) (fun _ _ _ h=>h) (Or.inl ⟨by rfl,?_⟩) hHeld ?_ ?_
 rotate_left
 ·rintro w' ⟨s0,s1,s2⟩
  go_simp
  with_reducible rfl
 rotate_left
 ·simp only [Act.put,List.setIfInBounds_toArray,List.set_cons_zero,List.set_cons_succ,i64_w,i32_w]
  rfl
 refine one_ (i:=2) (N:=some 5) #[true,true,true,true,true,true,true,false,false,false] rfl rfl (one_of HT_.out (by kernel_rfl)) (by decide) (fun K hK=>?_)
 refine goes_ Try.func77 (by kernel_rfl) rfl #[.slice A0_0 l0_0.length c0_0] (by rfl) rfl rfl ml ?_
 with_reducible refine (slices_Clone_int_int.calls _ _ l0_0 t428 _ ?side1 ?side2 A2.out).mono ?_
 (case side1=>exact mc (Kd.C_below HR0_0.out HB.out))
 (case side2=>exact HC0_0.out)
 rintro e w7 ⟨v429,rfl,ho0,hb⟩
 refine ⟨_,rfl,?_⟩
 have n0_:=Az (Kd.R_lower ho0 (below_size (mb HB)))
 have n1_:=Az (blk_below (mz BK426) hb)
 have n2_:=Az (blk_below (mz BK427) hb)
 have n3_:=Az (below_step (mb HB) hb)
 clear BK426 BK427 HB
 have HO430:=n0_
 have BK426:=n1_
 have BK427:=n2_
 have HB:=n3_
 clear n0_ n1_ n2_ n3_
 (try clear hb)
 (try clear hb2)
 (try clear hk)
 (try clear hi)
 (try clear ho0)
 refine hK.out _ _ ⟨(blk_cell BK426.out 0).trans rfl,(blk_cell BK426.out 1).trans rfl,(blk_cell BK426.out 2).trans rfl⟩ (fun hHeld=>?_)
 clear hK K
 refine norm_ (a':=?_) ?_ ?_
 rotate_left
 ·show Act.put _ (some 5) _ = _
  simp only [Act.put,List.setIfInBounds_toArray,List.set_cons_zero,List.set_cons_succ,i64_w,i32_w]
  rfl
 refine one_ (i:=7) (N:=some 10) #[true,true,true,true,true,true,true,true,false,false] rfl rfl (one_of HT_.out (by kernel_rfl)) (by decide) (fun K hK=>?_)
 refine goes_ Try.func77 (by kernel_rfl) rfl #[.slice A0_2 l0_2.length c0_2] (by rfl) rfl rfl ml ?_
 with_reducible refine (slices_Clone_int_int.calls _ _ l0_2 t431 _ ?side1 ?side2 A3.out).mono ?_
 (case side1=>exact mc (Kd.C_below HR0_2.out HB.out))
 (case side2=>exact HC0_2.out)
 rintro e w8 ⟨v432,rfl,ho0,hb⟩
 refine ⟨_,rfl,?_⟩
 have n0_:=Az (Kd.R_elder' (mr HO430) (Kd.R_base ho0) hb)
 have n1_:=Az (Kd.R_lower (Kd.R_new' ho0 (Kd.R_lt (mr HO430))) (below_size (mb HB)))
 have n2_:=Az (blk_below (mz BK426) hb)
 have n3_:=Az (blk_below (mz BK427) hb)
 have n4_:=Az (below_step (mb HB) hb)
 clear HO430 BK426 BK427 HB
 have HO430:=n0_
 have HO433:=n1_
 have BK426:=n2_
 have BK427:=n3_
 have HB:=n4_
 clear n0_ n1_ n2_ n3_ n4_
 (try clear hb)
 (try clear hb2)
 (try clear hk)
 (try clear hi)
 (try clear ho0)
 obtain ⟨Ao9,co9,eo9⟩:=Kd.R_slice HO433.out
 (first | subst eo9 | (injection eo9 with f1_ f2_ f3_;have f4_:=f1_.symm;have f5_:=f3_.symm;clear f1_ f2_ f3_;subst f4_;subst f5_))
 obtain ⟨Ao10,co10,eo10⟩:=Kd.R_slice HO430.out
 (first | subst eo10 | (injection eo10 with f1_ f2_ f3_;have f4_:=f1_.symm;have f5_:=f3_.symm;clear f1_ f2_ f3_;subst f4_;subst f5_))
 refine hK.out _ _ ⟨(blk_cell BK426.out 0).trans rfl,(blk_cell BK426.out 1).trans rfl,(blk_cell BK426.out 2).trans rfl⟩ (fun hHeld=>?_)
 clear hK K
 refine norm_ (a':=?_) ?_ ?_
 rotate_left
 ·show Act.put _ (some 10) _ = _
  simp only [Act.put,List.setIfInBounds_toArray,List.set_cons_zero,List.set_cons_succ,i64_w,i32_w]
  rfl
 refine pure_ (i:=8) (N:=some 11) (v:=?_) (a':=?_) #[true,true,true,true,true,true,true,true,true,false] rfl rfl (any_of HT_.out (by kernel_rfl)) (fun _ _ _ h=>h) (Or.inl ⟨by rfl,?_⟩) ?_ ?_
 rotate_left
 ·intro w'
  go_simp
  with_reducible rfl
 rotate_left
 ·simp only [Act.put,List.setIfInBounds_toArray,List.set_cons_zero,List.set_cons_succ,i64_w,i32_w]
  rfl
 refine one_ (i:=9) (N:=none) #[true,true,true,true,true,true,true,true,true,true] rfl rfl (one_of HT_.out (by kernel_rfl)) (by decide) (fun K hK=>?_)
 have hs11:w8.cell? ⟨gb427,0,none⟩ = some (.slice none 0 0):=(blk_cell BK427.out 0).trans rfl
 have hfs11:=blk_frozen BK427.out 0
 have hns11_0:=NB426_427.out
 have hms11_0:=NB427_426.out
 have hs12:w8.cell? ⟨gb427,1,none⟩ = some (.int .i64 0):=(blk_cell BK427.out 1).trans rfl
 have hfs12:=blk_frozen BK427.out 1
 have hns12_0:=NB426_427.out
 have hms12_0:=NB427_426.out
 have hs13:w8.cell? ⟨gb427,2,none⟩ = some (.slice none 0 0):=(blk_cell BK427.out 2).trans rfl
 have hfs13:=blk_frozen BK427.out 2
 have hns13_0:=NB426_427.out
 have hms13_0:=NB427_426.out
 refine skip_ (w1:=?_) (by rfl) rfl ?_ ?_
 rotate_left
 ·go_simp
  rfl
 refine hK.out _ _ ⟨((cell_far (p:=⟨gb427,_,none⟩) NB426_427.out _).trans (((cell_far (p:=⟨gb427,_,none⟩) NB426_427.out _).trans (((cell_far (p:=⟨gb427,_,none⟩) NB426_427.out _).trans (hHeld.1)))))),((cell_far (p:=⟨gb427,_,none⟩) NB426_427.out _).trans (((cell_far (p:=⟨gb427,_,none⟩) NB426_427.out _).trans (((cell_far (p:=⟨gb427,_,none⟩) NB426_427.out _).trans (hHeld.2.1)))))),((cell_far (p:=⟨gb427,_,none⟩) NB426_427.out _).trans (((cell_far (p:=⟨gb427,_,none⟩) NB426_427.out _).trans (((cell_far (p:=⟨gb427,_,none⟩) NB426_427.out _).trans (hHeld.2.2))))))⟩ (fun hHeld=>?_)
 clear hK K
 refine done_ (done_of HT_.out (by kernel_rfl)) ?_
 try go_wp2
 refine bodyPost_ret (results_cell_row rfl _ _ gb427 26 #[.slice Ao10 t428.length co10,.int .i64 a0_1,.slice Ao9 t431.length co9] (0,0) _ rfl (by refine ms ?_;refine blk_put (cs:=#[.slice Ao10 t428.length co10,.int .i64 a0_1,.slice none 0 0]) ?_ 2 _ rfl;refine ms ?_;refine blk_put (cs:=#[.slice Ao10 t428.length co10,.int .i64 0,.slice none 0 0]) ?_ 1 _ rfl;refine ms ?_;refine blk_put (cs:=#[.slice none 0 0,.int .i64 0,.slice none 0 0]) ?_ 0 _ rfl;refine ms ?_;exact BK427.out) Try.underlying26 rfl (by kernel_rfl)) rfl ?_
 exact ⟨_,_,by first | rfl | (simp [errW_none,errW_some] <;> rfl) | (simp [*,errW_none,errW_some] <;> rfl),by (with_reducible repeat (first | apply Kd.R_alloc | apply Kd.R_drewN | apply Kd.R_drew));exact Kd.R_mono (Kd.R_far (Kd.R_far (Kd.R_far (Kd.R_types HO430.out BK427.out (by decide)) (fun _ hk=>hk.2) _) (fun _ hk=>hk.2) _) (fun _ hk=>hk.2) _) (fun _ hk=>hk.1.2),by (with_reducible repeat (first | apply Kd.R_alloc | apply Kd.R_drewN | apply Kd.R_drew));exact Kd.R_mono (Kd.R_far (Kd.R_far (Kd.R_far (Kd.R_types HO433.out BK427.out (by decide)) (fun _ hk=>hk.2) _) (fun _ hk=>hk.2) _) (fun _ hk=>hk.2) _) (fun _ hk=>hk.1.2),mb HB⟩
end Go.Proofs.Ythikbgjlcdkoaaa.MFnModels

