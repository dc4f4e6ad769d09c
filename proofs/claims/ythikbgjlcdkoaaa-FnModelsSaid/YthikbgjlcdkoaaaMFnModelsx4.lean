-- Written for this claim by a program of the session (wip/mk.py) over the kit's print.
import Derived.Test.YthikbgjlcdkoaaaMFnModelsx0
import Derived.Test.YthikbgjlcdkoaaaMFnModelsx1
import Derived.Test.YthikbgjlcdkoaaaMFnModelsx3
namespace Go.Proofs.Ythikbgjlcdkoaaa.MFnModels
open Go.RowKit Go.Proofs.YthikbgjlcdkoaaaW.PrintWords Go.Proofs.YthikbgjlcdkoaaaW.PrintLast Go.Proofs.YthikbgjlcdkoaaaW.PrintMore
attribute [local go_sem] max2_int min2_int max_two min_two max_three min_three max_four min_four
set_option linter.unusedVariables false
set_option linter.unusedSimpArgs false
def spec_l4Value.f (s0_0:List Int) (s0_1:Int) (s0_2:Int) (a1:Int):Option (Int × Int × Int):=(spec_l1Below.f s0_0 s0_1 s0_2 256).bind fun bt181=>((spec_LimitOf.f a1).bind fun t184=>((spec_l1Below.f s0_0 bt181.2.1 bt181.2.2 (mx 1 t184)).bind fun bt185=>((spec_LimitOf.f a1).bind fun t188=>((spec_LimitOf.f a1).bind fun t189=>((spec_l1PickInt.f s0_0 bt185.2.1 bt185.2.2 (([bt181.1,bt185.1,wrap64 (t188 - 1),t189,0,(-1)]:List Int))).bind fun bt193=>(some (bt193.1,bt193.2.1,bt193.2.2)))))))
set_option maxHeartbeats 8000000 in
set_option maxRecDepth 100000 in
theorem spec_l4Value.calls (g:Nat) (s0_0:List Int) (s0_1:Int) (s0_2:Int) (a1:Int) (r1:Int) (r2:Int) (r3:Int) (w0 w:World) (hI:IsS83 w0 w g s0_0 s0_1 s0_2) (hB:Below w0.heap.size w0 w) (h:spec_l4Value.f s0_0 s0_1 s0_2 a1 = some (r1,r2,r3)) :
  Calls Try.prog 48 #[.pointer (some ⟨g,0,none⟩),.int .i64 a1] w fun e w'=>e = .returned (.int .i64 r1) ∧ IsS83 w0 w' g s0_0 r2 r3 ∧ Below w0.heap.size w0 w' ∧ KeepBut w w' g none:=by
 have HI0:=Aside0.mk hI
 have HK:=Az (KeepBut.refl w g none)
 have HL:=Aside0.mk hB.size
 clear hI
 have HW0:=Aside0.mk hB.size
 have HB:=Aside0.mk hB
 clear hB
 have H:((spec_l1Below.f s0_0 s0_1 s0_2 256).bind fun bt181=>((spec_LimitOf.f a1).bind fun t184=>((spec_l1Below.f s0_0 bt181.2.1 bt181.2.2 (mx 1 t184)).bind fun bt185=>((spec_LimitOf.f a1).bind fun t188=>((spec_LimitOf.f a1).bind fun t189=>((spec_l1PickInt.f s0_0 bt185.2.1 bt185.2.2 (([bt181.1,bt185.1,wrap64 (t188 - 1),t189,0,(-1)]:List Int))).bind fun bt193=>(some (bt193.1,bt193.2.1,bt193.2.2)))))))) = some (r1,r2,r3):=h
 clear h
 replace H:=Option.bind_eq_some_iff.mp H
 obtain ⟨⟨t181,t182,t183⟩,A30,H⟩:=H
 replace H:((spec_LimitOf.f a1).bind fun t184=>((spec_l1Below.f s0_0 t182 t183 (mx 1 t184)).bind fun bt185=>((spec_LimitOf.f a1).bind fun t188=>((spec_LimitOf.f a1).bind fun t189=>((spec_l1PickInt.f s0_0 bt185.2.1 bt185.2.2 (([t181,bt185.1,wrap64 (t188 - 1),t189,0,(-1)]:List Int))).bind fun bt193=>(some (bt193.1,bt193.2.1,bt193.2.2))))))) = some (r1,r2,r3):=H
 have A3:=Aside0.mk A30
 clear A30
 replace H:=Option.bind_eq_some_iff.mp H
 obtain ⟨t184,A40,H⟩:=H
 replace H:((spec_l1Below.f s0_0 t182 t183 (mx 1 t184)).bind fun bt185=>((spec_LimitOf.f a1).bind fun t188=>((spec_LimitOf.f a1).bind fun t189=>((spec_l1PickInt.f s0_0 bt185.2.1 bt185.2.2 (([t181,bt185.1,wrap64 (t188 - 1),t189,0,(-1)]:List Int))).bind fun bt193=>(some (bt193.1,bt193.2.1,bt193.2.2)))))) = some (r1,r2,r3):=H
 have A4:=Aside0.mk A40
 clear A40
 obtain ⟨ji5,hji5⟩:∃ j_:Int,(mx 1 t184) = j_:=⟨_,rfl⟩
 replace H:((spec_l1Below.f s0_0 t182 t183 (ji5)).bind fun bt185=>((spec_LimitOf.f a1).bind fun t188=>((spec_LimitOf.f a1).bind fun t189=>((spec_l1PickInt.f s0_0 bt185.2.1 bt185.2.2 (([t181,bt185.1,wrap64 (t188 - 1),t189,0,(-1)]:List Int))).bind fun bt193=>(some (bt193.1,bt193.2.1,bt193.2.2)))))) = some (r1,r2,r3):=by first | (rw [hji5] at H;exact H) | (simp only [hji5] at H ⊢;exact H)
 (try rw [hji5] at A3)
 (try rw [hji5] at A4)
 (try (have hji5l:1 ≤ ji5:=by (rw [← hji5];unfold mx;(repeat' split) <;> omega)))
 (try (have hji5m:0 ≤ ji5:=by omega))
 have hji5_:(if 1 < t184 then t184 else 1) = ji5:=hji5
 replace H:=Option.bind_eq_some_iff.mp H
 obtain ⟨⟨t185,t186,t187⟩,A60,H⟩:=H
 replace H:((spec_LimitOf.f a1).bind fun t188=>((spec_LimitOf.f a1).bind fun t189=>((spec_l1PickInt.f s0_0 t186 t187 (([t181,t185,wrap64 (t188 - 1),t189,0,(-1)]:List Int))).bind fun bt193=>(some (bt193.1,bt193.2.1,bt193.2.2))))) = some (r1,r2,r3):=H
 have A6:=Aside0.mk A60
 clear A60
 replace H:=Option.bind_eq_some_iff.mp H
 obtain ⟨t188,A70,H⟩:=H
 replace H:((spec_LimitOf.f a1).bind fun t189=>((spec_l1PickInt.f s0_0 t186 t187 (([t181,t185,wrap64 (t188 - 1),t189,0,(-1)]:List Int))).bind fun bt193=>(some (bt193.1,bt193.2.1,bt193.2.2)))) = some (r1,r2,r3):=H
 have A7:=Aside0.mk A70
 clear A70
 replace H:=Option.bind_eq_some_iff.mp H
 obtain ⟨t189,A80,H⟩:=H
 replace H:((spec_l1PickInt.f s0_0 t186 t187 (([t181,t185,wrap64 (t188 - 1),t189,0,(-1)]:List Int))).bind fun bt193=>(some (bt193.1,bt193.2.1,bt193.2.2))) = some (r1,r2,r3):=H
 have A8:=Aside0.mk A80
 clear A80
 obtain ⟨y190,hy190⟩:∃ y_:List Int,y_ = (([t181,t185,wrap64 (t188 - 1),t189,0,(-1)]:List Int)):=⟨_,rfl⟩
 replace H:((spec_l1PickInt.f s0_0 t186 t187 y190).bind fun bt193=>(some (bt193.1,bt193.2.1,bt193.2.2))) = some (r1,r2,r3):=by first | (rw [hy190];with_reducible exact H) | (have H2_:=(Option.bind_some _ _).symm.trans H;rw [hy190];with_reducible exact H2_) | (have H2_:=(Option.bind_some _ _).symm.trans H;with_reducible exact H2_) | with_reducible exact H | (rw [hy190];exact H) | exact H
 have Ny190:=Aside0.mk hy190
 clear hy190
 replace H:=Option.bind_eq_some_iff.mp H
 obtain ⟨⟨t193,t194,t195⟩,A90,H⟩:=H
 replace H:(some (t193,t194,t195)) = some (r1,r2,r3):=H
 have A9:=Aside0.mk A90
 clear A90
 simp only [Option.some.injEq,Prod.mk.injEq] at H
 obtain ⟨rfl,rfl,rfl⟩:=H
 go_enter Try.func48,Try.ntmps48
 go_wp2_with (first | ((with_reducible refine gate_callee (f:=45) rfl ?_);refine goesL_ (some 7) rfl rfl Try.func45 (by kernel_rfl) rfl #[.pointer (some ⟨g,0,none⟩),.int .i64 256] rfl ml ?_;(with_reducible refine (spec_l1Below.calls g s0_0 s0_1 s0_2 256 t181 t182 t183 w0 _ ?side1 ?side2 A3.out).mono ?_);(case side1=>repeat (first | (with_reducible first | exact HI0.out | apply IsS83.alloc | apply IsS83.drewN | apply IsS83.drew | apply IsS83.set_1 | apply IsS83.set_2) | exact HI0.out));(case side2=>repeat (first | (with_reducible first | exact HB.out | apply below_alloc | apply pw_below_drewN | apply below_drew1 | refine below_set ?_ (IsS83.ge HI0.out)) | exact HB.out));rintro e w10 ⟨rfl,hi,hb,hk⟩;refine ⟨_,rfl,?_⟩;have n0_:=Az (KeepBut.trans (mk HK) hk (.inl rfl));have n1_:=Az (hb);have n2_:=Az (hi);clear HK HB HI0;have HK:=n0_;have HB:=n1_;have HI0:=n2_;clear n0_ n1_ n2_;(try clear hb);(try clear hb2);(try clear hk);(try clear hi)) | ((with_reducible refine gate_callee (f:=58) rfl ?_);refine goesL_ (some 10) rfl rfl Try.func58 (by kernel_rfl) rfl #[.int .i64 a1] rfl ml ?_;(with_reducible refine (spec_LimitOf.calls a1 t184 _ A4.out).mono ?_);rintro e w' ⟨rfl,⟨nd,rfl⟩⟩;refine ⟨_,rfl,?_⟩) | ((with_reducible refine gate_callee (f:=45) rfl ?_);refine goesL_ (some 12) rfl rfl Try.func45 (by kernel_rfl) rfl #[.pointer (some ⟨g,0,none⟩),.int .i64 ji5] rfl (by (try simp only [List.map_toArray,List.map_cons,List.map_nil]);first | done | (simp only [hji5];rfl) | rfl | (simp only [List.length_drop,List.length_take];rfl)) ?_;(with_reducible refine (spec_l1Below.calls g s0_0 t182 t183 ji5 t185 t186 t187 w0 _ ?side1 ?side2 A6.out).mono ?_);(case side1=>repeat (first | (with_reducible first | exact HI0.out | apply IsS83.alloc | apply IsS83.drewN | apply IsS83.drew | apply IsS83.set_1 | apply IsS83.set_2) | exact HI0.out));(case side2=>repeat (first | (with_reducible first | exact HB.out | apply below_alloc | apply pw_below_drewN | apply below_drew1 | refine below_set ?_ (IsS83.ge HI0.out)) | exact HB.out));rintro e w11 ⟨rfl,hi,hb,hk⟩;refine ⟨_,rfl,?_⟩;have n0_:=Az (KeepBut.trans (mk HK) hk (.inl rfl));have n1_:=Az (hb);have n2_:=Az (hi);clear HK HB HI0;have HK:=n0_;have HB:=n1_;have HI0:=n2_;clear n0_ n1_ n2_;(try clear hb);(try clear hb2);(try clear hk);(try clear hi)) | ((with_reducible refine gate_callee (f:=58) rfl ?_);refine goesL_ (some 14) rfl rfl Try.func58 (by kernel_rfl) rfl #[.int .i64 a1] rfl ml ?_;(with_reducible refine (spec_LimitOf.calls a1 t188 _ A7.out).mono ?_);rintro e w' ⟨rfl,⟨nd,rfl⟩⟩;refine ⟨_,rfl,?_⟩) | ((with_reducible refine gate_callee (f:=58) rfl ?_);refine goesL_ (some 17) rfl rfl Try.func58 (by kernel_rfl) rfl #[.int .i64 a1] rfl ml ?_;(with_reducible refine (spec_LimitOf.calls a1 t189 _ A8.out).mono ?_);rintro e w' ⟨rfl,⟨nd,rfl⟩⟩;refine ⟨_,rfl,?_⟩) | ((with_reducible refine gate_dst (N:=18) rfl ?_);refine Kd.R_lit (Kd.int .i64) _ 3 ?hg (N:=18) ?hd (xs:=([t181,t185,wrap64 (t188 - 1),t189,0,(-1)]:List Int)) (inner:=[.int .i64 t181,.int .i64 t185,.int .i64 (wrap64 (t188 - 1)),.int .i64 t189,.int .i64 0,.int .i64 (-1)]) (ok:=fun _=>True) (okp:=fun _=>True) ?hr ?hp (fun _ hk=>hk) trivial (Below.refl _ _) (Nat.le_refl _) (by simp) ?_;(case hd=>rfl);(case hg=>rfl);(case hr=>first | (go_simp;done) | (go_simp;rfl));(case hp=>exact (Reps.one (show Kd.M (Kd.int .i64) _ _ _ t181 [.int .i64 t181] from rfl) (Reps.one (show Kd.M (Kd.int .i64) _ _ _ t185 [.int .i64 t185] from rfl) (Reps.one (show Kd.M (Kd.int .i64) _ _ _ (wrap64 (t188 - 1)) [.int .i64 (wrap64 (t188 - 1))] from rfl) (Reps.one (show Kd.M (Kd.int .i64) _ _ _ t189 [.int .i64 t189] from rfl) (Reps.one (show Kd.M (Kd.int .i64) _ _ _ 0 [.int .i64 0] from rfl) (Reps.one (show Kd.M (Kd.int .i64) _ _ _ (-1) [.int .i64 (-1)] from rfl) (Reps.none _ _))))))));intro v191 w12 ho13 hb hg_ hnew_;clear hg_ hnew_;(first | rw [← Ny190.out] at ho13 | (simp only [Int.reduceToNat] at ho13;rw [← Ny190.out] at ho13));have n0_:=Az (Kd.R_lower ho13 (keep_size (w:=w) (g:=g) (row:=none) (mk HK)));have n1_:=Az (IsS83.below (mi83 HI0) hb);have n2_:=Az (KeepBut.trans (mk HK) (KeepBut.of_below hb g none) (.inl rfl));have n3_:=Az (below_step (by repeat (first | (with_reducible first | exact HB.out | apply below_alloc | apply pw_below_drewN | apply below_drew1 | refine below_set ?_ (IsS83.ge HI0.out)) | exact HB.out)) hb);clear HI0 HK HB;have HO192:=n0_;have HI0:=n1_;have HK:=n2_;have HB:=n3_;clear n0_ n1_ n2_ n3_ hb ho13;obtain ⟨Ao14,co14,eo14⟩:=Kd.R_slice HO192.out;subst eo14) | ((with_reducible refine gate_callee (f:=44) rfl ?_);refine goesL_ (some 19) rfl rfl Try.func44 (by kernel_rfl) rfl #[.pointer (some ⟨g,0,none⟩),.slice Ao14 y190.length co14] rfl ml ?_;(with_reducible refine (spec_l1PickInt.calls g s0_0 t186 t187 _ _ y190 t193 t194 t195 w0 _ ?side1 ?side2 ?side3 ?side4 ?side5 A9.out).mono ?_);(case side1=>repeat (first | (with_reducible first | exact HI0.out | apply IsS83.alloc | apply IsS83.drewN | apply IsS83.drew | apply IsS83.set_1 | apply IsS83.set_2) | exact HI0.out));(case side2=>repeat (first | (with_reducible first | exact HB.out | apply below_alloc | apply pw_below_drewN | apply below_drew1 | refine below_set ?_ (IsS83.ge HI0.out)) | exact HB.out));(case side3=>exact mc (Kd.R_reads' HO192.out).2.2);(case side4=>exact (Kd.R_reads' HO192.out).2.1);(case side5=>exact far_slice (IsS83.own_ne HI0.out HO192.out (by decide)));rintro e w15 ⟨rfl,hi,hb,hk⟩;refine ⟨_,rfl,?_⟩;have n0_:=Az (Kd.R_mono (Kd.R_keep (IsS83.apart (show IsS83 w0 _ g s0_0 t186 t187 from mi83 HI0) (mr HO192) (by decide)) hk (fun _ h=>h.2)) (fun _ h=>h.1));have n1_:=Az (KeepBut.trans (mk HK) hk (.inl rfl));have n2_:=Az (hb);have n3_:=Az (hi);clear HO192 HK HB HI0;have HO192:=n0_;have HK:=n1_;have HB:=n2_;have HI0:=n3_;clear n0_ n1_ n2_ n3_;(try clear hb);(try clear hb2);(try clear hk);(try clear hi)))
 go_ret
 exact ⟨by first | rfl | (simp [errW_none,errW_some] <;> rfl) | (simp only [← hji5];first | rfl | (simp [errW_none,errW_some] <;> rfl)) | (simp [*,errW_none,errW_some] <;> rfl),mi83 HI0,by repeat (first | (with_reducible first | exact HB.out | apply below_alloc | apply pw_below_drewN | apply below_drew1 | refine below_set ?_ (IsS83.ge HI0.out)) | exact HB.out),mk HK⟩
def spec_l8Dev.l0:Nat → Int → List Int → Int → Int → List Int → Int → List Int → Option (List Int × Int × List Int × Int × Int)
 | 0,_,_,_,_,_,_,_=>none
 | k + 1,x4,x1000,x1001,x1002,x205000,x205001,x205002=>if x4 > 0 then ((spec_l1Once.f x1000 x1001 x1002 4).bind fun bt208=>((spec_l1Below.f x1000 bt208.2.1 bt208.2.2 6).bind fun bt211=>((spec_l4Value.f x1000 bt211.2.1 bt211.2.2 2).bind fun bt214=>((spec_DevDo.f k x205000 x205001 x205002 (!bt208.1) (wrap64 (4 * bt211.1)) bt214.1).bind fun bt217=>(spec_l8Dev.l0 k (wrap64 (x4 - 1)) x1000 bt214.2.1 bt214.2.2 bt217.1 bt217.2.1 bt217.2.2.1))))) else (some (x205000,x205001,x205002,x1001,x1002))
def spec_l8Dev.f (k:Nat) (s0_0:List Int) (s0_1:Int) (s0_2:Int):Option (List Int × Int × List Int × Int × Int):=(spec_DevNew.f).bind fun bt197=>((spec_l1Below.f s0_0 s0_1 s0_2 8).bind fun bt205=>(spec_l8Dev.l0 k bt205.1 s0_0 bt205.2.1 bt205.2.2 bt197.1 bt197.2.1 bt197.2.2))
def spec_l8Dev.T5:Bool × List (List Nat × List Nat):=(true,[([],[]),([],[]),([1],[1]),([2],[2]),([],[]),([4,2],[4]),([5],[5]),([],[]),([7,5],[7]),([0,3,6,8,8],[0,3,6,8]),([9],[9]),([10],[10]),([10],[10]),([10],[10]),([11,9,0,1,2,3,4,5,6,7,8,9,10,11],[11])])
def spec_l8Dev.B5:List Nat:=[0,0,2,6,0,22,54,0,182,511,1023,2047,2047,2047,4095]
theorem spec_l8Dev.tab5:rtab .any (opsOf Try.f87 5) = spec_l8Dev.T5:=by kernel_rfl
theorem spec_l8Dev.bits5:waitsOk spec_l8Dev.T5.2 spec_l8Dev.B5 = true:=by kernel_rfl
set_option maxHeartbeats 8000000 in
set_option maxRecDepth 100000 in
theorem spec_l8Dev.calls (k:Nat) (g:Nat) (s0_0:List Int) (s0_1:Int) (s0_2:Int) (r1:List Int) (r2:Int) (r3:List Int) (r4:Int) (r5:Int) (w0 w:World) (hI:IsS83 w0 w g s0_0 s0_1 s0_2) (hB:Below w0.heap.size w0 w) (h:spec_l8Dev.f k s0_0 s0_1 s0_2 = some (r1,r2,r3,r4,r5)) :
  Calls Try.prog 87 #[.pointer (some ⟨g,0,none⟩)] w fun e w'=>∃ v0_ v2_:Value,e = .returned (.agg #[v0_,.int .i64 r2,v2_]) ∧ Kd.R (Kd.int .i64) 3 w' w.heap.size (fun k_=>some k_ ≠ (v2_:Value).ownBlock) v0_ r1 ∧ Kd.Q (Kd.int .i64) 3 w' w.heap.size (fun k_=>some k_ ≠ (v0_:Value).ownBlock) v2_ r3 ∧ IsS83 w0 w' g s0_0 r4 r5 ∧ Below w0.heap.size w0 w' ∧ KeepBut w w' g none:=by
 have hu26:=Try.underlying26
 have HI0:=Aside0.mk hI
 have HK:=Az (KeepBut.refl w g none)
 have HL:=Aside0.mk hB.size
 clear hI
 have HW0:=Aside0.mk hB.size
 have HB:=Aside0.mk hB
 clear hB
 have H:((spec_DevNew.f).bind fun bt197=>((spec_l1Below.f s0_0 s0_1 s0_2 8).bind fun bt205=>(spec_l8Dev.l0 k bt205.1 s0_0 bt205.2.1 bt205.2.2 bt197.1 bt197.2.1 bt197.2.2))) = some (r1,r2,r3,r4,r5):=h
 clear h
 replace H:=Option.bind_eq_some_iff.mp H
 obtain ⟨⟨t197,t200,t201⟩,A20,H⟩:=H
 replace H:((spec_l1Below.f s0_0 s0_1 s0_2 8).bind fun bt205=>(spec_l8Dev.l0 k bt205.1 s0_0 bt205.2.1 bt205.2.2 t197 t200 t201)) = some (r1,r2,r3,r4,r5):=H
 have A2:=Aside0.mk A20
 clear A20
 replace H:=Option.bind_eq_some_iff.mp H
 obtain ⟨⟨t205,t206,t207⟩,A30,H⟩:=H
 replace H:(spec_l8Dev.l0 k t205 s0_0 t206 t207 t197 t200 t201) = some (r1,r2,r3,r4,r5):=H
 have A3:=Aside0.mk A30
 clear A30
 have H':=Aside0.mk H
 clear H
 go_enter Try.func87,Try.ntmps87
 go_wp2_with (first | ((with_reducible refine gate_dst (N:=2) rfl ?_);refine box_event ?hg (N:=2) ?hd (cs:=#[.slice none 0 0,.int .i64 0,.slice none 0 0]) (t:=26) ?hr ?_;(case hd=>rfl);(case hg=>rfl);(case hr=>first | (go_simp;done) | (go_simp;rfl));intro gb196 hg w4 hbox hb;have n0_:=Az (IsS83.below (mi83 HI0) hb);have n1_:=Az (KeepBut.trans (mk HK) (KeepBut.of_below hb g none) (.inl rfl));have n2_:=Az (below_step (by repeat (first | (with_reducible first | exact HB.out | apply below_alloc | apply pw_below_drewN | apply below_drew1 | refine below_set ?_ (IsS83.ge HI0.out)) | exact HB.out)) hb);have n3_:=Az (hbox);have n4_:=Az ((by rw [hg];exact (keep_size (w:=w) (g:=g) (row:=none) (mk HK)):w.heap.size ≤ gb196));have n5_:=Az ((Nat.le_trans HW0.out (by rw [hg];exact (keep_size (w:=w) (g:=g) (row:=none) (mk HK)):w.heap.size ≤ gb196):w0.heap.size ≤ gb196));have n6_:=Az ((by rw [hg];exact Nat.ne_of_lt (IsS83.lt (show IsS83 w0 _ g s0_0 s0_1 s0_2 from mi83 HI0)):g ≠ gb196));have n7_:=Az ((by rw [hg];exact Nat.ne_of_gt (IsS83.lt (show IsS83 w0 _ g s0_0 s0_1 s0_2 from mi83 HI0)):gb196 ≠ g));clear HI0 HK HB;have HI0:=n0_;have HK:=n1_;have HB:=n2_;have BK196:=n3_;have GW196:=n4_;have GE196:=n5_;have NB0_196:=n6_;have NB196_0:=n7_;clear n0_ n1_ n2_ n3_ n4_ n5_ n6_ n7_;clear hb hbox hg) | ((with_reducible refine gate_callee (f:=25) rfl ?_);refine goesL_ (some 5) rfl rfl Try.func25 (by kernel_rfl) rfl #[] rfl ml ?_;(with_reducible refine (spec_DevNew.calls  t197 t200 t201 _ A2.out).mono ?_);rintro e w5 ⟨v198,v202,rfl,ho0,ho1,hb⟩;refine ⟨_,rfl,?_⟩;have n0_:=Az (Kd.R_lower ho0 (keep_size (w:=w) (g:=g) (row:=none) (mk HK)));have n1_:=Az (Kd.R_lower ho1 (keep_size (w:=w) (g:=g) (row:=none) (mk HK)));have n2_:=Az (IsS83.below (mi83 HI0) hb);have n3_:=Az (blk_below (mz BK196) hb);have n4_:=Az (KeepBut.trans (mk HK) (KeepBut.of_below hb g none) (.inl rfl));have n5_:=Az (below_step (by repeat (first | (with_reducible first | exact HB.out | apply below_alloc | apply pw_below_drewN | apply below_drew1 | refine below_set ?_ (IsS83.ge HI0.out) | refine below_set ?_ GE196.out) | exact HB.out)) hb);clear HI0 BK196 HK HB;have HO199:=n0_;have HO203:=n1_;have HI0:=n2_;have BK196:=n3_;have HK:=n4_;have HB:=n5_;clear n0_ n1_ n2_ n3_ n4_ n5_;(try clear hb);(try clear hb2);(try clear hk);(try clear hi);(try clear ho0);(try clear ho1)) | ((with_reducible refine gate_dst (N:=3) rfl ?_);refine box_event ?hg (N:=3) ?hd (cs:=#[.slice none 0 0,.int .i64 0,.slice none 0 0]) (t:=26) ?hr ?_;(case hd=>rfl);(case hg=>rfl);(case hr=>first | (go_simp;done) | (go_simp;rfl));intro gb204 hg w6 hbox hb;have n0_:=Az (Kd.R_below (mr HO199) hb);have n1_:=Az (Kd.R_below (mr HO203) hb);have n2_:=Az (IsS83.below (mi83 HI0) hb);have n3_:=Az (blk_below (mz BK196) hb);have n4_:=Az (KeepBut.trans (mk HK) (KeepBut.of_below hb g none) (.inl rfl));have n5_:=Az (below_step (by repeat (first | (with_reducible first | exact HB.out | apply below_alloc | apply pw_below_drewN | apply below_drew1 | refine below_set ?_ (IsS83.ge HI0.out) | refine below_set ?_ GE196.out) | exact HB.out)) hb);have n6_:=Az (hbox);have n7_:=Az ((by rw [hg];exact (keep_size (w:=w) (g:=g) (row:=none) (mk HK)):w.heap.size ≤ gb204));have n8_:=Az ((Nat.le_trans HW0.out (by rw [hg];exact (keep_size (w:=w) (g:=g) (row:=none) (mk HK)):w.heap.size ≤ gb204):w0.heap.size ≤ gb204));have n9_:=Az ((by rw [hg];exact Nat.ne_of_lt (blk_lt (mz BK196)):gb196 ≠ gb204));have n10_:=Az ((by rw [hg];exact Nat.ne_of_gt (blk_lt (mz BK196)):gb204 ≠ gb196));have n11_:=Az ((by rw [hg];exact Nat.ne_of_lt (IsS83.lt (show IsS83 w0 _ g s0_0 s0_1 s0_2 from mi83 HI0)):g ≠ gb204));have n12_:=Az ((by rw [hg];exact Nat.ne_of_gt (IsS83.lt (show IsS83 w0 _ g s0_0 s0_1 s0_2 from mi83 HI0)):gb204 ≠ g));clear HO199 HO203 HI0 BK196 HK HB;have HO199:=n0_;have HO203:=n1_;have HI0:=n2_;have BK196:=n3_;have HK:=n4_;have HB:=n5_;have BK204:=n6_;have GW204:=n7_;have GE204:=n8_;have NB196_204:=n9_;have NB204_196:=n10_;have NB0_204:=n11_;have NB204_0:=n12_;clear n0_ n1_ n2_ n3_ n4_ n5_ n6_ n7_ n8_ n9_ n10_ n11_ n12_ hb hbox hg;obtain ⟨Ao7,co7,eo7⟩:=Kd.R_slice HO199.out;subst eo7;have hnb8:=NB204_196.out;have hnc8:=NB196_204.out;have hnb9:=NB204_0.out;have hnc9:=NB0_204.out;have hcz10_0:=bz0 BK204;have hcz10_1:=bz1 BK204;have hcz10_2:=bz2 BK204;have hfz10_0:=bf BK204 0;have hfz10_1:=bf BK204 1;have hfz10_2:=bf BK204 2;obtain ⟨Ao11,co11,eo11⟩:=Kd.R_slice HO203.out;subst eo11) | ((with_reducible refine gate_callee (f:=45) rfl ?_);refine goesL_ (some 7) rfl rfl Try.func45 (by kernel_rfl) rfl #[.pointer (some ⟨g,0,none⟩),.int .i64 8] rfl ml ?_;(with_reducible refine (spec_l1Below.calls g s0_0 s0_1 s0_2 8 t205 t206 t207 w0 _ ?side1 ?side2 A3.out).mono ?_);(case side1=>repeat (first | (with_reducible first | exact HI0.out | apply IsS83.alloc | apply IsS83.drewN | apply IsS83.drew | apply IsS83.set_1 | apply IsS83.set_2 | refine IsS83.far ?_ NB0_196.out _ | refine IsS83.far ?_ NB0_204.out _) | exact HI0.out));(case side2=>repeat (first | (with_reducible first | exact HB.out | apply below_alloc | apply pw_below_drewN | apply below_drew1 | refine below_set ?_ (IsS83.ge HI0.out) | refine below_set ?_ GE196.out | refine below_set ?_ GE204.out) | exact HB.out));rintro e w12 ⟨rfl,hi,hb,hk⟩;refine ⟨_,rfl,?_⟩;have n0_:=Az (KeepBut.blk hk (g':=gb196) (o:=.cells #[.slice none 0 0,.int .i64 0,.slice none 0 0] 26 (0,0)) (by refine ms ?_;refine blk_far ?_ NB196_204.out _;refine ms ?_;refine blk_far ?_ NB196_204.out _;refine ms ?_;refine blk_far ?_ NB196_204.out _;refine ms ?_;exact BK196.out) NB196_0.out (by simp));have n1_:=Az (Kd.R_mono (Kd.R_keep (IsS83.apart (show IsS83 w0 _ g s0_0 s0_1 s0_2 from mi83 HI0) (by (with_reducible repeat (first | apply Kd.R_alloc | apply Kd.R_drewN | apply Kd.R_drew));exact (Kd.R_mono (Kd.R_far (Kd.R_far (Kd.R_far (Kd.R_types HO199.out BK204.out (by decide)) (fun _ hk=>hk.2) _) (fun _ hk=>hk.2) _) (fun _ hk=>hk.2) _) (fun _ h_=>h_.1))) (by decide)) hk (fun _ h=>h.2)) (fun _ h=>h.1));have n2_:=Az (Kd.R_mono (Kd.R_keep (IsS83.apart (show IsS83 w0 _ g s0_0 s0_1 s0_2 from mi83 HI0) (by (with_reducible repeat (first | apply Kd.R_alloc | apply Kd.R_drewN | apply Kd.R_drew));exact (Kd.R_mono (Kd.R_far (Kd.R_far (Kd.R_far (Kd.R_types HO203.out BK204.out (by decide)) (fun _ hk=>hk.2) _) (fun _ hk=>hk.2) _) (fun _ hk=>hk.2) _) (fun _ h_=>h_.1))) (by decide)) hk (fun _ h=>h.2)) (fun _ h=>h.1));have n3_:=Az (KeepBut.blk hk (g':=gb204) (o:=.cells #[.slice Ao7 t197.length co7,.int .i64 t200,.slice Ao11 t201.length co11] 26 (0,0)) (by refine ms ?_;refine blk_put (cs:=#[.slice Ao7 t197.length co7,.int .i64 t200,.slice none 0 0]) ?_ 2 _ rfl;refine ms ?_;refine blk_put (cs:=#[.slice Ao7 t197.length co7,.int .i64 0,.slice none 0 0]) ?_ 1 _ rfl;refine ms ?_;refine blk_put (cs:=#[.slice none 0 0,.int .i64 0,.slice none 0 0]) ?_ 0 _ rfl;refine ms ?_;exact BK204.out) NB204_0.out (by simp));have n4_:=Az (KeepBut.trans (mk HK) hk (.inl rfl));have n5_:=Az (hb);have n6_:=Az (hi);clear BK196 HO199 HO203 BK204 HK HB HI0;have BK196:=n0_;have HO199:=n1_;have HO203:=n2_;have BK204:=n3_;have HK:=n4_;have HB:=n5_;have HI0:=n6_;clear n0_ n1_ n2_ n3_ n4_ n5_ n6_;(try clear hb);(try clear hb2);(try clear hk);(try clear hi)))
 go_loopg [4] k (fun kq v4 w'=>∃ (x4_1:Int) (x1001_1:Int) (x1002_1:Int) (x205000_1:List Int) (x205001_1:Int) (x205002_1:List Int) (u205000:Value) (u205002:Value),v4 = .int .i64 x4_1 ∧ Aside0 (spec_l8Dev.l0 kq x4_1 s0_0 x1001_1 x1002_1 x205000_1 x205001_1 x205002_1 = some (r1,r2,r3,r4,r5)) ∧ Aside0 (kq ≤ k) ∧ Aside0 (Kd.R (Kd.int .i64) 3 w' w.heap.size (fun k_=>some k_ ≠ (u205002:Value).ownBlock) u205000 x205000_1) ∧ Aside0 (Kd.Q (Kd.int .i64) 3 w' w.heap.size (fun k_=>some k_ ≠ (u205000:Value).ownBlock) u205002 x205002_1) ∧ Aside0 (w'.heap[gb196]? = some (.cells #[(.slice none 0 0),.int .i64 0,(.slice none 0 0)] 26 (0,0))) ∧ Aside0 (w'.heap[gb204]? = some (.cells #[u205000,.int .i64 x205001_1,u205002] 26 (0,0))) ∧ Aside0 (IsS83 w0 w' g s0_0 x1001_1 x1002_1) ∧ Aside0 (KeepBut w w' g none) ∧ Aside0 (Below w0.heap.size w0 w'))
 case atStart=>exact ⟨(t205),(t206),(t207),(t197),(t200),(t201),(.slice Ao7 t197.length co7),(.slice Ao11 t201.length co11),(by first | rfl | (simp;done) | (simp [*];done)),H',⟨Nat.le_refl _⟩,⟨mr HO199⟩,⟨Kd.Q_of_R (mr HO203)⟩,⟨mz BK196⟩,⟨mz BK204⟩,⟨mi83 HI0⟩,⟨mk HK⟩,⟨by repeat (first | (with_reducible first | exact HB.out | apply below_alloc | apply pw_below_drewN | apply below_drew1 | refine below_set ?_ (IsS83.ge HI0.out) | refine below_set ?_ GE196.out | refine below_set ?_ GE204.out) | exact HB.out)⟩⟩
 case round =>
  clear H'
  try clear hcz10_0
  try clear hcz10_1
  try clear hcz10_2
  try clear hfz10_0
  try clear hfz10_1
  try clear hfz10_2
  obtain ⟨x4_1,x1001_1,x1002_1,x205000_1,x205001_1,x205002_1,u205000,u205002,rfl,HA,HK1,HO_205000,HO_205002,BK196,BK204,HI0,HK,HB⟩:=hrel
  cases gk with
  | zero=>exact absurd HA.out (by simp [spec_l8Dev.l0])
  | succ k1 =>
   have H:=HA.out
   clear HA
   simp only [spec_l8Dev.l0] at H
   by_cases c13:x4_1 > 0
   ·rw [if_pos c13] at H
    have c13b0:decide (0 < x4_1) = true:=decide_eq_true c13
    clear c13
    replace H:=Option.bind_eq_some_iff.mp H
    obtain ⟨⟨t208,t209,t210⟩,A140,H⟩:=H
    replace H:((spec_l1Below.f s0_0 t209 t210 6).bind fun bt211=>((spec_l4Value.f s0_0 bt211.2.1 bt211.2.2 2).bind fun bt214=>((spec_DevDo.f k1 x205000_1 x205001_1 x205002_1 (!t208) (wrap64 (4 * bt211.1)) bt214.1).bind fun bt217=>(spec_l8Dev.l0 k1 (wrap64 (x4_1 - 1)) s0_0 bt214.2.1 bt214.2.2 bt217.1 bt217.2.1 bt217.2.2.1)))) = some (r1,r2,r3,r4,r5):=H
    have A14:=Aside0.mk A140
    clear A140
    replace H:=Option.bind_eq_some_iff.mp H
    obtain ⟨⟨t211,t212,t213⟩,A150,H⟩:=H
    replace H:((spec_l4Value.f s0_0 t212 t213 2).bind fun bt214=>((spec_DevDo.f k1 x205000_1 x205001_1 x205002_1 (!t208) (wrap64 (4 * t211)) bt214.1).bind fun bt217=>(spec_l8Dev.l0 k1 (wrap64 (x4_1 - 1)) s0_0 bt214.2.1 bt214.2.2 bt217.1 bt217.2.1 bt217.2.2.1))) = some (r1,r2,r3,r4,r5):=H
    have A15:=Aside0.mk A150
    clear A150
    replace H:=Option.bind_eq_some_iff.mp H
    obtain ⟨⟨t214,t215,t216⟩,A160,H⟩:=H
    replace H:((spec_DevDo.f k1 x205000_1 x205001_1 x205002_1 (!t208) (wrap64 (4 * t211)) t214).bind fun bt217=>(spec_l8Dev.l0 k1 (wrap64 (x4_1 - 1)) s0_0 t215 t216 bt217.1 bt217.2.1 bt217.2.2.1)) = some (r1,r2,r3,r4,r5):=H
    have A16:=Aside0.mk A160
    clear A160
    replace H:=Option.bind_eq_some_iff.mp H
    obtain ⟨⟨t217,t220,t221,t224,t225⟩,A170,H⟩:=H
    replace H:(spec_l8Dev.l0 k1 (wrap64 (x4_1 - 1)) s0_0 t215 t216 t217 t220 t221) = some (r1,r2,r3,r4,r5):=H
    have A17:=Aside0.mk A170
    clear A170
    have H':=Aside0.mk H
    clear H
    try go_wp2
    have n0_:=Az (Kd.R_drew HO_205000.out)
    have n1_:=Az (Kd.Q_drew HO_205002.out)
    have n2_:=Az (blk_drew BK196.out)
    have n3_:=Az (blk_drew BK204.out)
    have n4_:=Az (IsS83.drew HI0.out)
    have n5_:=Az (keep_drew HK.out)
    have n6_:=Az (below_drew1 HB.out)
    clear HO_205000 HO_205002 BK196 BK204 HI0 HK HB
    have HO_205000:=n0_
    have HO_205002:=n1_
    have BK196:=n2_
    have BK204:=n3_
    have HI0:=n4_
    have HK:=n5_
    have HB:=n6_
    clear n0_ n1_ n2_ n3_ n4_ n5_ n6_
    refine start_ (n:=15) (S:=fun w'=>w'.cell? ⟨gb204,0,none⟩ = some (u205000) ∧ w'.cell? ⟨gb204,1,none⟩ = some (.int .i64 x205001_1) ∧ w'.cell? ⟨gb204,2,none⟩ = some (u205002)) (ds:=[14]) #[false,false,false,false,false,false,false,false,false,false,false,false,false,false,false] (by kernel_rfl) rfl rfl ⟨(blk_cell BK204.out 0).trans rfl,(blk_cell BK204.out 1).trans rfl,(blk_cell BK204.out 2).trans rfl⟩ (fun hHeld=>?_);refine with_tabW spec_l8Dev.tab5 spec_l8Dev.bits5 (fun HT_ HW_=>?_)
    generalize wr.drew = w18 at HO_205000 HO_205002 BK196 BK204 HI0 HK HB hHeld ⊢
    refine pure_ (i:=1) (N:=some 14) (v:=?_) (a':=?_) #[false,true,false,false,false,false,false,false,false,false,false,false,false,false,false] rfl rfl (any_of HT_.out (by kernel_rfl)) (fun _ _ _ h=>h) (Or.inl ⟨by rfl,?_⟩) ?_ ?_
    rotate_left
    ·intro w'
     go_simp
     with_reducible rfl
    rotate_left
    ·simp only [Act.put,List.setIfInBounds_toArray,List.set_cons_zero,List.set_cons_succ,i64_w,i32_w]
     rfl
    refine pure_ (i:=4) (N:=some 17) (v:=?_) (a':=?_) #[false,true,false,false,true,false,false,false,false,false,false,false,false,false,false] rfl rfl (any_of HT_.out (by kernel_rfl)) (fun _ _ _ h=>h) (Or.inl ⟨by rfl,?_⟩) ?_ ?_
    rotate_left
    ·intro w'
     go_simp
     with_reducible rfl
    rotate_left
    ·simp only [Act.put,List.setIfInBounds_toArray,List.set_cons_zero,List.set_cons_succ,i64_w,i32_w]
     rfl
    refine pure_ (i:=7) (N:=some 20) (v:=?_) (a':=?_) #[false,true,false,false,true,false,false,true,false,false,false,false,false,false,false] rfl rfl (any_of HT_.out (by kernel_rfl)) (fun _ _ _ h=>h) (Or.inl ⟨by rfl,?_⟩) ?_ ?_
    rotate_left
    ·intro w'
     go_simp
     with_reducible rfl
    rotate_left
    ·simp only [Act.put,List.setIfInBounds_toArray,List.set_cons_zero,List.set_cons_succ,i64_w,i32_w]
     rfl
    refine take_ (i:=0) (N:=some 13) (v:=?_) (a':=?_) #[true,true,false,false,true,false,false,true,false,false,false,false,false,false,false] rfl rfl (take_ofW HT_.out HW_.out (by kernel_rfl)) (fun _ _ _ h=>h) (Or.inl ⟨by rfl,?_⟩) hHeld ?_ ?_
    rotate_left
    ·rintro w' ⟨s0,s1,s2⟩
     go_simp
     with_reducible rfl
    rotate_left
    ·simp only [Act.put,List.setIfInBounds_toArray,List.set_cons_zero,List.set_cons_succ,i64_w,i32_w]
     rfl
    refine one_ (i:=2) (N:=some 15) #[true,true,true,false,true,false,false,true,false,false,false,false,false,false,false] rfl rfl (one_of HT_.out (by kernel_rfl)) (by decide) (fun K hK=>?_)
    refine goes_ Try.func46 (by kernel_rfl) rfl #[.pointer (some ⟨g,0,none⟩),.int .i64 4] (by rfl) rfl rfl ml ?_
    with_reducible refine (spec_l1Once.calls g s0_0 x1001_1 x1002_1 4 t208 t209 t210 w0 _ ?side1 ?side2 A14.out).mono ?_
    (case side1=>repeat (first | (with_reducible first | exact HI0.out | apply IsS83.alloc | apply IsS83.drewN | apply IsS83.drew | apply IsS83.set_1 | apply IsS83.set_2 | refine IsS83.far ?_ NB0_196.out _ | refine IsS83.far ?_ NB0_204.out _) | exact HI0.out))
    (case side2=>repeat (first | (with_reducible first | exact HB.out | apply below_alloc | apply pw_below_drewN | apply below_drew1 | refine below_set ?_ (IsS83.ge HI0.out) | refine below_set ?_ GE196.out | refine below_set ?_ GE204.out) | exact HB.out))
    rintro e w19 ⟨rfl,hi,hb,hk⟩
    refine ⟨_,rfl,?_⟩
    have n0_:=Az (Kd.R_mono (Kd.R_keep (IsS83.apart (show IsS83 w0 _ g s0_0 x1001_1 x1002_1 from mi83 HI0) (mr HO_205000) (by decide)) hk (fun _ h=>h.2)) (fun _ h=>h.1))
    have n1_:=Az (Kd.Q_mono (Kd.Q_keep (IsS83.apartQ (show IsS83 w0 _ g s0_0 x1001_1 x1002_1 from mi83 HI0) (mq HO_205002) (by decide)) hk (fun _ h=>h.2)) (fun _ h=>h.1))
    have n2_:=Az (KeepBut.blk hk (g':=gb196) (o:=.cells #[.slice none 0 0,.int .i64 0,.slice none 0 0] 26 (0,0)) (mz BK196) NB196_0.out (by simp))
    have n3_:=Az (KeepBut.blk hk (g':=gb204) (o:=.cells #[u205000,.int .i64 x205001_1,u205002] 26 (0,0)) (mz BK204) NB204_0.out (by simp))
    have n4_:=Az (KeepBut.trans (mk HK) hk (.inl rfl))
    have n5_:=Az (hb)
    have n6_:=Az (hi)
    clear HO_205000 HO_205002 BK196 BK204 HK HB HI0
    have HO_205000:=n0_
    have HO_205002:=n1_
    have BK196:=n2_
    have BK204:=n3_
    have HK:=n4_
    have HB:=n5_
    have HI0:=n6_
    clear n0_ n1_ n2_ n3_ n4_ n5_ n6_
    (try clear hb)
    (try clear hb2)
    (try clear hk)
    (try clear hi)
    refine hK.out _ _ ⟨(blk_cell BK204.out 0).trans rfl,(blk_cell BK204.out 1).trans rfl,(blk_cell BK204.out 2).trans rfl⟩ (fun hHeld=>?_)
    clear hK K
    refine norm_ (a':=?_) ?_ ?_
    rotate_left
    ·show Act.put _ (some 15) _ = _
     simp only [Act.put,List.setIfInBounds_toArray,List.set_cons_zero,List.set_cons_succ,i64_w,i32_w]
     rfl
    refine pure_ (i:=3) (N:=some 16) (v:=?_) (a':=?_) #[true,true,true,true,true,false,false,true,false,false,false,false,false,false,false] rfl rfl (any_of HT_.out (by kernel_rfl)) (fun _ _ _ h=>h) (Or.inl ⟨by rfl,?_⟩) ?_ ?_
    rotate_left
    ·intro w'
     go_simp
     with_reducible rfl
    rotate_left
    ·simp only [Act.put,List.setIfInBounds_toArray,List.set_cons_zero,List.set_cons_succ,i64_w,i32_w]
     rfl
    refine one_ (i:=5) (N:=some 18) #[true,true,true,true,true,true,false,true,false,false,false,false,false,false,false] rfl rfl (one_of HT_.out (by kernel_rfl)) (by decide) (fun K hK=>?_)
    refine goes_ Try.func45 (by kernel_rfl) rfl #[.pointer (some ⟨g,0,none⟩),.int .i64 6] (by rfl) rfl rfl ml ?_
    with_reducible refine (spec_l1Below.calls g s0_0 t209 t210 6 t211 t212 t213 w0 _ ?side1 ?side2 A15.out).mono ?_
    (case side1=>repeat (first | (with_reducible first | exact HI0.out | apply IsS83.alloc | apply IsS83.drewN | apply IsS83.drew | apply IsS83.set_1 | apply IsS83.set_2 | refine IsS83.far ?_ NB0_196.out _ | refine IsS83.far ?_ NB0_204.out _) | exact HI0.out))
    (case side2=>repeat (first | (with_reducible first | exact HB.out | apply below_alloc | apply pw_below_drewN | apply below_drew1 | refine below_set ?_ (IsS83.ge HI0.out) | refine below_set ?_ GE196.out | refine below_set ?_ GE204.out) | exact HB.out))
    rintro e w20 ⟨rfl,hi,hb,hk⟩
    refine ⟨_,rfl,?_⟩
    have n0_:=Az (Kd.R_mono (Kd.R_keep (IsS83.apart (show IsS83 w0 _ g s0_0 t209 t210 from mi83 HI0) (mr HO_205000) (by decide)) hk (fun _ h=>h.2)) (fun _ h=>h.1))
    have n1_:=Az (Kd.Q_mono (Kd.Q_keep (IsS83.apartQ (show IsS83 w0 _ g s0_0 t209 t210 from mi83 HI0) (mq HO_205002) (by decide)) hk (fun _ h=>h.2)) (fun _ h=>h.1))
    have n2_:=Az (KeepBut.blk hk (g':=gb196) (o:=.cells #[.slice none 0 0,.int .i64 0,.slice none 0 0] 26 (0,0)) (mz BK196) NB196_0.out (by simp))
    have n3_:=Az (KeepBut.blk hk (g':=gb204) (o:=.cells #[u205000,.int .i64 x205001_1,u205002] 26 (0,0)) (mz BK204) NB204_0.out (by simp))
    have n4_:=Az (KeepBut.trans (mk HK) hk (.inl rfl))
    have n5_:=Az (hb)
    have n6_:=Az (hi)
    clear HO_205000 HO_205002 BK196 BK204 HK HB HI0
    have HO_205000:=n0_
    have HO_205002:=n1_
    have BK196:=n2_
    have BK204:=n3_
    have HK:=n4_
    have HB:=n5_
    have HI0:=n6_
    clear n0_ n1_ n2_ n3_ n4_ n5_ n6_
    (try clear hb)
    (try clear hb2)
    (try clear hk)
    (try clear hi)
    refine hK.out _ _ ⟨(blk_cell BK204.out 0).trans rfl,(blk_cell BK204.out 1).trans rfl,(blk_cell BK204.out 2).trans rfl⟩ (fun hHeld=>?_)
    clear hK K
    refine norm_ (a':=?_) ?_ ?_
    rotate_left
    ·show Act.put _ (some 18) _ = _
     simp only [Act.put,List.setIfInBounds_toArray,List.set_cons_zero,List.set_cons_succ,i64_w,i32_w]
     rfl
    refine pure_ (i:=6) (N:=some 19) (v:=?_) (a':=?_) #[true,true,true,true,true,true,true,true,false,false,false,false,false,false,false] rfl rfl (any_of HT_.out (by kernel_rfl)) (fun _ _ _ h=>h) (Or.inl ⟨by rfl,?_⟩) ?_ ?_
    rotate_left
    ·intro w'
     go_simp
     with_reducible rfl
    rotate_left
    ·simp only [Act.put,List.setIfInBounds_toArray,List.set_cons_zero,List.set_cons_succ,i64_w,i32_w]
     rfl
    refine one_ (i:=8) (N:=some 21) #[true,true,true,true,true,true,true,true,true,false,false,false,false,false,false] rfl rfl (one_of HT_.out (by kernel_rfl)) (by decide) (fun K hK=>?_)
    refine goes_ Try.func48 (by kernel_rfl) rfl #[.pointer (some ⟨g,0,none⟩),.int .i64 2] (by rfl) rfl rfl ml ?_
    with_reducible refine (spec_l4Value.calls g s0_0 t212 t213 2 t214 t215 t216 w0 _ ?side1 ?side2 A16.out).mono ?_
    (case side1=>repeat (first | (with_reducible first | exact HI0.out | apply IsS83.alloc | apply IsS83.drewN | apply IsS83.drew | apply IsS83.set_1 | apply IsS83.set_2 | refine IsS83.far ?_ NB0_196.out _ | refine IsS83.far ?_ NB0_204.out _) | exact HI0.out))
    (case side2=>repeat (first | (with_reducible first | exact HB.out | apply below_alloc | apply pw_below_drewN | apply below_drew1 | refine below_set ?_ (IsS83.ge HI0.out) | refine below_set ?_ GE196.out | refine below_set ?_ GE204.out) | exact HB.out))
    rintro e w21 ⟨rfl,hi,hb,hk⟩
    refine ⟨_,rfl,?_⟩
    have n0_:=Az (Kd.R_mono (Kd.R_keep (IsS83.apart (show IsS83 w0 _ g s0_0 t212 t213 from mi83 HI0) (mr HO_205000) (by decide)) hk (fun _ h=>h.2)) (fun _ h=>h.1))
    have n1_:=Az (Kd.Q_mono (Kd.Q_keep (IsS83.apartQ (show IsS83 w0 _ g s0_0 t212 t213 from mi83 HI0) (mq HO_205002) (by decide)) hk (fun _ h=>h.2)) (fun _ h=>h.1))
    have n2_:=Az (KeepBut.blk hk (g':=gb196) (o:=.cells #[.slice none 0 0,.int .i64 0,.slice none 0 0] 26 (0,0)) (mz BK196) NB196_0.out (by simp))
    have n3_:=Az (KeepBut.blk hk (g':=gb204) (o:=.cells #[u205000,.int .i64 x205001_1,u205002] 26 (0,0)) (mz BK204) NB204_0.out (by simp))
    have n4_:=Az (KeepBut.trans (mk HK) hk (.inl rfl))
    have n5_:=Az (hb)
    have n6_:=Az (hi)
    clear HO_205000 HO_205002 BK196 BK204 HK HB HI0
    have HO_205000:=n0_
    have HO_205002:=n1_
    have BK196:=n2_
    have BK204:=n3_
    have HK:=n4_
    have HB:=n5_
    have HI0:=n6_
    clear n0_ n1_ n2_ n3_ n4_ n5_ n6_
    (try clear hb)
    (try clear hb2)
    (try clear hk)
    (try clear hi)
    obtain ⟨Ao22,co22,eo22⟩:=Kd.R_slice HO_205000.out
    (first | subst eo22 | (injection eo22 with f1_ f2_ f3_;have f4_:=f1_.symm;have f5_:=f3_.symm;clear f1_ f2_ f3_;subst f4_;subst f5_))
    obtain ⟨Ao23,co23,eo23,_⟩:=Kd.Q_slice HO_205002.out
    (first | subst eo23 | (injection eo23 with f1_ f2_ f3_;have f4_:=f1_.symm;have f5_:=f3_.symm;clear f1_ f2_ f3_;subst f4_;subst f5_))
    refine hK.out _ _ ⟨(blk_cell BK204.out 0).trans rfl,(blk_cell BK204.out 1).trans rfl,(blk_cell BK204.out 2).trans rfl⟩ (fun hHeld=>?_)
    clear hK K
    refine norm_ (a':=?_) ?_ ?_
    rotate_left
    ·show Act.put _ (some 21) _ = _
     simp only [Act.put,List.setIfInBounds_toArray,List.set_cons_zero,List.set_cons_succ,i64_w,i32_w]
     rfl
    refine one_ (i:=9) (N:=some 22) #[true,true,true,true,true,true,true,true,true,true,false,false,false,false,false] rfl rfl (one_of HT_.out (by kernel_rfl)) (by decide) (fun K hK=>?_)
    refine goes_ Try.func42 (by kernel_rfl) rfl #[.agg #[.slice Ao22 x205000_1.length co22,.int .i64 x205001_1,.slice Ao23 x205002_1.length co23],.bool (!t208),.int .i64 (wrap64 (4 * t211)),.int .i64 t214] (by rfl) rfl rfl ml ?_
    with_reducible refine (spec_DevDo.calls k1 _ _ x205000_1 x205001_1 _ _ x205002_1 (!t208) (wrap64 (4 * t211)) t214 t217 t220 t221 t224 t225 _ ?side1 ?side2 ?side3 ?side4 A17.out).mono ?_
    (case side1=>exact mc (Kd.R_reads' HO_205000.out).2.2)
    (case side2=>exact (Kd.R_reads' HO_205000.out).2.1)
    (case side3=>exact mc (Kd.Q_reads' HO_205002.out).2.2)
    (case side4=>exact (Kd.Q_reads' HO_205002.out).2.1)
    rintro e w24 ⟨v218,v222,rfl,ho0,ho1,hb⟩
    refine ⟨_,rfl,?_⟩
    have n0_:=Az (Kd.R_mono (Kd.R_told (Kd.R_told (Kd.R_old (mr HO_205000) hb) (Kd.R_base ho0)) (Kd.Q_base ho1)) (fun _ h_=>h_.1))
    have n1_:=Az (Kd.Q_mono (Kd.Q_told (Kd.Q_told (Kd.Q_old (mq HO_205002) hb) (Kd.R_base ho0)) (Kd.Q_base ho1)) (fun _ h_=>h_.1))
    have n2_:=Az (Kd.R_lower (Kd.R_new' (Kd.R_new' ho0 (Kd.R_lt (mr HO_205000))) (Kd.Q_lt (mq HO_205002))) (keep_size (w:=w) (g:=g) (row:=none) (mk HK)))
    have n3_:=Az (Kd.Q_lower (Kd.Q_new' (Kd.Q_new' ho1 (Kd.R_lt (mr HO_205000))) (Kd.Q_lt (mq HO_205002))) (keep_size (w:=w) (g:=g) (row:=none) (mk HK)))
    have n4_:=Az (blk_below (mz BK196) hb)
    have n5_:=Az (blk_below (mz BK204) hb)
    have n6_:=Az (IsS83.below (mi83 HI0) hb)
    have n7_:=Az (KeepBut.trans (mk HK) (KeepBut.of_below hb g none) (.inl rfl))
    have n8_:=Az (below_step (by repeat (first | (with_reducible first | exact HB.out | apply below_alloc | apply pw_below_drewN | apply below_drew1 | refine below_set ?_ (IsS83.ge HI0.out) | refine below_set ?_ GE196.out | refine below_set ?_ GE204.out) | exact HB.out)) hb)
    clear HO_205000 HO_205002 BK196 BK204 HI0 HK HB
    have HO_205000:=n0_
    have HO_205002:=n1_
    have HO219:=n2_
    have HO223:=n3_
    have BK196:=n4_
    have BK204:=n5_
    have HI0:=n6_
    have HK:=n7_
    have HB:=n8_
    clear n0_ n1_ n2_ n3_ n4_ n5_ n6_ n7_ n8_
    (try clear hb)
    (try clear hb2)
    (try clear hk)
    (try clear hi)
    (try clear ho0)
    (try clear ho1)
    obtain ⟨Ao25,co25,eo25⟩:=Kd.R_slice HO219.out
    (first | subst eo25 | (injection eo25 with f1_ f2_ f3_;have f4_:=f1_.symm;have f5_:=f3_.symm;clear f1_ f2_ f3_;subst f4_;subst f5_))
    obtain ⟨Ao28,co28,eo28,_⟩:=Kd.Q_slice HO223.out
    (first | subst eo28 | (injection eo28 with f1_ f2_ f3_;have f4_:=f1_.symm;have f5_:=f3_.symm;clear f1_ f2_ f3_;subst f4_;subst f5_))
    refine hK.out _ _ ⟨(blk_cell BK204.out 0).trans rfl,(blk_cell BK204.out 1).trans rfl,(blk_cell BK204.out 2).trans rfl⟩ (fun hHeld=>?_)
    clear hK K
    refine norm_ (a':=?_) ?_ ?_
    rotate_left
    ·show Act.put _ (some 22) _ = _
     simp only [Act.put,List.setIfInBounds_toArray,List.set_cons_zero,List.set_cons_succ,i64_w,i32_w]
     rfl
    refine pure_ (i:=10) (N:=some 12) (v:=?_) (a':=?_) #[true,true,true,true,true,true,true,true,true,true,true,false,false,false,false] rfl rfl (any_of HT_.out (by kernel_rfl)) (fun _ _ _ h=>h) (Or.inl ⟨by rfl,?_⟩) ?_ ?_
    rotate_left
    ·intro w'
     go_simp
     with_reducible rfl
    rotate_left
    ·simp only [Act.put,List.setIfInBounds_toArray,List.set_cons_zero,List.set_cons_succ,i64_w,i32_w]
     rfl
    refine pure_ (i:=11) (N:=some 23) (v:=?_) (a':=?_) #[true,true,true,true,true,true,true,true,true,true,true,true,false,false,false] rfl rfl (any_of HT_.out (by kernel_rfl)) (fun _ _ _ h=>h) (Or.inl ⟨by rfl,?_⟩) ?_ ?_
    rotate_left
    ·intro w'
     go_simp
     with_reducible rfl
    rotate_left
    ·simp only [Act.put,List.setIfInBounds_toArray,List.set_cons_zero,List.set_cons_succ,i64_w,i32_w]
     rfl
    refine pure_ (i:=12) (N:=some 24) (v:=?_) (a':=?_) #[true,true,true,true,true,true,true,true,true,true,true,true,true,false,false] rfl rfl (any_of HT_.out (by kernel_rfl)) (fun _ _ _ h=>h) (Or.inl ⟨by rfl,?_⟩) ?_ ?_
    rotate_left
    ·intro w'
     go_simp
     with_reducible rfl
    rotate_left
    ·simp only [Act.put,List.setIfInBounds_toArray,List.set_cons_zero,List.set_cons_succ,i64_w,i32_w]
     rfl
    refine pure_ (i:=13) (N:=some 25) (v:=?_) (a':=?_) #[true,true,true,true,true,true,true,true,true,true,true,true,true,true,false] rfl rfl (any_of HT_.out (by kernel_rfl)) (fun _ _ _ h=>h) (Or.inl ⟨by rfl,?_⟩) ?_ ?_
    rotate_left
    ·intro w'
     go_simp
     with_reducible rfl
    rotate_left
    ·simp only [Act.put,List.setIfInBounds_toArray,List.set_cons_zero,List.set_cons_succ,i64_w,i32_w]
     rfl
    refine last_ (i:=14) (N:=none) #[true,true,true,true,true,true,true,true,true,true,true,true,true,true,true] rfl rfl (one_of HT_.out (by kernel_rfl)) (by decide) (fun K hK=>?_)
    have hs26:w24.cell? ⟨gb204,0,none⟩ = some (.slice Ao22 x205000_1.length co22):=(blk_cell BK204.out 0).trans rfl
    have hfs26:=blk_frozen BK204.out 0
    have hns26_0:=NB196_204.out
    have hms26_0:=NB204_196.out
    have hs27:w24.cell? ⟨gb204,1,none⟩ = some (.int .i64 x205001_1):=(blk_cell BK204.out 1).trans rfl
    have hfs27:=blk_frozen BK204.out 1
    have hns27_0:=NB196_204.out
    have hms27_0:=NB204_196.out
    have hs29:w24.cell? ⟨gb204,2,none⟩ = some (.slice Ao23 x205002_1.length co23):=(blk_cell BK204.out 2).trans rfl
    have hfs29:=blk_frozen BK204.out 2
    have hns29_0:=NB196_204.out
    have hms29_0:=NB204_196.out
    refine skip_ (w1:=?_) (by rfl) rfl ?_ ?_
    rotate_left
    ·go_simp
     rfl
    refine hK.out _ _ ?_
    clear hK K
    refine done_ (done_of HT_.out (by kernel_rfl)) ?_
    try go_wp2
    go_roundg k1
    case measure=>have:=HK1.out;omega
    case rel=>exact ⟨(wrap64 (x4_1 - 1)),(t215),(t216),(t217),(t220),(t221),(.slice Ao25 t217.length co25),(.slice Ao28 t221.length co28),(by first | rfl | (simp;done) | (simp [*];done)),H',⟨by have:=HK1.out;omega⟩,⟨by (with_reducible repeat (first | apply Kd.R_alloc | apply Kd.R_drewN | apply Kd.R_drew));exact Kd.R_mono (Kd.R_far (Kd.R_far (Kd.R_far (Kd.R_types HO219.out BK204.out (by decide)) (fun _ hk=>hk.2) _) (fun _ hk=>hk.2) _) (fun _ hk=>hk.2) _) (fun _ hk=>hk.1.1.1)⟩,⟨by (with_reducible repeat (first | apply Kd.Q_alloc | apply Kd.Q_drewN | apply Kd.Q_drew));exact Kd.Q_mono (Kd.Q_far (Kd.Q_far (Kd.Q_far (Kd.Q_types HO223.out BK204.out (by decide)) (fun _ hk=>hk.2) _) (fun _ hk=>hk.2) _) (fun _ hk=>hk.2) _) (fun _ hk=>hk.1.1.1)⟩,⟨by refine ms ?_;refine blk_far ?_ NB196_204.out _;refine ms ?_;refine blk_far ?_ NB196_204.out _;refine ms ?_;refine blk_far ?_ NB196_204.out _;refine ms ?_;exact BK196.out⟩,⟨by refine ms ?_;refine blk_put (cs:=#[.slice Ao25 t217.length co25,.int .i64 t220,.slice Ao23 x205002_1.length co23]) ?_ 2 _ rfl;refine ms ?_;refine blk_put (cs:=#[.slice Ao25 t217.length co25,.int .i64 x205001_1,.slice Ao23 x205002_1.length co23]) ?_ 1 _ rfl;refine ms ?_;refine blk_put (cs:=#[.slice Ao22 x205000_1.length co22,.int .i64 x205001_1,.slice Ao23 x205002_1.length co23]) ?_ 0 _ rfl;refine ms ?_;exact BK204.out⟩,⟨mi83 HI0⟩,⟨mk HK⟩,⟨by repeat (first | (with_reducible first | exact HB.out | apply below_alloc | apply pw_below_drewN | apply below_drew1 | refine below_set ?_ (IsS83.ge HI0.out) | refine below_set ?_ GE196.out | refine below_set ?_ GE204.out) | exact HB.out)⟩⟩
   ·rw [if_neg c13] at H
    have c13b0:decide (0 < x4_1) = false:=decide_eq_false c13
    clear c13
    simp only [Option.some.injEq,Prod.mk.injEq] at H
    obtain ⟨rfl,rfl,rfl,rfl,rfl⟩:=H
    have hnb30:=NB204_196.out
    have hnc30:=NB196_204.out
    have hnb31:=NB204_0.out
    have hnc31:=NB0_204.out
    have hcz32_0:wr.cell? ⟨gb204,0,none⟩ = some (u205000):=(blk_cell BK204.out 0).trans rfl
    have hcz32_1:wr.cell? ⟨gb204,1,none⟩ = some (.int .i64 x205001_1):=(blk_cell BK204.out 1).trans rfl
    have hcz32_2:wr.cell? ⟨gb204,2,none⟩ = some (u205002):=(blk_cell BK204.out 2).trans rfl
    have hfz32_0:=bf BK204 0
    have hfz32_1:=bf BK204 1
    have hfz32_2:=bf BK204 2
    obtain ⟨Ao33,co33,eo33⟩:=Kd.R_slice HO_205000.out
    subst eo33
    have hnb34:=NB196_0.out
    have hnc34:=NB0_196.out
    have hcz35_0:wr.cell? ⟨gb196,0,none⟩ = some (.slice none 0 0):=(blk_cell BK196.out 0).trans rfl
    have hcz35_1:wr.cell? ⟨gb196,1,none⟩ = some (.int .i64 0):=(blk_cell BK196.out 1).trans rfl
    have hcz35_2:wr.cell? ⟨gb196,2,none⟩ = some (.slice none 0 0):=(blk_cell BK196.out 2).trans rfl
    have hfz35_0:=bf BK196 0
    have hfz35_1:=bf BK196 1
    have hfz35_2:=bf BK196 2
    obtain ⟨Ao36,co36,eo36,_⟩:=Kd.Q_slice HO_205002.out
    subst eo36
    go_wp2
    refine bodyPost_ret (results_cell_row rfl _ _ gb196 26 #[.slice Ao33 x205000_1.length co33,.int .i64 x205001_1,.slice Ao36 x205002_1.length co36] (0,0) _ rfl (by refine ms ?_;refine blk_put (cs:=#[.slice Ao33 x205000_1.length co33,.int .i64 x205001_1,.slice none 0 0]) ?_ 2 _ rfl;refine ms ?_;refine blk_put (cs:=#[.slice Ao33 x205000_1.length co33,.int .i64 0,.slice none 0 0]) ?_ 1 _ rfl;refine ms ?_;refine blk_put (cs:=#[.slice none 0 0,.int .i64 0,.slice none 0 0]) ?_ 0 _ rfl;refine ms ?_;exact BK196.out) Try.underlying26 rfl (by kernel_rfl)) rfl ?_
    exact ⟨_,_,by first | rfl | (simp [errW_none,errW_some] <;> rfl) | (simp [*,errW_none,errW_some] <;> rfl),by (with_reducible repeat (first | apply Kd.R_alloc | apply Kd.R_drewN | apply Kd.R_drew));exact Kd.R_mono (Kd.R_far (Kd.R_far (Kd.R_far (Kd.R_types HO_205000.out BK196.out (by decide)) (fun _ hk=>hk.2) _) (fun _ hk=>hk.2) _) (fun _ hk=>hk.2) _) (fun _ hk=>hk.1),by (with_reducible repeat (first | apply Kd.Q_alloc | apply Kd.Q_drewN | apply Kd.Q_drew));exact Kd.Q_mono (Kd.Q_far (Kd.Q_far (Kd.Q_far (Kd.Q_types HO_205002.out BK196.out (by decide)) (fun _ hk=>hk.2) _) (fun _ hk=>hk.2) _) (fun _ hk=>hk.2) _) (fun _ hk=>hk.1),mi83 HI0,by repeat (first | (with_reducible first | exact HB.out | apply below_alloc | apply pw_below_drewN | apply below_drew1 | refine below_set ?_ (IsS83.ge HI0.out) | refine below_set ?_ GE196.out | refine below_set ?_ GE204.out) | exact HB.out),mk HK⟩
end Go.Proofs.Ythikbgjlcdkoaaa.MFnModels

