-- Written for this claim by a program of the session (wip/mk.py) over the kit's print.
import Derived.Test.YthikbgjlcdkoaaaMFnModelsx0
import Derived.Test.YthikbgjlcdkoaaaMFnModelsx1
import Derived.Test.YthikbgjlcdkoaaaMFnModelsx4
namespace Go.Proofs.Ythikbgjlcdkoaaa.MFnModels
open Go.RowKit Go.Proofs.YthikbgjlcdkoaaaW.PrintWords Go.Proofs.YthikbgjlcdkoaaaW.PrintLast Go.Proofs.YthikbgjlcdkoaaaW.PrintMore
attribute [local go_sem] max2_int min2_int max_two min_two max_three min_three max_four min_four
set_option linter.unusedVariables false
set_option linter.unusedSimpArgs false
def spec_l8Any.l0:Nat → List Int → Int → Int → List Int → Int → List Int → Option (List Int × Int × List Int × Int × Int)
 | 0,_,_,_,_,_,_=>none
 | k + 1,x1000,x1001,x1002,x237000,x237001,x237002=>(spec_l1Below.f x1000 x1001 x1002 2).bind fun bt249=>(if (x237002.length:Int) < (wrap64 (4 + bt249.1)) then (if x237002.length < 17592186044416 then (spec_l8Any.l0 k x1000 bt249.2.1 bt249.2.2 x237000 x237001 (x237002 ++ [1])) else (none)) else (some (x237000,x237001,x237002,bt249.2.1,bt249.2.2)))
def spec_l8Any.f (k:Nat) (s0_0:List Int) (s0_1:Int) (s0_2:Int):Option (List Int × Int × List Int × Int × Int):=(spec_l8Dev.f k s0_0 s0_1 s0_2).bind fun bt227=>((spec_l1Below.f s0_0 bt227.2.2.2.1 bt227.2.2.2.2 12).bind fun bt237=>(if bt237.1 = 0 then ((spec_l1PickInt.f s0_0 bt237.2.1 bt237.2.2 (([(-1),4294967295,4294967296]:List Int))).bind fun bt243=>(some (bt227.1,bt243.1,bt227.2.2.1,bt243.2.1,bt243.2.2))) else (if bt237.1 = 1 then (if 1 ≤ (bt227.1.length:Int) then (some ((bt227.1.drop (1:Int).toNat),bt227.2.1,bt227.2.2.1,bt237.2.1,bt237.2.2)) else (none)) else (if bt237.1 = 2 then (spec_l8Any.l0 k s0_0 bt237.2.1 bt237.2.2 bt227.1 bt227.2.1 bt227.2.2.1) else (some (bt227.1,bt227.2.1,bt227.2.2.1,bt237.2.1,bt237.2.2))))))
set_option maxHeartbeats 8000000 in
set_option maxRecDepth 100000 in
theorem spec_l8Any.calls (k:Nat) (g:Nat) (s0_0:List Int) (s0_1:Int) (s0_2:Int) (r1:List Int) (r2:Int) (r3:List Int) (r4:Int) (r5:Int) (w0 w:World) (hI:IsS83 w0 w g s0_0 s0_1 s0_2) (hB:Below w0.heap.size w0 w) (h:spec_l8Any.f k s0_0 s0_1 s0_2 = some (r1,r2,r3,r4,r5)) :
  Calls Try.prog 74 #[.pointer (some ⟨g,0,none⟩)] w fun e w'=>∃ v0_ v2_:Value,e = .returned (.agg #[v0_,.int .i64 r2,v2_]) ∧ Kd.Q (Kd.int .i64) 3 w' w.heap.size (fun k_=>some k_ ≠ (v2_:Value).ownBlock) v0_ r1 ∧ Kd.Q (Kd.int .i64) 3 w' w.heap.size (fun k_=>some k_ ≠ (v0_:Value).ownBlock) v2_ r3 ∧ IsS83 w0 w' g s0_0 r4 r5 ∧ Below w0.heap.size w0 w' ∧ KeepBut w w' g none:=by
 have hu26:=Try.underlying26
 have HI0:=Aside0.mk hI
 have HK:=Az (KeepBut.refl w g none)
 have HL:=Aside0.mk hB.size
 clear hI
 have HW0:=Aside0.mk hB.size
 have HB:=Aside0.mk hB
 clear hB
 have H:((spec_l8Dev.f k s0_0 s0_1 s0_2).bind fun bt227=>((spec_l1Below.f s0_0 bt227.2.2.2.1 bt227.2.2.2.2 12).bind fun bt237=>(if bt237.1 = 0 then ((spec_l1PickInt.f s0_0 bt237.2.1 bt237.2.2 (([(-1),4294967295,4294967296]:List Int))).bind fun bt243=>(some (bt227.1,bt243.1,bt227.2.2.1,bt243.2.1,bt243.2.2))) else (if bt237.1 = 1 then (if 1 ≤ (bt227.1.length:Int) then (some ((bt227.1.drop (1:Int).toNat),bt227.2.1,bt227.2.2.1,bt237.2.1,bt237.2.2)) else (none)) else (if bt237.1 = 2 then (spec_l8Any.l0 k s0_0 bt237.2.1 bt237.2.2 bt227.1 bt227.2.1 bt227.2.2.1) else (some (bt227.1,bt227.2.1,bt227.2.2.1,bt237.2.1,bt237.2.2))))))) = some (r1,r2,r3,r4,r5):=h
 clear h
 replace H:=Option.bind_eq_some_iff.mp H
 obtain ⟨⟨t227,t230,t231,t234,t235⟩,A20,H⟩:=H
 replace H:((spec_l1Below.f s0_0 t234 t235 12).bind fun bt237=>(if bt237.1 = 0 then ((spec_l1PickInt.f s0_0 bt237.2.1 bt237.2.2 (([(-1),4294967295,4294967296]:List Int))).bind fun bt243=>(some (t227,bt243.1,t231,bt243.2.1,bt243.2.2))) else (if bt237.1 = 1 then (if 1 ≤ (t227.length:Int) then (some ((t227.drop (1:Int).toNat),t230,t231,bt237.2.1,bt237.2.2)) else (none)) else (if bt237.1 = 2 then (spec_l8Any.l0 k s0_0 bt237.2.1 bt237.2.2 t227 t230 t231) else (some (t227,t230,t231,bt237.2.1,bt237.2.2)))))) = some (r1,r2,r3,r4,r5):=H
 have A2:=Aside0.mk A20
 clear A20
 replace H:=Option.bind_eq_some_iff.mp H
 obtain ⟨⟨t237,t238,t239⟩,A30,H⟩:=H
 replace H:(if t237 = 0 then ((spec_l1PickInt.f s0_0 t238 t239 (([(-1),4294967295,4294967296]:List Int))).bind fun bt243=>(some (t227,bt243.1,t231,bt243.2.1,bt243.2.2))) else (if t237 = 1 then (if 1 ≤ (t227.length:Int) then (some ((t227.drop (1:Int).toNat),t230,t231,t238,t239)) else (none)) else (if t237 = 2 then (spec_l8Any.l0 k s0_0 t238 t239 t227 t230 t231) else (some (t227,t230,t231,t238,t239))))) = some (r1,r2,r3,r4,r5):=H
 have A3:=Aside0.mk A30
 clear A30
 by_cases c4:t237 = 0
 ·rw [if_pos c4] at H
  have c4b0:(t237 == 0) = true:=beq_iff_eq.mpr c4
  have c4b1:(t237 != 0) = false:=bne_eq_false_iff_eq.mpr c4
  clear c4
  obtain ⟨y240,hy240⟩:∃ y_:List Int,y_ = (([(-1),4294967295,4294967296]:List Int)):=⟨_,rfl⟩
  replace H:((spec_l1PickInt.f s0_0 t238 t239 y240).bind fun bt243=>(some (t227,bt243.1,t231,bt243.2.1,bt243.2.2))) = some (r1,r2,r3,r4,r5):=by first | (rw [hy240];with_reducible exact H) | (have H2_:=(Option.bind_some _ _).symm.trans H;rw [hy240];with_reducible exact H2_) | (have H2_:=(Option.bind_some _ _).symm.trans H;with_reducible exact H2_) | with_reducible exact H | (rw [hy240];exact H) | exact H
  have Ny240:=Aside0.mk hy240
  clear hy240
  replace H:=Option.bind_eq_some_iff.mp H
  obtain ⟨⟨t243,t244,t245⟩,A50,H⟩:=H
  replace H:(some (t227,t243,t231,t244,t245)) = some (r1,r2,r3,r4,r5):=H
  have A5:=Aside0.mk A50
  clear A50
  simp only [Option.some.injEq,Prod.mk.injEq] at H
  obtain ⟨rfl,rfl,rfl,rfl,rfl⟩:=H
  go_enter Try.func74,Try.ntmps74
  go_wp2_with (first | ((with_reducible refine gate_dst (N:=2) rfl ?_);refine box_event ?hg (N:=2) ?hd (cs:=#[.slice none 0 0,.int .i64 0,.slice none 0 0]) (t:=26) ?hr ?_;(case hd=>rfl);(case hg=>rfl);(case hr=>first | (go_simp;done) | (go_simp;rfl));intro gb226 hg w6 hbox hb;have n0_:=Az (IsS83.below (mi83 HI0) hb);have n1_:=Az (KeepBut.trans (mk HK) (KeepBut.of_below hb g none) (.inl rfl));have n2_:=Az (below_step (by repeat (first | (with_reducible first | exact HB.out | apply below_alloc | apply pw_below_drewN | apply below_drew1 | refine below_set ?_ (IsS83.ge HI0.out)) | exact HB.out)) hb);have n3_:=Az (hbox);have n4_:=Az ((by rw [hg];exact (keep_size (w:=w) (g:=g) (row:=none) (mk HK)):w.heap.size ≤ gb226));have n5_:=Az ((Nat.le_trans HW0.out (by rw [hg];exact (keep_size (w:=w) (g:=g) (row:=none) (mk HK)):w.heap.size ≤ gb226):w0.heap.size ≤ gb226));have n6_:=Az ((by rw [hg];exact Nat.ne_of_lt (IsS83.lt (show IsS83 w0 _ g s0_0 s0_1 s0_2 from mi83 HI0)):g ≠ gb226));have n7_:=Az ((by rw [hg];exact Nat.ne_of_gt (IsS83.lt (show IsS83 w0 _ g s0_0 s0_1 s0_2 from mi83 HI0)):gb226 ≠ g));clear HI0 HK HB;have HI0:=n0_;have HK:=n1_;have HB:=n2_;have BK226:=n3_;have GW226:=n4_;have GE226:=n5_;have NB0_226:=n6_;have NB226_0:=n7_;clear n0_ n1_ n2_ n3_ n4_ n5_ n6_ n7_;clear hb hbox hg) | ((with_reducible refine gate_callee (f:=87) rfl ?_);refine goesL_ (some 5) rfl rfl Try.func87 (by kernel_rfl) rfl #[.pointer (some ⟨g,0,none⟩)] rfl ml ?_;(with_reducible refine (spec_l8Dev.calls k g s0_0 s0_1 s0_2 t227 t230 t231 t234 t235 w0 _ ?side1 ?side2 A2.out).mono ?_);(case side1=>repeat (first | (with_reducible first | exact HI0.out | apply IsS83.alloc | apply IsS83.drewN | apply IsS83.drew | apply IsS83.set_1 | apply IsS83.set_2 | refine IsS83.far ?_ NB0_226.out _) | exact HI0.out));(case side2=>repeat (first | (with_reducible first | exact HB.out | apply below_alloc | apply pw_below_drewN | apply below_drew1 | refine below_set ?_ (IsS83.ge HI0.out) | refine below_set ?_ GE226.out) | exact HB.out));rintro e w7 ⟨v228,v232,rfl,ho0,ho1,hi,hb,hk⟩;refine ⟨_,rfl,?_⟩;have n0_:=Az (KeepBut.blk hk (g':=gb226) (o:=.cells #[.slice none 0 0,.int .i64 0,.slice none 0 0] 26 (0,0)) (mz BK226) NB226_0.out (by simp));have n1_:=Az (Kd.R_lower ho0 (keep_size (w:=w) (g:=g) (row:=none) (mk HK)));have n2_:=Az (Kd.Q_lower ho1 (keep_size (w:=w) (g:=g) (row:=none) (mk HK)));have n3_:=Az (KeepBut.trans (mk HK) hk (.inl rfl));have n4_:=Az (hb);have n5_:=Az (hi);clear BK226 HK HB HI0;have BK226:=n0_;have HO229:=n1_;have HO233:=n2_;have HK:=n3_;have HB:=n4_;have HI0:=n5_;clear n0_ n1_ n2_ n3_ n4_ n5_;(try clear hb);(try clear hb2);(try clear hk);(try clear hi);(try clear ho0);(try clear ho1)) | ((with_reducible refine gate_dst (N:=3) rfl ?_);refine box_event ?hg (N:=3) ?hd (cs:=#[.slice none 0 0,.int .i64 0,.slice none 0 0]) (t:=26) ?hr ?_;(case hd=>rfl);(case hg=>rfl);(case hr=>first | (go_simp;done) | (go_simp;rfl));intro gb236 hg w8 hbox hb;have n0_:=Az (Kd.R_below (mr HO229) hb);have n1_:=Az (Kd.Q_below (mq HO233) hb);have n2_:=Az (IsS83.below (mi83 HI0) hb);have n3_:=Az (blk_below (mz BK226) hb);have n4_:=Az (KeepBut.trans (mk HK) (KeepBut.of_below hb g none) (.inl rfl));have n5_:=Az (below_step (by repeat (first | (with_reducible first | exact HB.out | apply below_alloc | apply pw_below_drewN | apply below_drew1 | refine below_set ?_ (IsS83.ge HI0.out) | refine below_set ?_ GE226.out) | exact HB.out)) hb);have n6_:=Az (hbox);have n7_:=Az ((by rw [hg];exact (keep_size (w:=w) (g:=g) (row:=none) (mk HK)):w.heap.size ≤ gb236));have n8_:=Az ((Nat.le_trans HW0.out (by rw [hg];exact (keep_size (w:=w) (g:=g) (row:=none) (mk HK)):w.heap.size ≤ gb236):w0.heap.size ≤ gb236));have n9_:=Az ((by rw [hg];exact Nat.ne_of_lt (blk_lt (mz BK226)):gb226 ≠ gb236));have n10_:=Az ((by rw [hg];exact Nat.ne_of_gt (blk_lt (mz BK226)):gb236 ≠ gb226));have n11_:=Az ((by rw [hg];exact Nat.ne_of_lt (IsS83.lt (show IsS83 w0 _ g s0_0 t234 t235 from mi83 HI0)):g ≠ gb236));have n12_:=Az ((by rw [hg];exact Nat.ne_of_gt (IsS83.lt (show IsS83 w0 _ g s0_0 t234 t235 from mi83 HI0)):gb236 ≠ g));clear HO229 HO233 HI0 BK226 HK HB;have HO229:=n0_;have HO233:=n1_;have HI0:=n2_;have BK226:=n3_;have HK:=n4_;have HB:=n5_;have BK236:=n6_;have GW236:=n7_;have GE236:=n8_;have NB226_236:=n9_;have NB236_226:=n10_;have NB0_236:=n11_;have NB236_0:=n12_;clear n0_ n1_ n2_ n3_ n4_ n5_ n6_ n7_ n8_ n9_ n10_ n11_ n12_ hb hbox hg;obtain ⟨Ao9,co9,eo9⟩:=Kd.R_slice HO229.out;subst eo9;have hnb10:=NB236_226.out;have hnc10:=NB226_236.out;have hnb11:=NB236_0.out;have hnc11:=NB0_236.out;have hcz12_0:=bz0 BK236;have hcz12_1:=bz1 BK236;have hcz12_2:=bz2 BK236;have hfz12_0:=bf BK236 0;have hfz12_1:=bf BK236 1;have hfz12_2:=bf BK236 2;obtain ⟨Ao13,co13,eo13,_⟩:=Kd.Q_slice HO233.out;subst eo13) | ((with_reducible refine gate_callee (f:=45) rfl ?_);refine goesL_ (some 7) rfl rfl Try.func45 (by kernel_rfl) rfl #[.pointer (some ⟨g,0,none⟩),.int .i64 12] rfl ml ?_;(with_reducible refine (spec_l1Below.calls g s0_0 t234 t235 12 t237 t238 t239 w0 _ ?side1 ?side2 A3.out).mono ?_);(case side1=>repeat (first | (with_reducible first | exact HI0.out | apply IsS83.alloc | apply IsS83.drewN | apply IsS83.drew | apply IsS83.set_1 | apply IsS83.set_2 | refine IsS83.far ?_ NB0_226.out _ | refine IsS83.far ?_ NB0_236.out _) | exact HI0.out));(case side2=>repeat (first | (with_reducible first | exact HB.out | apply below_alloc | apply pw_below_drewN | apply below_drew1 | refine below_set ?_ (IsS83.ge HI0.out) | refine below_set ?_ GE226.out | refine below_set ?_ GE236.out) | exact HB.out));rintro e w14 ⟨rfl,hi,hb,hk⟩;refine ⟨_,rfl,?_⟩;have n0_:=Az (KeepBut.blk hk (g':=gb226) (o:=.cells #[.slice none 0 0,.int .i64 0,.slice none 0 0] 26 (0,0)) (by refine ms ?_;refine blk_far ?_ NB226_236.out _;refine ms ?_;refine blk_far ?_ NB226_236.out _;refine ms ?_;refine blk_far ?_ NB226_236.out _;refine ms ?_;exact BK226.out) NB226_0.out (by simp));have n1_:=Az (Kd.R_mono (Kd.R_keep (IsS83.apart (show IsS83 w0 _ g s0_0 t234 t235 from mi83 HI0) (by (with_reducible repeat (first | apply Kd.R_alloc | apply Kd.R_drewN | apply Kd.R_drew));exact (Kd.R_mono (Kd.R_far (Kd.R_far (Kd.R_far (Kd.R_types HO229.out BK236.out (by decide)) (fun _ hk=>hk.2) _) (fun _ hk=>hk.2) _) (fun _ hk=>hk.2) _) (fun _ h_=>h_.1))) (by decide)) hk (fun _ h=>h.2)) (fun _ h=>h.1));have n2_:=Az (Kd.Q_mono (Kd.Q_keep (IsS83.apartQ (show IsS83 w0 _ g s0_0 t234 t235 from mi83 HI0) (by (with_reducible repeat (first | apply Kd.Q_alloc | apply Kd.Q_drewN | apply Kd.Q_drew));exact (Kd.Q_mono (Kd.Q_far (Kd.Q_far (Kd.Q_far (Kd.Q_types HO233.out BK236.out (by decide)) (fun _ hk=>hk.2) _) (fun _ hk=>hk.2) _) (fun _ hk=>hk.2) _) (fun _ h_=>h_.1))) (by decide)) hk (fun _ h=>h.2)) (fun _ h=>h.1));have n3_:=Az (KeepBut.blk hk (g':=gb236) (o:=.cells #[.slice Ao9 t227.length co9,.int .i64 t230,.slice Ao13 t231.length co13] 26 (0,0)) (by refine ms ?_;refine blk_put (cs:=#[.slice Ao9 t227.length co9,.int .i64 t230,.slice none 0 0]) ?_ 2 _ rfl;refine ms ?_;refine blk_put (cs:=#[.slice Ao9 t227.length co9,.int .i64 0,.slice none 0 0]) ?_ 1 _ rfl;refine ms ?_;refine blk_put (cs:=#[.slice none 0 0,.int .i64 0,.slice none 0 0]) ?_ 0 _ rfl;refine ms ?_;exact BK236.out) NB236_0.out (by simp));have n4_:=Az (KeepBut.trans (mk HK) hk (.inl rfl));have n5_:=Az (hb);have n6_:=Az (hi);clear BK226 HO229 HO233 BK236 HK HB HI0;have BK226:=n0_;have HO229:=n1_;have HO233:=n2_;have BK236:=n3_;have HK:=n4_;have HB:=n5_;have HI0:=n6_;clear n0_ n1_ n2_ n3_ n4_ n5_ n6_;(try clear hb);(try clear hb2);(try clear hk);(try clear hi)) | ((with_reducible refine gate_dst (N:=11) rfl ?_);refine Kd.R_lit (Kd.int .i64) _ 3 ?hg (N:=11) ?hd (xs:=([(-1),4294967295,4294967296]:List Int)) (inner:=[.int .i64 (-1),.int .i64 4294967295,.int .i64 4294967296]) (ok:=fun _=>True) (okp:=fun _=>True) ?hr ?hp (fun _ hk=>hk) trivial (Below.refl _ _) (Nat.le_refl _) (by simp) ?_;(case hd=>rfl);(case hg=>rfl);(case hr=>first | (go_simp;done) | (go_simp;rfl));(case hp=>exact (Reps.one (show Kd.M (Kd.int .i64) _ _ _ (-1) [.int .i64 (-1)] from rfl) (Reps.one (show Kd.M (Kd.int .i64) _ _ _ 4294967295 [.int .i64 4294967295] from rfl) (Reps.one (show Kd.M (Kd.int .i64) _ _ _ 4294967296 [.int .i64 4294967296] from rfl) (Reps.none _ _)))));intro v241 w15 ho16 hb hg_ hnew_;clear hg_ hnew_;(first | rw [← Ny240.out] at ho16 | (simp only [Int.reduceToNat] at ho16;rw [← Ny240.out] at ho16));have n0_:=Az (Kd.R_elder' (mr HO229) (Kd.R_base ho16) hb);have n1_:=Az (Kd.Q_elder' (mq HO233) (Kd.R_base ho16) hb);have n2_:=Az (Kd.R_lower (Kd.R_new' (Kd.R_new' ho16 (Kd.R_lt (mr HO229))) (Kd.Q_lt (mq HO233))) (keep_size (w:=w) (g:=g) (row:=none) (mk HK)));have n3_:=Az (IsS83.below (mi83 HI0) hb);have n4_:=Az (blk_below (mz BK226) hb);have n5_:=Az (blk_below (mz BK236) hb);have n6_:=Az (KeepBut.trans (mk HK) (KeepBut.of_below hb g none) (.inl rfl));have n7_:=Az (below_step (by repeat (first | (with_reducible first | exact HB.out | apply below_alloc | apply pw_below_drewN | apply below_drew1 | refine below_set ?_ (IsS83.ge HI0.out) | refine below_set ?_ GE226.out | refine below_set ?_ GE236.out) | exact HB.out)) hb);clear HO229 HO233 HI0 BK226 BK236 HK HB;have HO229:=n0_;have HO233:=n1_;have HO242:=n2_;have HI0:=n3_;have BK226:=n4_;have BK236:=n5_;have HK:=n6_;have HB:=n7_;clear n0_ n1_ n2_ n3_ n4_ n5_ n6_ n7_ hb ho16;obtain ⟨Ao17,co17,eo17⟩:=Kd.R_slice HO242.out;subst eo17) | ((with_reducible refine gate_callee (f:=44) rfl ?_);refine goesL_ (some 12) rfl rfl Try.func44 (by kernel_rfl) rfl #[.pointer (some ⟨g,0,none⟩),.slice Ao17 y240.length co17] rfl ml ?_;(with_reducible refine (spec_l1PickInt.calls g s0_0 t238 t239 _ _ y240 t243 t244 t245 w0 _ ?side1 ?side2 ?side3 ?side4 ?side5 A5.out).mono ?_);(case side1=>repeat (first | (with_reducible first | exact HI0.out | apply IsS83.alloc | apply IsS83.drewN | apply IsS83.drew | apply IsS83.set_1 | apply IsS83.set_2 | refine IsS83.far ?_ NB0_226.out _ | refine IsS83.far ?_ NB0_236.out _) | exact HI0.out));(case side2=>repeat (first | (with_reducible first | exact HB.out | apply below_alloc | apply pw_below_drewN | apply below_drew1 | refine below_set ?_ (IsS83.ge HI0.out) | refine below_set ?_ GE226.out | refine below_set ?_ GE236.out) | exact HB.out));(case side3=>exact mc (Kd.R_reads' HO242.out).2.2);(case side4=>exact (Kd.R_reads' HO242.out).2.1);(case side5=>exact far_slice (IsS83.own_ne HI0.out HO242.out (by decide)));rintro e w18 ⟨rfl,hi,hb,hk⟩;refine ⟨_,rfl,?_⟩;have n0_:=Az (KeepBut.blk hk (g':=gb226) (o:=.cells #[.slice none 0 0,.int .i64 0,.slice none 0 0] 26 (0,0)) (mz BK226) NB226_0.out (by simp));have n1_:=Az (Kd.R_mono (Kd.R_keep (IsS83.apart (show IsS83 w0 _ g s0_0 t238 t239 from mi83 HI0) (mr HO229) (by decide)) hk (fun _ h=>h.2)) (fun _ h=>h.1));have n2_:=Az (Kd.Q_mono (Kd.Q_keep (IsS83.apartQ (show IsS83 w0 _ g s0_0 t238 t239 from mi83 HI0) (mq HO233) (by decide)) hk (fun _ h=>h.2)) (fun _ h=>h.1));have n3_:=Az (KeepBut.blk hk (g':=gb236) (o:=.cells #[.slice Ao9 t227.length co9,.int .i64 t230,.slice Ao13 t231.length co13] 26 (0,0)) (mz BK236) NB236_0.out (by simp));have n4_:=Az (Kd.R_mono (Kd.R_keep (IsS83.apart (show IsS83 w0 _ g s0_0 t238 t239 from mi83 HI0) (mr HO242) (by decide)) hk (fun _ h=>h.2)) (fun _ h=>h.1));have n5_:=Az (KeepBut.trans (mk HK) hk (.inl rfl));have n6_:=Az (hb);have n7_:=Az (hi);clear BK226 HO229 HO233 BK236 HO242 HK HB HI0;have BK226:=n0_;have HO229:=n1_;have HO233:=n2_;have BK236:=n3_;have HO242:=n4_;have HK:=n5_;have HB:=n6_;have HI0:=n7_;clear n0_ n1_ n2_ n3_ n4_ n5_ n6_ n7_;(try clear hb);(try clear hb2);(try clear hk);(try clear hi);have hcz19_0:=bz0 BK236;have hcz19_1:=bz1 BK236;have hcz19_2:=bz2 BK236;have hfz19_0:=bf BK236 0;have hfz19_1:=bf BK236 1;have hfz19_2:=bf BK236 2;have hnb20:=NB226_0.out;have hnc20:=NB0_226.out;have hcz21_0:=bz0 BK226;have hcz21_1:=bz1 BK226;have hcz21_2:=bz2 BK226;have hfz21_0:=bf BK226 0;have hfz21_1:=bf BK226 1;have hfz21_2:=bf BK226 2))
  refine bodyPost_ret (results_cell_row rfl _ _ gb226 26 #[.slice Ao9 t227.length co9,.int .i64 t243,.slice Ao13 t231.length co13] (0,0) _ rfl (by refine ms ?_;refine blk_put (cs:=#[.slice Ao9 t227.length co9,.int .i64 t243,.slice none 0 0]) ?_ 2 _ rfl;refine ms ?_;refine blk_put (cs:=#[.slice Ao9 t227.length co9,.int .i64 0,.slice none 0 0]) ?_ 1 _ rfl;refine ms ?_;refine blk_put (cs:=#[.slice none 0 0,.int .i64 0,.slice none 0 0]) ?_ 0 _ rfl;refine ms ?_;refine blk_far ?_ NB226_236.out _;refine ms ?_;exact BK226.out) Try.underlying26 rfl (by kernel_rfl)) rfl ?_
  exact ⟨_,_,by first | rfl | (simp [errW_none,errW_some] <;> rfl) | (simp [*,errW_none,errW_some] <;> rfl),Kd.Q_of_R (by (with_reducible repeat (first | apply Kd.R_alloc | apply Kd.R_drewN | apply Kd.R_drew));exact Kd.R_mono (Kd.R_far (Kd.R_far (Kd.R_far (Kd.R_far (Kd.R_types (Kd.R_types HO229.out BK236.out (by decide)) BK226.out (by decide)) (fun _ hk=>hk.1.2) _) (fun _ hk=>hk.2) _) (fun _ hk=>hk.2) _) (fun _ hk=>hk.2) _) (fun _ hk=>hk.1.1.1)),by (with_reducible repeat (first | apply Kd.Q_alloc | apply Kd.Q_drewN | apply Kd.Q_drew));exact Kd.Q_mono (Kd.Q_far (Kd.Q_far (Kd.Q_far (Kd.Q_far (Kd.Q_types (Kd.Q_types HO233.out BK236.out (by decide)) BK226.out (by decide)) (fun _ hk=>hk.1.2) _) (fun _ hk=>hk.2) _) (fun _ hk=>hk.2) _) (fun _ hk=>hk.2) _) (fun _ hk=>hk.1.1.1),mi83 HI0,by repeat (first | (with_reducible first | exact HB.out | apply below_alloc | apply pw_below_drewN | apply below_drew1 | refine below_set ?_ (IsS83.ge HI0.out) | refine below_set ?_ GE226.out | refine below_set ?_ GE236.out) | exact HB.out),mk HK⟩
 ·rw [if_neg c4] at H
  have c4b0:(t237 == 0) = false:=beq_eq_false_iff_ne.mpr c4
  have c4b1:(t237 != 0) = true:=bne_iff_ne.mpr c4
  by_cases c22:t237 = 1
  ·rw [if_pos c22] at H
   have c22b0:(t237 == 1) = true:=beq_iff_eq.mpr c22
   have c22b1:(t237 != 1) = false:=bne_eq_false_iff_eq.mpr c22
   clear c22
   by_cases c23:1 ≤ (t227.length:Int)
   ·rw [if_pos c23] at H
    have c23b0:=eq_true c23
    have c23b1:decide (1 ≤ (t227.length:Int)) = true:=decide_eq_true c23
    clear c23
    obtain ⟨y246,hy246⟩:∃ y_:List Int,y_ = (t227.drop (1:Int).toNat):=⟨_,rfl⟩
    replace H:(some (y246,t230,t231,t238,t239)) = some (r1,r2,r3,r4,r5):=by first | (rw [hy246];with_reducible exact H) | (have H2_:=(Option.bind_some _ _).symm.trans H;rw [hy246];with_reducible exact H2_) | (have H2_:=(Option.bind_some _ _).symm.trans H;with_reducible exact H2_) | with_reducible exact H | (rw [hy246];exact H) | exact H
    have Ny246:=Aside0.mk hy246
    clear hy246
    simp only [Option.some.injEq,Prod.mk.injEq] at H
    obtain ⟨rfl,rfl,rfl,rfl,rfl⟩:=H
    go_enter Try.func74,Try.ntmps74
    go_wp2_with (first | ((with_reducible refine gate_dst (N:=2) rfl ?_);refine box_event ?hg (N:=2) ?hd (cs:=#[.slice none 0 0,.int .i64 0,.slice none 0 0]) (t:=26) ?hr ?_;(case hd=>rfl);(case hg=>rfl);(case hr=>first | (go_simp;done) | (go_simp;rfl));intro gb226 hg w24 hbox hb;have n0_:=Az (IsS83.below (mi83 HI0) hb);have n1_:=Az (KeepBut.trans (mk HK) (KeepBut.of_below hb g none) (.inl rfl));have n2_:=Az (below_step (by repeat (first | (with_reducible first | exact HB.out | apply below_alloc | apply pw_below_drewN | apply below_drew1 | refine below_set ?_ (IsS83.ge HI0.out)) | exact HB.out)) hb);have n3_:=Az (hbox);have n4_:=Az ((by rw [hg];exact (keep_size (w:=w) (g:=g) (row:=none) (mk HK)):w.heap.size ≤ gb226));have n5_:=Az ((Nat.le_trans HW0.out (by rw [hg];exact (keep_size (w:=w) (g:=g) (row:=none) (mk HK)):w.heap.size ≤ gb226):w0.heap.size ≤ gb226));have n6_:=Az ((by rw [hg];exact Nat.ne_of_lt (IsS83.lt (show IsS83 w0 _ g s0_0 s0_1 s0_2 from mi83 HI0)):g ≠ gb226));have n7_:=Az ((by rw [hg];exact Nat.ne_of_gt (IsS83.lt (show IsS83 w0 _ g s0_0 s0_1 s0_2 from mi83 HI0)):gb226 ≠ g));clear HI0 HK HB;have HI0:=n0_;have HK:=n1_;have HB:=n2_;have BK226:=n3_;have GW226:=n4_;have GE226:=n5_;have NB0_226:=n6_;have NB226_0:=n7_;clear n0_ n1_ n2_ n3_ n4_ n5_ n6_ n7_;clear hb hbox hg) | ((with_reducible refine gate_callee (f:=87) rfl ?_);refine goesL_ (some 5) rfl rfl Try.func87 (by kernel_rfl) rfl #[.pointer (some ⟨g,0,none⟩)] rfl ml ?_;(with_reducible refine (spec_l8Dev.calls k g s0_0 s0_1 s0_2 t227 t230 t231 t234 t235 w0 _ ?side1 ?side2 A2.out).mono ?_);(case side1=>repeat (first | (with_reducible first | exact HI0.out | apply IsS83.alloc | apply IsS83.drewN | apply IsS83.drew | apply IsS83.set_1 | apply IsS83.set_2 | refine IsS83.far ?_ NB0_226.out _) | exact HI0.out));(case side2=>repeat (first | (with_reducible first | exact HB.out | apply below_alloc | apply pw_below_drewN | apply below_drew1 | refine below_set ?_ (IsS83.ge HI0.out) | refine below_set ?_ GE226.out) | exact HB.out));rintro e w25 ⟨v228,v232,rfl,ho0,ho1,hi,hb,hk⟩;refine ⟨_,rfl,?_⟩;have n0_:=Az (KeepBut.blk hk (g':=gb226) (o:=.cells #[.slice none 0 0,.int .i64 0,.slice none 0 0] 26 (0,0)) (mz BK226) NB226_0.out (by simp));have n1_:=Az (Kd.R_lower ho0 (keep_size (w:=w) (g:=g) (row:=none) (mk HK)));have n2_:=Az (Kd.Q_lower ho1 (keep_size (w:=w) (g:=g) (row:=none) (mk HK)));have n3_:=Az (KeepBut.trans (mk HK) hk (.inl rfl));have n4_:=Az (hb);have n5_:=Az (hi);clear BK226 HK HB HI0;have BK226:=n0_;have HO229:=n1_;have HO233:=n2_;have HK:=n3_;have HB:=n4_;have HI0:=n5_;clear n0_ n1_ n2_ n3_ n4_ n5_;(try clear hb);(try clear hb2);(try clear hk);(try clear hi);(try clear ho0);(try clear ho1)) | ((with_reducible refine gate_dst (N:=3) rfl ?_);refine box_event ?hg (N:=3) ?hd (cs:=#[.slice none 0 0,.int .i64 0,.slice none 0 0]) (t:=26) ?hr ?_;(case hd=>rfl);(case hg=>rfl);(case hr=>first | (go_simp;done) | (go_simp;rfl));intro gb236 hg w26 hbox hb;have n0_:=Az (Kd.R_below (mr HO229) hb);have n1_:=Az (Kd.Q_below (mq HO233) hb);have n2_:=Az (IsS83.below (mi83 HI0) hb);have n3_:=Az (blk_below (mz BK226) hb);have n4_:=Az (KeepBut.trans (mk HK) (KeepBut.of_below hb g none) (.inl rfl));have n5_:=Az (below_step (by repeat (first | (with_reducible first | exact HB.out | apply below_alloc | apply pw_below_drewN | apply below_drew1 | refine below_set ?_ (IsS83.ge HI0.out) | refine below_set ?_ GE226.out) | exact HB.out)) hb);have n6_:=Az (hbox);have n7_:=Az ((by rw [hg];exact (keep_size (w:=w) (g:=g) (row:=none) (mk HK)):w.heap.size ≤ gb236));have n8_:=Az ((Nat.le_trans HW0.out (by rw [hg];exact (keep_size (w:=w) (g:=g) (row:=none) (mk HK)):w.heap.size ≤ gb236):w0.heap.size ≤ gb236));have n9_:=Az ((by rw [hg];exact Nat.ne_of_lt (blk_lt (mz BK226)):gb226 ≠ gb236));have n10_:=Az ((by rw [hg];exact Nat.ne_of_gt (blk_lt (mz BK226)):gb236 ≠ gb226));have n11_:=Az ((by rw [hg];exact Nat.ne_of_lt (IsS83.lt (show IsS83 w0 _ g s0_0 t234 t235 from mi83 HI0)):g ≠ gb236));have n12_:=Az ((by rw [hg];exact Nat.ne_of_gt (IsS83.lt (show IsS83 w0 _ g s0_0 t234 t235 from mi83 HI0)):gb236 ≠ g));clear HO229 HO233 HI0 BK226 HK HB;have HO229:=n0_;have HO233:=n1_;have HI0:=n2_;have BK226:=n3_;have HK:=n4_;have HB:=n5_;have BK236:=n6_;have GW236:=n7_;have GE236:=n8_;have NB226_236:=n9_;have NB236_226:=n10_;have NB0_236:=n11_;have NB236_0:=n12_;clear n0_ n1_ n2_ n3_ n4_ n5_ n6_ n7_ n8_ n9_ n10_ n11_ n12_ hb hbox hg;obtain ⟨Ao27,co27,eo27⟩:=Kd.R_slice HO229.out;subst eo27;have hnb28:=NB236_226.out;have hnc28:=NB226_236.out;have hnb29:=NB236_0.out;have hnc29:=NB0_236.out;have hcz30_0:=bz0 BK236;have hcz30_1:=bz1 BK236;have hcz30_2:=bz2 BK236;have hfz30_0:=bf BK236 0;have hfz30_1:=bf BK236 1;have hfz30_2:=bf BK236 2;obtain ⟨Ao31,co31,eo31,_⟩:=Kd.Q_slice HO233.out;subst eo31) | ((with_reducible refine gate_callee (f:=45) rfl ?_);refine goesL_ (some 7) rfl rfl Try.func45 (by kernel_rfl) rfl #[.pointer (some ⟨g,0,none⟩),.int .i64 12] rfl ml ?_;(with_reducible refine (spec_l1Below.calls g s0_0 t234 t235 12 t237 t238 t239 w0 _ ?side1 ?side2 A3.out).mono ?_);(case side1=>repeat (first | (with_reducible first | exact HI0.out | apply IsS83.alloc | apply IsS83.drewN | apply IsS83.drew | apply IsS83.set_1 | apply IsS83.set_2 | refine IsS83.far ?_ NB0_226.out _ | refine IsS83.far ?_ NB0_236.out _) | exact HI0.out));(case side2=>repeat (first | (with_reducible first | exact HB.out | apply below_alloc | apply pw_below_drewN | apply below_drew1 | refine below_set ?_ (IsS83.ge HI0.out) | refine below_set ?_ GE226.out | refine below_set ?_ GE236.out) | exact HB.out));rintro e w32 ⟨rfl,hi,hb,hk⟩;refine ⟨_,rfl,?_⟩;have n0_:=Az (KeepBut.blk hk (g':=gb226) (o:=.cells #[.slice none 0 0,.int .i64 0,.slice none 0 0] 26 (0,0)) (by refine ms ?_;refine blk_far ?_ NB226_236.out _;refine ms ?_;refine blk_far ?_ NB226_236.out _;refine ms ?_;refine blk_far ?_ NB226_236.out _;refine ms ?_;exact BK226.out) NB226_0.out (by simp));have n1_:=Az (Kd.R_mono (Kd.R_keep (IsS83.apart (show IsS83 w0 _ g s0_0 t234 t235 from mi83 HI0) (by (with_reducible repeat (first | apply Kd.R_alloc | apply Kd.R_drewN | apply Kd.R_drew));exact (Kd.R_mono (Kd.R_far (Kd.R_far (Kd.R_far (Kd.R_types HO229.out BK236.out (by decide)) (fun _ hk=>hk.2) _) (fun _ hk=>hk.2) _) (fun _ hk=>hk.2) _) (fun _ h_=>h_.1))) (by decide)) hk (fun _ h=>h.2)) (fun _ h=>h.1));have n2_:=Az (Kd.Q_mono (Kd.Q_keep (IsS83.apartQ (show IsS83 w0 _ g s0_0 t234 t235 from mi83 HI0) (by (with_reducible repeat (first | apply Kd.Q_alloc | apply Kd.Q_drewN | apply Kd.Q_drew));exact (Kd.Q_mono (Kd.Q_far (Kd.Q_far (Kd.Q_far (Kd.Q_types HO233.out BK236.out (by decide)) (fun _ hk=>hk.2) _) (fun _ hk=>hk.2) _) (fun _ hk=>hk.2) _) (fun _ h_=>h_.1))) (by decide)) hk (fun _ h=>h.2)) (fun _ h=>h.1));have n3_:=Az (KeepBut.blk hk (g':=gb236) (o:=.cells #[.slice Ao27 t227.length co27,.int .i64 t230,.slice Ao31 t231.length co31] 26 (0,0)) (by refine ms ?_;refine blk_put (cs:=#[.slice Ao27 t227.length co27,.int .i64 t230,.slice none 0 0]) ?_ 2 _ rfl;refine ms ?_;refine blk_put (cs:=#[.slice Ao27 t227.length co27,.int .i64 0,.slice none 0 0]) ?_ 1 _ rfl;refine ms ?_;refine blk_put (cs:=#[.slice none 0 0,.int .i64 0,.slice none 0 0]) ?_ 0 _ rfl;refine ms ?_;exact BK236.out) NB236_0.out (by simp));have n4_:=Az (KeepBut.trans (mk HK) hk (.inl rfl));have n5_:=Az (hb);have n6_:=Az (hi);clear BK226 HO229 HO233 BK236 HK HB HI0;have BK226:=n0_;have HO229:=n1_;have HO233:=n2_;have BK236:=n3_;have HK:=n4_;have HB:=n5_;have HI0:=n6_;clear n0_ n1_ n2_ n3_ n4_ n5_ n6_;(try clear hb);(try clear hb2);(try clear hk);(try clear hi);have hcz33_0:=bz0 BK236;have hcz33_1:=bz1 BK236;have hcz33_2:=bz2 BK236;have hfz33_0:=bf BK236 0;have hfz33_1:=bf BK236 1;have hfz33_2:=bf BK236 2;have q34:(1:Int) ≤ ((t227.length:Int):Int):=of_decide_eq_true (by first | (with_reducible assumption) | assumption);obtain ⟨i034,hi034,_,hsz34,_⟩:=info_parts info3;have hcut34:=cut_from (P:=Try.prog) 24 3 .i64 Try.underlying24 hi034 1 hsz34 Ao27 t227.length co27 1 (by omega) q34;have hr34:=Kd.Q_drop (k:=(1:Int).toNat) (Kd.Q_of_R HO229.out) (by omega);obtain ⟨A34,hA34⟩:∃ A1,A1 = (if co27 = (1:Int).toNat then Ao27 else (Ao27:Option Addr).map (·.add ((1:Int).toNat * 1))):=⟨_,rfl⟩;obtain ⟨c34,hc34⟩:∃ c1,c1 = co27 - (1:Int).toNat:=⟨_,rfl⟩;have hy34:y246.length = t227.length - (1:Int).toNat:=(by rw [Ny246.out,List.length_drop]);rw [← Ny246.out] at hr34;rw [← hy34,← hA34,← hc34] at hcut34;replace hr34:Kd.Q (Kd.int .i64) 3 w32 w.heap.size (fun k_=>some k_ ≠ (.slice Ao31 t231.length co31:Value).ownBlock) (.slice A34 y246.length c34) y246:=(by rw [hA34,hc34,hy34];exact hr34);have HE34:Aside0 ((Value.slice A34 y246.length c34).ownBlock = (.slice Ao27 t227.length co27:Value).ownBlock):=⟨by rw [hA34];split <;> (cases (Ao27:Option Addr) <;> rfl)⟩;clear hy34 hi034 hsz34 HO229 hA34 hc34;have HO248:=Aside0.mk hr34;clear hr34;replace q34:=eq_true q34;have n_:=Az (Kd.Q_mono (ok':=fun k_=>some k_ ≠ (.slice A34 y246.length c34:Value).ownBlock) HO233.out (fun k_ hk=>(by rw [HE34.out];exact hk)));clear HO233;have HO233:=n_;clear n_;have hnb35:=NB226_0.out;have hnc35:=NB0_226.out;have hcz36_0:=bz0 BK226;have hcz36_1:=bz1 BK226;have hcz36_2:=bz2 BK226;have hfz36_0:=bf BK226 0;have hfz36_1:=bf BK226 1;have hfz36_2:=bf BK226 2))
    refine bodyPost_ret (results_cell_row rfl _ _ gb226 26 #[.slice A34 y246.length c34,.int .i64 t230,.slice Ao31 t231.length co31] (0,0) _ rfl (by refine ms ?_;refine blk_put (cs:=#[.slice A34 y246.length c34,.int .i64 t230,.slice none 0 0]) ?_ 2 _ rfl;refine ms ?_;refine blk_put (cs:=#[.slice A34 y246.length c34,.int .i64 0,.slice none 0 0]) ?_ 1 _ rfl;refine ms ?_;refine blk_put (cs:=#[.slice none 0 0,.int .i64 0,.slice none 0 0]) ?_ 0 _ rfl;refine ms ?_;refine blk_far ?_ NB226_236.out _;refine ms ?_;exact BK226.out) Try.underlying26 rfl (by kernel_rfl)) rfl ?_
    exact ⟨_,_,by first | rfl | (simp [errW_none,errW_some] <;> rfl) | (simp [*,errW_none,errW_some] <;> rfl),by (with_reducible repeat (first | apply Kd.Q_alloc | apply Kd.Q_drewN | apply Kd.Q_drew));exact Kd.Q_mono (Kd.Q_far (Kd.Q_far (Kd.Q_far (Kd.Q_far (Kd.Q_types (Kd.Q_types HO248.out BK236.out (by decide)) BK226.out (by decide)) (fun _ hk=>hk.1.2) _) (fun _ hk=>hk.2) _) (fun _ hk=>hk.2) _) (fun _ hk=>hk.2) _) (fun _ hk=>hk.1.1),by (with_reducible repeat (first | apply Kd.Q_alloc | apply Kd.Q_drewN | apply Kd.Q_drew));exact Kd.Q_mono (Kd.Q_far (Kd.Q_far (Kd.Q_far (Kd.Q_far (Kd.Q_types (Kd.Q_types HO233.out BK236.out (by decide)) BK226.out (by decide)) (fun _ hk=>hk.1.2) _) (fun _ hk=>hk.2) _) (fun _ hk=>hk.2) _) (fun _ hk=>hk.2) _) (fun _ hk=>hk.1.1),mi83 HI0,by repeat (first | (with_reducible first | exact HB.out | apply below_alloc | apply pw_below_drewN | apply below_drew1 | refine below_set ?_ (IsS83.ge HI0.out) | refine below_set ?_ GE226.out | refine below_set ?_ GE236.out) | exact HB.out),mk HK⟩
   ·rw [if_neg c23] at H
    exact absurd H (by simp)
  ·rw [if_neg c22] at H
   have c22b0:(t237 == 1) = false:=beq_eq_false_iff_ne.mpr c22
   have c22b1:(t237 != 1) = true:=bne_iff_ne.mpr c22
   by_cases c37:t237 = 2
   ·rw [if_pos c37] at H
    have c37b0:(t237 == 2) = true:=beq_iff_eq.mpr c37
    have c37b1:(t237 != 2) = false:=bne_eq_false_iff_eq.mpr c37
    clear c37
    have H':=Aside0.mk H
    clear H
    go_enter Try.func74,Try.ntmps74
    go_wp2_with (first | ((with_reducible refine gate_dst (N:=2) rfl ?_);refine box_event ?hg (N:=2) ?hd (cs:=#[.slice none 0 0,.int .i64 0,.slice none 0 0]) (t:=26) ?hr ?_;(case hd=>rfl);(case hg=>rfl);(case hr=>first | (go_simp;done) | (go_simp;rfl));intro gb226 hg w38 hbox hb;have n0_:=Az (IsS83.below (mi83 HI0) hb);have n1_:=Az (KeepBut.trans (mk HK) (KeepBut.of_below hb g none) (.inl rfl));have n2_:=Az (below_step (by repeat (first | (with_reducible first | exact HB.out | apply below_alloc | apply pw_below_drewN | apply below_drew1 | refine below_set ?_ (IsS83.ge HI0.out)) | exact HB.out)) hb);have n3_:=Az (hbox);have n4_:=Az ((by rw [hg];exact (keep_size (w:=w) (g:=g) (row:=none) (mk HK)):w.heap.size ≤ gb226));have n5_:=Az ((Nat.le_trans HW0.out (by rw [hg];exact (keep_size (w:=w) (g:=g) (row:=none) (mk HK)):w.heap.size ≤ gb226):w0.heap.size ≤ gb226));have n6_:=Az ((by rw [hg];exact Nat.ne_of_lt (IsS83.lt (show IsS83 w0 _ g s0_0 s0_1 s0_2 from mi83 HI0)):g ≠ gb226));have n7_:=Az ((by rw [hg];exact Nat.ne_of_gt (IsS83.lt (show IsS83 w0 _ g s0_0 s0_1 s0_2 from mi83 HI0)):gb226 ≠ g));clear HI0 HK HB;have HI0:=n0_;have HK:=n1_;have HB:=n2_;have BK226:=n3_;have GW226:=n4_;have GE226:=n5_;have NB0_226:=n6_;have NB226_0:=n7_;clear n0_ n1_ n2_ n3_ n4_ n5_ n6_ n7_;clear hb hbox hg) | ((with_reducible refine gate_callee (f:=87) rfl ?_);refine goesL_ (some 5) rfl rfl Try.func87 (by kernel_rfl) rfl #[.pointer (some ⟨g,0,none⟩)] rfl ml ?_;(with_reducible refine (spec_l8Dev.calls k g s0_0 s0_1 s0_2 t227 t230 t231 t234 t235 w0 _ ?side1 ?side2 A2.out).mono ?_);(case side1=>repeat (first | (with_reducible first | exact HI0.out | apply IsS83.alloc | apply IsS83.drewN | apply IsS83.drew | apply IsS83.set_1 | apply IsS83.set_2 | refine IsS83.far ?_ NB0_226.out _) | exact HI0.out));(case side2=>repeat (first | (with_reducible first | exact HB.out | apply below_alloc | apply pw_below_drewN | apply below_drew1 | refine below_set ?_ (IsS83.ge HI0.out) | refine below_set ?_ GE226.out) | exact HB.out));rintro e w39 ⟨v228,v232,rfl,ho0,ho1,hi,hb,hk⟩;refine ⟨_,rfl,?_⟩;have n0_:=Az (KeepBut.blk hk (g':=gb226) (o:=.cells #[.slice none 0 0,.int .i64 0,.slice none 0 0] 26 (0,0)) (mz BK226) NB226_0.out (by simp));have n1_:=Az (Kd.R_lower ho0 (keep_size (w:=w) (g:=g) (row:=none) (mk HK)));have n2_:=Az (Kd.Q_lower ho1 (keep_size (w:=w) (g:=g) (row:=none) (mk HK)));have n3_:=Az (KeepBut.trans (mk HK) hk (.inl rfl));have n4_:=Az (hb);have n5_:=Az (hi);clear BK226 HK HB HI0;have BK226:=n0_;have HO229:=n1_;have HO233:=n2_;have HK:=n3_;have HB:=n4_;have HI0:=n5_;clear n0_ n1_ n2_ n3_ n4_ n5_;(try clear hb);(try clear hb2);(try clear hk);(try clear hi);(try clear ho0);(try clear ho1)) | ((with_reducible refine gate_dst (N:=3) rfl ?_);refine box_event ?hg (N:=3) ?hd (cs:=#[.slice none 0 0,.int .i64 0,.slice none 0 0]) (t:=26) ?hr ?_;(case hd=>rfl);(case hg=>rfl);(case hr=>first | (go_simp;done) | (go_simp;rfl));intro gb236 hg w40 hbox hb;have n0_:=Az (Kd.R_below (mr HO229) hb);have n1_:=Az (Kd.Q_below (mq HO233) hb);have n2_:=Az (IsS83.below (mi83 HI0) hb);have n3_:=Az (blk_below (mz BK226) hb);have n4_:=Az (KeepBut.trans (mk HK) (KeepBut.of_below hb g none) (.inl rfl));have n5_:=Az (below_step (by repeat (first | (with_reducible first | exact HB.out | apply below_alloc | apply pw_below_drewN | apply below_drew1 | refine below_set ?_ (IsS83.ge HI0.out) | refine below_set ?_ GE226.out) | exact HB.out)) hb);have n6_:=Az (hbox);have n7_:=Az ((by rw [hg];exact (keep_size (w:=w) (g:=g) (row:=none) (mk HK)):w.heap.size ≤ gb236));have n8_:=Az ((Nat.le_trans HW0.out (by rw [hg];exact (keep_size (w:=w) (g:=g) (row:=none) (mk HK)):w.heap.size ≤ gb236):w0.heap.size ≤ gb236));have n9_:=Az ((by rw [hg];exact Nat.ne_of_lt (blk_lt (mz BK226)):gb226 ≠ gb236));have n10_:=Az ((by rw [hg];exact Nat.ne_of_gt (blk_lt (mz BK226)):gb236 ≠ gb226));have n11_:=Az ((by rw [hg];exact Nat.ne_of_lt (IsS83.lt (show IsS83 w0 _ g s0_0 t234 t235 from mi83 HI0)):g ≠ gb236));have n12_:=Az ((by rw [hg];exact Nat.ne_of_gt (IsS83.lt (show IsS83 w0 _ g s0_0 t234 t235 from mi83 HI0)):gb236 ≠ g));clear HO229 HO233 HI0 BK226 HK HB;have HO229:=n0_;have HO233:=n1_;have HI0:=n2_;have BK226:=n3_;have HK:=n4_;have HB:=n5_;have BK236:=n6_;have GW236:=n7_;have GE236:=n8_;have NB226_236:=n9_;have NB236_226:=n10_;have NB0_236:=n11_;have NB236_0:=n12_;clear n0_ n1_ n2_ n3_ n4_ n5_ n6_ n7_ n8_ n9_ n10_ n11_ n12_ hb hbox hg;obtain ⟨Ao41,co41,eo41⟩:=Kd.R_slice HO229.out;subst eo41;have hnb42:=NB236_226.out;have hnc42:=NB226_236.out;have hnb43:=NB236_0.out;have hnc43:=NB0_236.out;have hcz44_0:=bz0 BK236;have hcz44_1:=bz1 BK236;have hcz44_2:=bz2 BK236;have hfz44_0:=bf BK236 0;have hfz44_1:=bf BK236 1;have hfz44_2:=bf BK236 2;obtain ⟨Ao45,co45,eo45,_⟩:=Kd.Q_slice HO233.out;subst eo45) | ((with_reducible refine gate_callee (f:=45) rfl ?_);refine goesL_ (some 7) rfl rfl Try.func45 (by kernel_rfl) rfl #[.pointer (some ⟨g,0,none⟩),.int .i64 12] rfl ml ?_;(with_reducible refine (spec_l1Below.calls g s0_0 t234 t235 12 t237 t238 t239 w0 _ ?side1 ?side2 A3.out).mono ?_);(case side1=>repeat (first | (with_reducible first | exact HI0.out | apply IsS83.alloc | apply IsS83.drewN | apply IsS83.drew | apply IsS83.set_1 | apply IsS83.set_2 | refine IsS83.far ?_ NB0_226.out _ | refine IsS83.far ?_ NB0_236.out _) | exact HI0.out));(case side2=>repeat (first | (with_reducible first | exact HB.out | apply below_alloc | apply pw_below_drewN | apply below_drew1 | refine below_set ?_ (IsS83.ge HI0.out) | refine below_set ?_ GE226.out | refine below_set ?_ GE236.out) | exact HB.out));rintro e w46 ⟨rfl,hi,hb,hk⟩;refine ⟨_,rfl,?_⟩;have n0_:=Az (KeepBut.blk hk (g':=gb226) (o:=.cells #[.slice none 0 0,.int .i64 0,.slice none 0 0] 26 (0,0)) (by refine ms ?_;refine blk_far ?_ NB226_236.out _;refine ms ?_;refine blk_far ?_ NB226_236.out _;refine ms ?_;refine blk_far ?_ NB226_236.out _;refine ms ?_;exact BK226.out) NB226_0.out (by simp));have n1_:=Az (Kd.R_mono (Kd.R_keep (IsS83.apart (show IsS83 w0 _ g s0_0 t234 t235 from mi83 HI0) (by (with_reducible repeat (first | apply Kd.R_alloc | apply Kd.R_drewN | apply Kd.R_drew));exact (Kd.R_mono (Kd.R_far (Kd.R_far (Kd.R_far (Kd.R_types HO229.out BK236.out (by decide)) (fun _ hk=>hk.2) _) (fun _ hk=>hk.2) _) (fun _ hk=>hk.2) _) (fun _ h_=>h_.1))) (by decide)) hk (fun _ h=>h.2)) (fun _ h=>h.1));have n2_:=Az (Kd.Q_mono (Kd.Q_keep (IsS83.apartQ (show IsS83 w0 _ g s0_0 t234 t235 from mi83 HI0) (by (with_reducible repeat (first | apply Kd.Q_alloc | apply Kd.Q_drewN | apply Kd.Q_drew));exact (Kd.Q_mono (Kd.Q_far (Kd.Q_far (Kd.Q_far (Kd.Q_types HO233.out BK236.out (by decide)) (fun _ hk=>hk.2) _) (fun _ hk=>hk.2) _) (fun _ hk=>hk.2) _) (fun _ h_=>h_.1))) (by decide)) hk (fun _ h=>h.2)) (fun _ h=>h.1));have n3_:=Az (KeepBut.blk hk (g':=gb236) (o:=.cells #[.slice Ao41 t227.length co41,.int .i64 t230,.slice Ao45 t231.length co45] 26 (0,0)) (by refine ms ?_;refine blk_put (cs:=#[.slice Ao41 t227.length co41,.int .i64 t230,.slice none 0 0]) ?_ 2 _ rfl;refine ms ?_;refine blk_put (cs:=#[.slice Ao41 t227.length co41,.int .i64 0,.slice none 0 0]) ?_ 1 _ rfl;refine ms ?_;refine blk_put (cs:=#[.slice none 0 0,.int .i64 0,.slice none 0 0]) ?_ 0 _ rfl;refine ms ?_;exact BK236.out) NB236_0.out (by simp));have n4_:=Az (KeepBut.trans (mk HK) hk (.inl rfl));have n5_:=Az (hb);have n6_:=Az (hi);clear BK226 HO229 HO233 BK236 HK HB HI0;have BK226:=n0_;have HO229:=n1_;have HO233:=n2_;have BK236:=n3_;have HK:=n4_;have HB:=n5_;have HI0:=n6_;clear n0_ n1_ n2_ n3_ n4_ n5_ n6_;(try clear hb);(try clear hb2);(try clear hk);(try clear hi)))
    go_loopg [] k (fun kq w'=>∃ (x1001_1:Int) (x1002_1:Int) (x237002_1:List Int) (u237002:Value),Aside0 (spec_l8Any.l0 kq s0_0 x1001_1 x1002_1 t227 t230 x237002_1 = some (r1,r2,r3,r4,r5)) ∧ Aside0 (kq ≤ k) ∧ Aside0 (Kd.Q (Kd.int .i64) 3 w' w.heap.size (fun k_=>some k_ ≠ (u237002:Value).ownBlock) (.slice Ao41 t227.length co41) t227) ∧ Aside0 (Kd.Q (Kd.int .i64) 3 w' w.heap.size (fun k_=>some k_ ≠ ((.slice Ao41 t227.length co41):Value).ownBlock) u237002 x237002_1) ∧ Aside0 (w'.heap[gb226]? = some (.cells #[(.slice none 0 0),.int .i64 0,(.slice none 0 0)] 26 (0,0))) ∧ Aside0 (w'.heap[gb236]? = some (.cells #[(.slice Ao41 t227.length co41),.int .i64 t230,u237002] 26 (0,0))) ∧ Aside0 (IsS83 w0 w' g s0_0 x1001_1 x1002_1) ∧ Aside0 (KeepBut w w' g none) ∧ Aside0 (Below w0.heap.size w0 w'))
    case atStart=>exact ⟨(t238),(t239),(t231),(.slice Ao45 t231.length co45),H',⟨Nat.le_refl _⟩,⟨Kd.Q_of_R (mr HO229)⟩,⟨mq HO233⟩,⟨mz BK226⟩,⟨mz BK236⟩,⟨mi83 HI0⟩,⟨mk HK⟩,⟨by repeat (first | (with_reducible first | exact HB.out | apply below_alloc | apply pw_below_drewN | apply below_drew1 | refine below_set ?_ (IsS83.ge HI0.out) | refine below_set ?_ GE226.out | refine below_set ?_ GE236.out) | exact HB.out)⟩⟩
    case round =>
     clear H'
     try clear c4
     try clear c4b0
     try clear c4b1
     try clear c22
     try clear c22b0
     try clear c22b1
     try clear c37
     try clear c37b0
     try clear c37b1
     try clear hcz44_0
     try clear hcz44_1
     try clear hcz44_2
     try clear hfz44_0
     try clear hfz44_1
     try clear hfz44_2
     obtain ⟨x1001_1,x1002_1,x237002_1,u237002,HA,HK1,HO_237000,HO_237002,BK226,BK236,HI0,HK,HB⟩:=hrel
     cases gk with
     | zero=>exact absurd HA.out (by simp [spec_l8Any.l0])
     | succ k1 =>
      have H:=HA.out
      clear HA
      simp only [spec_l8Any.l0] at H
      replace H:=Option.bind_eq_some_iff.mp H
      obtain ⟨⟨t249,t250,t251⟩,A470,H⟩:=H
      replace H:(if (x237002_1.length:Int) < (wrap64 (4 + t249)) then (if x237002_1.length < 17592186044416 then (spec_l8Any.l0 k1 s0_0 t250 t251 t227 t230 (x237002_1 ++ [1])) else (none)) else (some (t227,t230,x237002_1,t250,t251))) = some (r1,r2,r3,r4,r5):=H
      have A47:=Aside0.mk A470
      clear A470
      by_cases c48:(x237002_1.length:Int) < (wrap64 (4 + t249))
      ·rw [if_pos c48] at H
       have c48b0:decide ((x237002_1.length:Int) < (wrap64 (4 + t249))) = true:=decide_eq_true c48
       clear c48
       by_cases c49:x237002_1.length < 17592186044416
       ·rw [if_pos c49] at H
        have LMc49:=Aside0.mk c49
        clear c49
        obtain ⟨y252,hy252⟩:∃ y_:List Int,y_ = (x237002_1 ++ [1]):=⟨_,rfl⟩
        replace H:(spec_l8Any.l0 k1 s0_0 t250 t251 t227 t230 y252) = some (r1,r2,r3,r4,r5):=by first | (rw [hy252];with_reducible exact H) | (have H2_:=(Option.bind_some _ _).symm.trans H;rw [hy252];with_reducible exact H2_) | (have H2_:=(Option.bind_some _ _).symm.trans H;with_reducible exact H2_) | with_reducible exact H | (rw [hy252];exact H) | exact H
        have Ny252:=Aside0.mk hy252
        clear hy252
        have H':=Aside0.mk H
        clear H
        try go_wp2
        have n0_:=Az (Kd.Q_drew HO_237000.out)
        have n1_:=Az (Kd.Q_drew HO_237002.out)
        have n2_:=Az (blk_drew BK226.out)
        have n3_:=Az (blk_drew BK236.out)
        have n4_:=Az (IsS83.drew HI0.out)
        have n5_:=Az (keep_drew HK.out)
        have n6_:=Az (below_drew1 HB.out)
        clear HO_237000 HO_237002 BK226 BK236 HI0 HK HB
        have HO_237000:=n0_
        have HO_237002:=n1_
        have BK226:=n2_
        have BK236:=n3_
        have HI0:=n4_
        have HK:=n5_
        have HB:=n6_
        clear n0_ n1_ n2_ n3_ n4_ n5_ n6_
        obtain ⟨Ao51,co51,eo51,_⟩:=Kd.Q_slice HO_237002.out
        (first | subst eo51 | (injection eo51 with f1_ f2_ f3_;have f4_:=f1_.symm;have f5_:=f3_.symm;clear f1_ f2_ f3_;subst f4_;subst f5_))
        refine start_ (n:=7) (S:=fun w'=>w'.cell? ⟨gb236,0,none⟩ = some (.slice Ao41 t227.length co41) ∧ w'.cell? ⟨gb236,1,none⟩ = some (.int .i64 t230) ∧ w'.cell? ⟨gb236,2,none⟩ = some (.slice Ao51 x237002_1.length co51)) (ds:=[]) #[false,false,false,false,false,false,false] (by kernel_rfl) rfl rfl ⟨(blk_cell BK236.out 0).trans rfl,(blk_cell BK236.out 1).trans rfl,(blk_cell BK236.out 2).trans rfl⟩ (fun hHeld=>?_)
        generalize wr.drew = w50 at HO_237000 HO_237002 BK226 BK236 HI0 HK HB hHeld ⊢
        refine pure_ (i:=0) (N:=some 22) (v:=?_) (a':=?_) #[true,false,false,false,false,false,false] rfl rfl (by kernel_rfl) (fun _ _ _ h=>h) (Or.inl ⟨by rfl,?_⟩) ?_ ?_
        rotate_left
        ·intro w'
         go_simp
         with_reducible rfl
        rotate_left
        ·simp only [Act.put,List.setIfInBounds_toArray,List.set_cons_zero,List.set_cons_succ,i64_w,i32_w]
         rfl
        refine pure_ (i:=3) (N:=some 25) (v:=?_) (a':=?_) #[true,false,false,true,false,false,false] rfl rfl (by kernel_rfl) (fun _ _ _ h=>h) (Or.inl ⟨by rfl,?_⟩) ?_ ?_
        rotate_left
        ·intro w'
         go_simp
         with_reducible rfl
        rotate_left
        ·simp only [Act.put,List.setIfInBounds_toArray,List.set_cons_zero,List.set_cons_succ,i64_w,i32_w]
         rfl
        refine take_ (i:=1) (N:=some 23) (v:=?_) (a':=?_) #[true,true,false,true,false,false,false] rfl rfl (by kernel_rfl) (fun _ _ _ h=>h) (Or.inl ⟨by rfl,?_⟩) hHeld ?_ ?_
        rotate_left
        ·rintro w' ⟨s0,s1,s2⟩
         go_simp
         with_reducible rfl
        rotate_left
        ·simp only [Act.put,List.setIfInBounds_toArray,List.set_cons_zero,List.set_cons_succ,i64_w,i32_w]
         rfl
        refine pure_ (i:=2) (N:=some 24) (v:=?_) (a':=?_) #[true,true,true,true,false,false,false] rfl rfl (by kernel_rfl) (fun _ _ _ h=>h) (Or.inl ⟨by rfl,?_⟩) ?_ ?_
        rotate_left
        ·intro w'
         go_simp
         with_reducible rfl
        rotate_left
        ·simp only [Act.put,List.setIfInBounds_toArray,List.set_cons_zero,List.set_cons_succ,i64_w,i32_w]
         rfl
        refine one_ (i:=4) (N:=some 26) #[true,true,true,true,true,false,false] rfl rfl (by kernel_rfl) (by decide) (fun K hK=>?_)
        refine goes_ Try.func45 (by kernel_rfl) rfl #[.pointer (some ⟨g,0,none⟩),.int .i64 2] (by rfl) rfl rfl ml ?_
        with_reducible refine (spec_l1Below.calls g s0_0 x1001_1 x1002_1 2 t249 t250 t251 w0 _ ?side1 ?side2 A47.out).mono ?_
        (case side1=>repeat (first | (with_reducible first | exact HI0.out | apply IsS83.alloc | apply IsS83.drewN | apply IsS83.drew | apply IsS83.set_1 | apply IsS83.set_2 | refine IsS83.far ?_ NB0_226.out _ | refine IsS83.far ?_ NB0_236.out _) | exact HI0.out))
        (case side2=>repeat (first | (with_reducible first | exact HB.out | apply below_alloc | apply pw_below_drewN | apply below_drew1 | refine below_set ?_ (IsS83.ge HI0.out) | refine below_set ?_ GE226.out | refine below_set ?_ GE236.out) | exact HB.out))
        rintro e w52 ⟨rfl,hi,hb,hk⟩
        refine ⟨_,rfl,?_⟩
        have n0_:=Az (Kd.Q_mono (Kd.Q_keep (IsS83.apartQ (show IsS83 w0 _ g s0_0 x1001_1 x1002_1 from mi83 HI0) (mq HO_237000) (by decide)) hk (fun _ h=>h.2)) (fun _ h=>h.1))
        have n1_:=Az (Kd.Q_mono (Kd.Q_keep (IsS83.apartQ (show IsS83 w0 _ g s0_0 x1001_1 x1002_1 from mi83 HI0) (mq HO_237002) (by decide)) hk (fun _ h=>h.2)) (fun _ h=>h.1))
        have n2_:=Az (KeepBut.blk hk (g':=gb226) (o:=.cells #[.slice none 0 0,.int .i64 0,.slice none 0 0] 26 (0,0)) (mz BK226) NB226_0.out (by simp))
        have n3_:=Az (KeepBut.blk hk (g':=gb236) (o:=.cells #[.slice Ao41 t227.length co41,.int .i64 t230,.slice Ao51 x237002_1.length co51] 26 (0,0)) (mz BK236) NB236_0.out (by simp))
        have n4_:=Az (KeepBut.trans (mk HK) hk (.inl rfl))
        have n5_:=Az (hb)
        have n6_:=Az (hi)
        clear HO_237000 HO_237002 BK226 BK236 HK HB HI0
        have HO_237000:=n0_
        have HO_237002:=n1_
        have BK226:=n2_
        have BK236:=n3_
        have HK:=n4_
        have HB:=n5_
        have HI0:=n6_
        clear n0_ n1_ n2_ n3_ n4_ n5_ n6_
        (try clear hb)
        (try clear hb2)
        (try clear hk)
        (try clear hi)
        refine hK.out _ _ ⟨(blk_cell BK236.out 0).trans rfl,(blk_cell BK236.out 1).trans rfl,(blk_cell BK236.out 2).trans rfl⟩ (fun hHeld=>?_)
        clear hK K
        refine norm_ (a':=?_) ?_ ?_
        rotate_left
        ·show Act.put _ (some 26) _ = _
         simp only [Act.put,List.setIfInBounds_toArray,List.set_cons_zero,List.set_cons_succ,i64_w,i32_w]
         rfl
        refine pure_ (i:=5) (N:=some 27) (v:=?_) (a':=?_) #[true,true,true,true,true,true,false] rfl rfl (by kernel_rfl) (fun _ _ _ h=>h) (Or.inl ⟨by rfl,?_⟩) ?_ ?_
        rotate_left
        ·intro w'
         go_simp
         with_reducible rfl
        rotate_left
        ·simp only [Act.put,List.setIfInBounds_toArray,List.set_cons_zero,List.set_cons_succ,i64_w,i32_w]
         rfl
        refine pure_ (i:=6) (N:=some 28) (v:=?_) (a':=?_) #[true,true,true,true,true,true,true] rfl rfl (by kernel_rfl) (fun _ _ _ h=>h) (Or.inl ⟨by rfl,?_⟩) ?_ ?_
        rotate_left
        ·intro w'
         go_simp
         with_reducible rfl
        rotate_left
        ·simp only [Act.put,List.setIfInBounds_toArray,List.set_cons_zero,List.set_cons_succ,i64_w,i32_w]
         rfl
        refine done_ (by kernel_rfl) ?_
        have hnb53:=NB236_226.out
        have hnc53:=NB226_236.out
        have hnb54:=NB236_0.out
        have hnc54:=NB0_236.out
        have hcz55_0:=bz0 BK236
        have hcz55_1:=bz1 BK236
        have hcz55_2:=bz2 BK236
        have hfz55_0:=bf BK236 0
        have hfz55_1:=bf BK236 1
        have hfz55_2:=bf BK236 2
        try go_wp2_with (first | ((with_reducible refine gate_builtin (b:=.append) (xs:=#[.tmp 30,.tmp 31]) rfl ?_);at_builtin;refine Kd.Q_append (Kd.int .i64) w.heap.size rfl (.tmp 30) (.tmp 31) 24 3 (.int .i64 0) 8 rfl Try.underlying24 info3 rfl (by decide) (by omega) (.slice Ao51 x237002_1.length co51) x237002_1 1 [.int .i64 1] (fun k_=>some k_ ≠ (.slice Ao41 t227.length co41:Value).ownBlock) (fun _=>False) rfl rfl ?aP (fun _ hk=>hk.elim) ?aF ?aO (Below.refl _ _) ?aS ?aL ?_;(case aP=>exact rfl);(case aF=>exact (fun k_ hk=>Kd.fresh' (Kd.Q_lt (mq HO_237000)) k_ hk));(case aO=>exact (mq HO_237002));(case aS=>exact (keep_size (w:=w) (g:=g) (row:=none) (mk HK)));(case aL=>have:=LMc49.out;omega);intro v253 w56 ho hb hg hat;rw [← Ny252.out] at ho;have n0_:=Az (Kd.Q_after (ok:=(fun _=>True)) (by (with_reducible repeat (first | apply Kd.Q_alloc | apply Kd.Q_drewN | apply Kd.Q_drew));exact Kd.Q_mono HO_237000.out (fun _ hk=>⟨trivial,hk⟩)) hg hat);have n1_:=Az (blk_grown (mz BK226) hg (Kd.Q_ne HO_237002.out BK226.out (by decide)));have n2_:=Az (blk_grown (mz BK236) hg (Kd.Q_ne HO_237002.out BK236.out (by decide)));have n3_:=Az (IsS83.grown (mi83 HI0) hg (IsS83.own_neQ HI0.out HO_237002.out (by decide)));have n4_:=Az (below_weaken (by repeat (first | (with_reducible first | exact HB.out | apply below_alloc | apply pw_below_drewN | apply below_drew1 | refine below_set ?_ (IsS83.ge HI0.out) | refine below_set ?_ GE226.out | refine below_set ?_ GE236.out) | exact HB.out)) HL.out hb);have n5_:=Az (KeepBut.trans (mk HK) (KeepBut.of_grown hg g) (Kd.Q_base2 HO_237002.out));have n6_:=Az (ho);clear HO_237000 BK226 BK236 HI0 HB HK HO_237002;have HO_237000:=n0_;have BK226:=n1_;have BK236:=n2_;have HI0:=n3_;have HB:=n4_;have HK:=n5_;have HO254:=n6_;clear n0_ n1_ n2_ n3_ n4_ n5_ n6_ ho hb hg hat;obtain ⟨Ao57,co57,eo57,_⟩:=Kd.Q_slice HO254.out;subst eo57;have hcz58_0:=bz0 BK236;have hcz58_1:=bz1 BK236;have hcz58_2:=bz2 BK236;have hfz58_0:=bf BK236 0;have hfz58_1:=bf BK236 1;have hfz58_2:=bf BK236 2))
        go_roundg k1
        case measure=>have:=HK1.out;omega
        case rel=>exact ⟨(t250),(t251),(y252),(.slice Ao57 y252.length co57),H',⟨by have:=HK1.out;omega⟩,⟨by (with_reducible repeat (first | apply Kd.Q_alloc | apply Kd.Q_drewN | apply Kd.Q_drew));exact Kd.Q_mono (Kd.Q_far (Kd.Q_types HO_237000.out BK236.out (by decide)) (fun _ hk=>hk.2) _) (fun _ hk=>hk.1.2)⟩,⟨by (with_reducible repeat (first | apply Kd.Q_alloc | apply Kd.Q_drewN | apply Kd.Q_drew));exact Kd.Q_mono (Kd.Q_far (Kd.Q_types HO254.out BK236.out (by decide)) (fun _ hk=>hk.2) _) (fun _ hk=>hk.1)⟩,⟨by refine ms ?_;refine blk_far ?_ NB226_236.out _;refine ms ?_;exact BK226.out⟩,⟨by refine ms ?_;refine blk_put (cs:=#[.slice Ao41 t227.length co41,.int .i64 t230,.slice Ao51 x237002_1.length co51]) ?_ 2 _ rfl;refine ms ?_;exact BK236.out⟩,⟨mi83 HI0⟩,⟨mk HK⟩,⟨by repeat (first | (with_reducible first | exact HB.out | apply below_alloc | apply pw_below_drewN | apply below_drew1 | refine below_set ?_ (IsS83.ge HI0.out) | refine below_set ?_ GE226.out | refine below_set ?_ GE236.out) | exact HB.out)⟩⟩
       ·rw [if_neg c49] at H
        exact absurd H (by simp)
      ·rw [if_neg c48] at H
       have c48b0:decide ((x237002_1.length:Int) < (wrap64 (4 + t249))) = false:=decide_eq_false c48
       clear c48
       simp only [Option.some.injEq,Prod.mk.injEq] at H
       obtain ⟨rfl,rfl,rfl,rfl,rfl⟩:=H
       try go_wp2
       have n0_:=Az (Kd.Q_drew HO_237000.out)
       have n1_:=Az (Kd.Q_drew HO_237002.out)
       have n2_:=Az (blk_drew BK226.out)
       have n3_:=Az (blk_drew BK236.out)
       have n4_:=Az (IsS83.drew HI0.out)
       have n5_:=Az (keep_drew HK.out)
       have n6_:=Az (below_drew1 HB.out)
       clear HO_237000 HO_237002 BK226 BK236 HI0 HK HB
       have HO_237000:=n0_
       have HO_237002:=n1_
       have BK226:=n2_
       have BK236:=n3_
       have HI0:=n4_
       have HK:=n5_
       have HB:=n6_
       clear n0_ n1_ n2_ n3_ n4_ n5_ n6_
       obtain ⟨Ao60,co60,eo60,_⟩:=Kd.Q_slice HO_237002.out
       (first | subst eo60 | (injection eo60 with f1_ f2_ f3_;have f4_:=f1_.symm;have f5_:=f3_.symm;clear f1_ f2_ f3_;subst f4_;subst f5_))
       refine start_ (n:=7) (S:=fun w'=>w'.cell? ⟨gb236,0,none⟩ = some (.slice Ao41 t227.length co41) ∧ w'.cell? ⟨gb236,1,none⟩ = some (.int .i64 t230) ∧ w'.cell? ⟨gb236,2,none⟩ = some (.slice Ao60 x237002_1.length co60)) (ds:=[]) #[false,false,false,false,false,false,false] (by kernel_rfl) rfl rfl ⟨(blk_cell BK236.out 0).trans rfl,(blk_cell BK236.out 1).trans rfl,(blk_cell BK236.out 2).trans rfl⟩ (fun hHeld=>?_)
       generalize wr.drew = w59 at HO_237000 HO_237002 BK226 BK236 HI0 HK HB hHeld ⊢
       refine pure_ (i:=0) (N:=some 22) (v:=?_) (a':=?_) #[true,false,false,false,false,false,false] rfl rfl (by kernel_rfl) (fun _ _ _ h=>h) (Or.inl ⟨by rfl,?_⟩) ?_ ?_
       rotate_left
       ·intro w'
        go_simp
        with_reducible rfl
       rotate_left
       ·simp only [Act.put,List.setIfInBounds_toArray,List.set_cons_zero,List.set_cons_succ,i64_w,i32_w]
        rfl
       refine pure_ (i:=3) (N:=some 25) (v:=?_) (a':=?_) #[true,false,false,true,false,false,false] rfl rfl (by kernel_rfl) (fun _ _ _ h=>h) (Or.inl ⟨by rfl,?_⟩) ?_ ?_
       rotate_left
       ·intro w'
        go_simp
        with_reducible rfl
       rotate_left
       ·simp only [Act.put,List.setIfInBounds_toArray,List.set_cons_zero,List.set_cons_succ,i64_w,i32_w]
        rfl
       refine take_ (i:=1) (N:=some 23) (v:=?_) (a':=?_) #[true,true,false,true,false,false,false] rfl rfl (by kernel_rfl) (fun _ _ _ h=>h) (Or.inl ⟨by rfl,?_⟩) hHeld ?_ ?_
       rotate_left
       ·rintro w' ⟨s0,s1,s2⟩
        go_simp
        with_reducible rfl
       rotate_left
       ·simp only [Act.put,List.setIfInBounds_toArray,List.set_cons_zero,List.set_cons_succ,i64_w,i32_w]
        rfl
       refine pure_ (i:=2) (N:=some 24) (v:=?_) (a':=?_) #[true,true,true,true,false,false,false] rfl rfl (by kernel_rfl) (fun _ _ _ h=>h) (Or.inl ⟨by rfl,?_⟩) ?_ ?_
       rotate_left
       ·intro w'
        go_simp
        with_reducible rfl
       rotate_left
       ·simp only [Act.put,List.setIfInBounds_toArray,List.set_cons_zero,List.set_cons_succ,i64_w,i32_w]
        rfl
       refine one_ (i:=4) (N:=some 26) #[true,true,true,true,true,false,false] rfl rfl (by kernel_rfl) (by decide) (fun K hK=>?_)
       refine goes_ Try.func45 (by kernel_rfl) rfl #[.pointer (some ⟨g,0,none⟩),.int .i64 2] (by rfl) rfl rfl ml ?_
       with_reducible refine (spec_l1Below.calls g s0_0 x1001_1 x1002_1 2 t249 t250 t251 w0 _ ?side1 ?side2 A47.out).mono ?_
       (case side1=>repeat (first | (with_reducible first | exact HI0.out | apply IsS83.alloc | apply IsS83.drewN | apply IsS83.drew | apply IsS83.set_1 | apply IsS83.set_2 | refine IsS83.far ?_ NB0_226.out _ | refine IsS83.far ?_ NB0_236.out _) | exact HI0.out))
       (case side2=>repeat (first | (with_reducible first | exact HB.out | apply below_alloc | apply pw_below_drewN | apply below_drew1 | refine below_set ?_ (IsS83.ge HI0.out) | refine below_set ?_ GE226.out | refine below_set ?_ GE236.out) | exact HB.out))
       rintro e w61 ⟨rfl,hi,hb,hk⟩
       refine ⟨_,rfl,?_⟩
       have n0_:=Az (Kd.Q_mono (Kd.Q_keep (IsS83.apartQ (show IsS83 w0 _ g s0_0 x1001_1 x1002_1 from mi83 HI0) (mq HO_237000) (by decide)) hk (fun _ h=>h.2)) (fun _ h=>h.1))
       have n1_:=Az (Kd.Q_mono (Kd.Q_keep (IsS83.apartQ (show IsS83 w0 _ g s0_0 x1001_1 x1002_1 from mi83 HI0) (mq HO_237002) (by decide)) hk (fun _ h=>h.2)) (fun _ h=>h.1))
       have n2_:=Az (KeepBut.blk hk (g':=gb226) (o:=.cells #[.slice none 0 0,.int .i64 0,.slice none 0 0] 26 (0,0)) (mz BK226) NB226_0.out (by simp))
       have n3_:=Az (KeepBut.blk hk (g':=gb236) (o:=.cells #[.slice Ao41 t227.length co41,.int .i64 t230,.slice Ao60 x237002_1.length co60] 26 (0,0)) (mz BK236) NB236_0.out (by simp))
       have n4_:=Az (KeepBut.trans (mk HK) hk (.inl rfl))
       have n5_:=Az (hb)
       have n6_:=Az (hi)
       clear HO_237000 HO_237002 BK226 BK236 HK HB HI0
       have HO_237000:=n0_
       have HO_237002:=n1_
       have BK226:=n2_
       have BK236:=n3_
       have HK:=n4_
       have HB:=n5_
       have HI0:=n6_
       clear n0_ n1_ n2_ n3_ n4_ n5_ n6_
       (try clear hb)
       (try clear hb2)
       (try clear hk)
       (try clear hi)
       refine hK.out _ _ ⟨(blk_cell BK236.out 0).trans rfl,(blk_cell BK236.out 1).trans rfl,(blk_cell BK236.out 2).trans rfl⟩ (fun hHeld=>?_)
       clear hK K
       refine norm_ (a':=?_) ?_ ?_
       rotate_left
       ·show Act.put _ (some 26) _ = _
        simp only [Act.put,List.setIfInBounds_toArray,List.set_cons_zero,List.set_cons_succ,i64_w,i32_w]
        rfl
       refine pure_ (i:=5) (N:=some 27) (v:=?_) (a':=?_) #[true,true,true,true,true,true,false] rfl rfl (by kernel_rfl) (fun _ _ _ h=>h) (Or.inl ⟨by rfl,?_⟩) ?_ ?_
       rotate_left
       ·intro w'
        go_simp
        with_reducible rfl
       rotate_left
       ·simp only [Act.put,List.setIfInBounds_toArray,List.set_cons_zero,List.set_cons_succ,i64_w,i32_w]
        rfl
       refine pure_ (i:=6) (N:=some 28) (v:=?_) (a':=?_) #[true,true,true,true,true,true,true] rfl rfl (by kernel_rfl) (fun _ _ _ h=>h) (Or.inl ⟨by rfl,?_⟩) ?_ ?_
       rotate_left
       ·intro w'
        go_simp
        with_reducible rfl
       rotate_left
       ·simp only [Act.put,List.setIfInBounds_toArray,List.set_cons_zero,List.set_cons_succ,i64_w,i32_w]
        rfl
       refine done_ (by kernel_rfl) ?_
       have hnb62:=NB236_226.out
       have hnc62:=NB226_236.out
       have hnb63:=NB236_0.out
       have hnc63:=NB0_236.out
       have hcz64_0:=bz0 BK236
       have hcz64_1:=bz1 BK236
       have hcz64_2:=bz2 BK236
       have hfz64_0:=bf BK236 0
       have hfz64_1:=bf BK236 1
       have hfz64_2:=bf BK236 2
       have hnb65:=NB226_0.out
       have hnc65:=NB0_226.out
       have hcz66_0:=bz0 BK226
       have hcz66_1:=bz1 BK226
       have hcz66_2:=bz2 BK226
       have hfz66_0:=bf BK226 0
       have hfz66_1:=bf BK226 1
       have hfz66_2:=bf BK226 2
       try go_wp2
       refine bodyPost_ret (results_cell_row rfl _ _ gb226 26 #[.slice Ao41 t227.length co41,.int .i64 t230,.slice Ao60 x237002_1.length co60] (0,0) _ rfl (by refine ms ?_;refine blk_put (cs:=#[.slice Ao41 t227.length co41,.int .i64 t230,.slice none 0 0]) ?_ 2 _ rfl;refine ms ?_;refine blk_put (cs:=#[.slice Ao41 t227.length co41,.int .i64 0,.slice none 0 0]) ?_ 1 _ rfl;refine ms ?_;refine blk_put (cs:=#[.slice none 0 0,.int .i64 0,.slice none 0 0]) ?_ 0 _ rfl;refine ms ?_;exact BK226.out) Try.underlying26 rfl (by kernel_rfl)) rfl ?_
       exact ⟨_,_,by first | rfl | (simp [errW_none,errW_some] <;> rfl) | (simp [*,errW_none,errW_some] <;> rfl),by (with_reducible repeat (first | apply Kd.Q_alloc | apply Kd.Q_drewN | apply Kd.Q_drew));exact Kd.Q_mono (Kd.Q_far (Kd.Q_far (Kd.Q_far (Kd.Q_types HO_237000.out BK226.out (by decide)) (fun _ hk=>hk.2) _) (fun _ hk=>hk.2) _) (fun _ hk=>hk.2) _) (fun _ hk=>hk.1),by (with_reducible repeat (first | apply Kd.Q_alloc | apply Kd.Q_drewN | apply Kd.Q_drew));exact Kd.Q_mono (Kd.Q_far (Kd.Q_far (Kd.Q_far (Kd.Q_types HO_237002.out BK226.out (by decide)) (fun _ hk=>hk.2) _) (fun _ hk=>hk.2) _) (fun _ hk=>hk.2) _) (fun _ hk=>hk.1),mi83 HI0,by repeat (first | (with_reducible first | exact HB.out | apply below_alloc | apply pw_below_drewN | apply below_drew1 | refine below_set ?_ (IsS83.ge HI0.out) | refine below_set ?_ GE226.out | refine below_set ?_ GE236.out) | exact HB.out),mk HK⟩
   ·rw [if_neg c37] at H
    have c37b0:(t237 == 2) = false:=beq_eq_false_iff_ne.mpr c37
    have c37b1:(t237 != 2) = true:=bne_iff_ne.mpr c37
    simp only [Option.some.injEq,Prod.mk.injEq] at H
    obtain ⟨rfl,rfl,rfl,rfl,rfl⟩:=H
    go_enter Try.func74,Try.ntmps74
    go_wp2_with (first | ((with_reducible refine gate_dst (N:=2) rfl ?_);refine box_event ?hg (N:=2) ?hd (cs:=#[.slice none 0 0,.int .i64 0,.slice none 0 0]) (t:=26) ?hr ?_;(case hd=>rfl);(case hg=>rfl);(case hr=>first | (go_simp;done) | (go_simp;rfl));intro gb226 hg w67 hbox hb;have n0_:=Az (IsS83.below (mi83 HI0) hb);have n1_:=Az (KeepBut.trans (mk HK) (KeepBut.of_below hb g none) (.inl rfl));have n2_:=Az (below_step (by repeat (first | (with_reducible first | exact HB.out | apply below_alloc | apply pw_below_drewN | apply below_drew1 | refine below_set ?_ (IsS83.ge HI0.out)) | exact HB.out)) hb);have n3_:=Az (hbox);have n4_:=Az ((by rw [hg];exact (keep_size (w:=w) (g:=g) (row:=none) (mk HK)):w.heap.size ≤ gb226));have n5_:=Az ((Nat.le_trans HW0.out (by rw [hg];exact (keep_size (w:=w) (g:=g) (row:=none) (mk HK)):w.heap.size ≤ gb226):w0.heap.size ≤ gb226));have n6_:=Az ((by rw [hg];exact Nat.ne_of_lt (IsS83.lt (show IsS83 w0 _ g s0_0 s0_1 s0_2 from mi83 HI0)):g ≠ gb226));have n7_:=Az ((by rw [hg];exact Nat.ne_of_gt (IsS83.lt (show IsS83 w0 _ g s0_0 s0_1 s0_2 from mi83 HI0)):gb226 ≠ g));clear HI0 HK HB;have HI0:=n0_;have HK:=n1_;have HB:=n2_;have BK226:=n3_;have GW226:=n4_;have GE226:=n5_;have NB0_226:=n6_;have NB226_0:=n7_;clear n0_ n1_ n2_ n3_ n4_ n5_ n6_ n7_;clear hb hbox hg) | ((with_reducible refine gate_callee (f:=87) rfl ?_);refine goesL_ (some 5) rfl rfl Try.func87 (by kernel_rfl) rfl #[.pointer (some ⟨g,0,none⟩)] rfl ml ?_;(with_reducible refine (spec_l8Dev.calls k g s0_0 s0_1 s0_2 t227 t230 t231 t234 t235 w0 _ ?side1 ?side2 A2.out).mono ?_);(case side1=>repeat (first | (with_reducible first | exact HI0.out | apply IsS83.alloc | apply IsS83.drewN | apply IsS83.drew | apply IsS83.set_1 | apply IsS83.set_2 | refine IsS83.far ?_ NB0_226.out _) | exact HI0.out));(case side2=>repeat (first | (with_reducible first | exact HB.out | apply below_alloc | apply pw_below_drewN | apply below_drew1 | refine below_set ?_ (IsS83.ge HI0.out) | refine below_set ?_ GE226.out) | exact HB.out));rintro e w68 ⟨v228,v232,rfl,ho0,ho1,hi,hb,hk⟩;refine ⟨_,rfl,?_⟩;have n0_:=Az (KeepBut.blk hk (g':=gb226) (o:=.cells #[.slice none 0 0,.int .i64 0,.slice none 0 0] 26 (0,0)) (mz BK226) NB226_0.out (by simp));have n1_:=Az (Kd.R_lower ho0 (keep_size (w:=w) (g:=g) (row:=none) (mk HK)));have n2_:=Az (Kd.Q_lower ho1 (keep_size (w:=w) (g:=g) (row:=none) (mk HK)));have n3_:=Az (KeepBut.trans (mk HK) hk (.inl rfl));have n4_:=Az (hb);have n5_:=Az (hi);clear BK226 HK HB HI0;have BK226:=n0_;have HO229:=n1_;have HO233:=n2_;have HK:=n3_;have HB:=n4_;have HI0:=n5_;clear n0_ n1_ n2_ n3_ n4_ n5_;(try clear hb);(try clear hb2);(try clear hk);(try clear hi);(try clear ho0);(try clear ho1)) | ((with_reducible refine gate_dst (N:=3) rfl ?_);refine box_event ?hg (N:=3) ?hd (cs:=#[.slice none 0 0,.int .i64 0,.slice none 0 0]) (t:=26) ?hr ?_;(case hd=>rfl);(case hg=>rfl);(case hr=>first | (go_simp;done) | (go_simp;rfl));intro gb236 hg w69 hbox hb;have n0_:=Az (Kd.R_below (mr HO229) hb);have n1_:=Az (Kd.Q_below (mq HO233) hb);have n2_:=Az (IsS83.below (mi83 HI0) hb);have n3_:=Az (blk_below (mz BK226) hb);have n4_:=Az (KeepBut.trans (mk HK) (KeepBut.of_below hb g none) (.inl rfl));have n5_:=Az (below_step (by repeat (first | (with_reducible first | exact HB.out | apply below_alloc | apply pw_below_drewN | apply below_drew1 | refine below_set ?_ (IsS83.ge HI0.out) | refine below_set ?_ GE226.out) | exact HB.out)) hb);have n6_:=Az (hbox);have n7_:=Az ((by rw [hg];exact (keep_size (w:=w) (g:=g) (row:=none) (mk HK)):w.heap.size ≤ gb236));have n8_:=Az ((Nat.le_trans HW0.out (by rw [hg];exact (keep_size (w:=w) (g:=g) (row:=none) (mk HK)):w.heap.size ≤ gb236):w0.heap.size ≤ gb236));have n9_:=Az ((by rw [hg];exact Nat.ne_of_lt (blk_lt (mz BK226)):gb226 ≠ gb236));have n10_:=Az ((by rw [hg];exact Nat.ne_of_gt (blk_lt (mz BK226)):gb236 ≠ gb226));have n11_:=Az ((by rw [hg];exact Nat.ne_of_lt (IsS83.lt (show IsS83 w0 _ g s0_0 t234 t235 from mi83 HI0)):g ≠ gb236));have n12_:=Az ((by rw [hg];exact Nat.ne_of_gt (IsS83.lt (show IsS83 w0 _ g s0_0 t234 t235 from mi83 HI0)):gb236 ≠ g));clear HO229 HO233 HI0 BK226 HK HB;have HO229:=n0_;have HO233:=n1_;have HI0:=n2_;have BK226:=n3_;have HK:=n4_;have HB:=n5_;have BK236:=n6_;have GW236:=n7_;have GE236:=n8_;have NB226_236:=n9_;have NB236_226:=n10_;have NB0_236:=n11_;have NB236_0:=n12_;clear n0_ n1_ n2_ n3_ n4_ n5_ n6_ n7_ n8_ n9_ n10_ n11_ n12_ hb hbox hg;obtain ⟨Ao70,co70,eo70⟩:=Kd.R_slice HO229.out;subst eo70;have hnb71:=NB236_226.out;have hnc71:=NB226_236.out;have hnb72:=NB236_0.out;have hnc72:=NB0_236.out;have hcz73_0:=bz0 BK236;have hcz73_1:=bz1 BK236;have hcz73_2:=bz2 BK236;have hfz73_0:=bf BK236 0;have hfz73_1:=bf BK236 1;have hfz73_2:=bf BK236 2;obtain ⟨Ao74,co74,eo74,_⟩:=Kd.Q_slice HO233.out;subst eo74) | ((with_reducible refine gate_callee (f:=45) rfl ?_);refine goesL_ (some 7) rfl rfl Try.func45 (by kernel_rfl) rfl #[.pointer (some ⟨g,0,none⟩),.int .i64 12] rfl ml ?_;(with_reducible refine (spec_l1Below.calls g s0_0 t234 t235 12 t237 t238 t239 w0 _ ?side1 ?side2 A3.out).mono ?_);(case side1=>repeat (first | (with_reducible first | exact HI0.out | apply IsS83.alloc | apply IsS83.drewN | apply IsS83.drew | apply IsS83.set_1 | apply IsS83.set_2 | refine IsS83.far ?_ NB0_226.out _ | refine IsS83.far ?_ NB0_236.out _) | exact HI0.out));(case side2=>repeat (first | (with_reducible first | exact HB.out | apply below_alloc | apply pw_below_drewN | apply below_drew1 | refine below_set ?_ (IsS83.ge HI0.out) | refine below_set ?_ GE226.out | refine below_set ?_ GE236.out) | exact HB.out));rintro e w75 ⟨rfl,hi,hb,hk⟩;refine ⟨_,rfl,?_⟩;have n0_:=Az (KeepBut.blk hk (g':=gb226) (o:=.cells #[.slice none 0 0,.int .i64 0,.slice none 0 0] 26 (0,0)) (by refine ms ?_;refine blk_far ?_ NB226_236.out _;refine ms ?_;refine blk_far ?_ NB226_236.out _;refine ms ?_;refine blk_far ?_ NB226_236.out _;refine ms ?_;exact BK226.out) NB226_0.out (by simp));have n1_:=Az (Kd.R_mono (Kd.R_keep (IsS83.apart (show IsS83 w0 _ g s0_0 t234 t235 from mi83 HI0) (by (with_reducible repeat (first | apply Kd.R_alloc | apply Kd.R_drewN | apply Kd.R_drew));exact (Kd.R_mono (Kd.R_far (Kd.R_far (Kd.R_far (Kd.R_types HO229.out BK236.out (by decide)) (fun _ hk=>hk.2) _) (fun _ hk=>hk.2) _) (fun _ hk=>hk.2) _) (fun _ h_=>h_.1))) (by decide)) hk (fun _ h=>h.2)) (fun _ h=>h.1));have n2_:=Az (Kd.Q_mono (Kd.Q_keep (IsS83.apartQ (show IsS83 w0 _ g s0_0 t234 t235 from mi83 HI0) (by (with_reducible repeat (first | apply Kd.Q_alloc | apply Kd.Q_drewN | apply Kd.Q_drew));exact (Kd.Q_mono (Kd.Q_far (Kd.Q_far (Kd.Q_far (Kd.Q_types HO233.out BK236.out (by decide)) (fun _ hk=>hk.2) _) (fun _ hk=>hk.2) _) (fun _ hk=>hk.2) _) (fun _ h_=>h_.1))) (by decide)) hk (fun _ h=>h.2)) (fun _ h=>h.1));have n3_:=Az (KeepBut.blk hk (g':=gb236) (o:=.cells #[.slice Ao70 t227.length co70,.int .i64 t230,.slice Ao74 t231.length co74] 26 (0,0)) (by refine ms ?_;refine blk_put (cs:=#[.slice Ao70 t227.length co70,.int .i64 t230,.slice none 0 0]) ?_ 2 _ rfl;refine ms ?_;refine blk_put (cs:=#[.slice Ao70 t227.length co70,.int .i64 0,.slice none 0 0]) ?_ 1 _ rfl;refine ms ?_;refine blk_put (cs:=#[.slice none 0 0,.int .i64 0,.slice none 0 0]) ?_ 0 _ rfl;refine ms ?_;exact BK236.out) NB236_0.out (by simp));have n4_:=Az (KeepBut.trans (mk HK) hk (.inl rfl));have n5_:=Az (hb);have n6_:=Az (hi);clear BK226 HO229 HO233 BK236 HK HB HI0;have BK226:=n0_;have HO229:=n1_;have HO233:=n2_;have BK236:=n3_;have HK:=n4_;have HB:=n5_;have HI0:=n6_;clear n0_ n1_ n2_ n3_ n4_ n5_ n6_;(try clear hb);(try clear hb2);(try clear hk);(try clear hi);have hcz76_0:=bz0 BK236;have hcz76_1:=bz1 BK236;have hcz76_2:=bz2 BK236;have hfz76_0:=bf BK236 0;have hfz76_1:=bf BK236 1;have hfz76_2:=bf BK236 2;have hnb77:=NB226_0.out;have hnc77:=NB0_226.out;have hcz78_0:=bz0 BK226;have hcz78_1:=bz1 BK226;have hcz78_2:=bz2 BK226;have hfz78_0:=bf BK226 0;have hfz78_1:=bf BK226 1;have hfz78_2:=bf BK226 2))
    refine bodyPost_ret (results_cell_row rfl _ _ gb226 26 #[.slice Ao70 t227.length co70,.int .i64 t230,.slice Ao74 t231.length co74] (0,0) _ rfl (by refine ms ?_;refine blk_put (cs:=#[.slice Ao70 t227.length co70,.int .i64 t230,.slice none 0 0]) ?_ 2 _ rfl;refine ms ?_;refine blk_put (cs:=#[.slice Ao70 t227.length co70,.int .i64 0,.slice none 0 0]) ?_ 1 _ rfl;refine ms ?_;refine blk_put (cs:=#[.slice none 0 0,.int .i64 0,.slice none 0 0]) ?_ 0 _ rfl;refine ms ?_;exact BK226.out) Try.underlying26 rfl (by kernel_rfl)) rfl ?_
    exact ⟨_,_,by first | rfl | (simp [errW_none,errW_some] <;> rfl) | (simp [*,errW_none,errW_some] <;> rfl),Kd.Q_of_R (by (with_reducible repeat (first | apply Kd.R_alloc | apply Kd.R_drewN | apply Kd.R_drew));exact Kd.R_mono (Kd.R_far (Kd.R_far (Kd.R_far (Kd.R_types HO229.out BK226.out (by decide)) (fun _ hk=>hk.2) _) (fun _ hk=>hk.2) _) (fun _ hk=>hk.2) _) (fun _ hk=>hk.1)),by (with_reducible repeat (first | apply Kd.Q_alloc | apply Kd.Q_drewN | apply Kd.Q_drew));exact Kd.Q_mono (Kd.Q_far (Kd.Q_far (Kd.Q_far (Kd.Q_types HO233.out BK226.out (by decide)) (fun _ hk=>hk.2) _) (fun _ hk=>hk.2) _) (fun _ hk=>hk.2) _) (fun _ hk=>hk.1),mi83 HI0,by repeat (first | (with_reducible first | exact HB.out | apply below_alloc | apply pw_below_drewN | apply below_drew1 | refine below_set ?_ (IsS83.ge HI0.out) | refine below_set ?_ GE226.out | refine below_set ?_ GE236.out) | exact HB.out),mk HK⟩
def spec_ModelNew.f :Option (List Int × List Int × Int × List Int):=if 192 ≤ 35184372088832 then ((spec_DevNew.f).bind fun bt259=>(some ((List.replicate 192 0),bt259.1,bt259.2.1,bt259.2.2))) else (none)
set_option maxHeartbeats 8000000 in
set_option maxRecDepth 100000 in
theorem spec_ModelNew.calls  (r1:List Int) (r2:List Int) (r3:Int) (r4:List Int) (w:World) (h:spec_ModelNew.f  = some (r1,r2,r3,r4)) :
  Calls Try.prog 34 #[] w fun e w'=>∃ v0_ v1_ v3_:Value,e = .returned (.agg #[v0_,v1_,.int .i64 r3,v3_]) ∧ Kd.R (Kd.int .i64) 3 w' w.heap.size (fun k_=>some k_ ≠ (v1_:Value).ownBlock ∧ some k_ ≠ (v3_:Value).ownBlock) v0_ r1 ∧ Kd.R (Kd.int .i64) 3 w' w.heap.size (fun k_=>some k_ ≠ (v0_:Value).ownBlock ∧ some k_ ≠ (v3_:Value).ownBlock) v1_ r2 ∧ Kd.R (Kd.int .i64) 3 w' w.heap.size (fun k_=>some k_ ≠ (v0_:Value).ownBlock ∧ some k_ ≠ (v1_:Value).ownBlock) v3_ r4 ∧ Below w.heap.size w w':=by
 have hu28:=Try.underlying28
 have HB:=Az (Below.refl w.heap.size w)
 have H:(if 192 ≤ 35184372088832 then ((spec_DevNew.f).bind fun bt259=>(some ((List.replicate 192 0),bt259.1,bt259.2.1,bt259.2.2))) else (none)) = some (r1,r2,r3,r4):=h
 clear h
 by_cases c1:192 ≤ 35184372088832
 ·rw [if_pos c1] at H
  have c1b0:=eq_true c1
  have c1b1:decide (192 ≤ 35184372088832) = true:=decide_eq_true c1
  clear c1
  obtain ⟨y256,hy256⟩:∃ y_:List Int,y_ = (List.replicate 192 0):=⟨_,rfl⟩
  replace H:((spec_DevNew.f).bind fun bt259=>(some (y256,bt259.1,bt259.2.1,bt259.2.2))) = some (r1,r2,r3,r4):=by first | (rw [hy256];with_reducible exact H) | (have H2_:=(Option.bind_some _ _).symm.trans H;rw [hy256];with_reducible exact H2_) | (have H2_:=(Option.bind_some _ _).symm.trans H;with_reducible exact H2_) | with_reducible exact H | (rw [hy256];exact H) | exact H
  have Ny256:=Aside0.mk hy256
  clear hy256
  replace H:=Option.bind_eq_some_iff.mp H
  obtain ⟨⟨t259,t262,t263⟩,A20,H⟩:=H
  replace H:(some (y256,t259,t262,t263)) = some (r1,r2,r3,r4):=H
  have A2:=Aside0.mk A20
  clear A20
  simp only [Option.some.injEq,Prod.mk.injEq] at H
  obtain ⟨rfl,rfl,rfl,rfl⟩:=H
  go_enter Try.func34,Try.ntmps34
  try go_wp2_with (first | ((with_reducible refine gate_dst (N:=0) rfl ?_);refine box_event ?hg (N:=0) ?hd (cs:=#[.slice none 0 0,.slice none 0 0,.int .i64 0,.slice none 0 0]) (t:=28) ?hr ?_;(case hd=>rfl);(case hg=>rfl);(case hr=>first | (go_simp;done) | (go_simp;rfl));intro gb255 hg w3 hbox hb;have n0_:=Az (below_step (mb HB) hb);have n1_:=Az (hbox);have n2_:=Az ((by rw [hg];exact (below_size (mb HB)):w.heap.size ≤ gb255));have n3_:=Az ((by rw [hg];exact (below_size (mb HB)):w.heap.size ≤ gb255));clear HB;have HB:=n0_;have BK255:=n1_;have GW255:=n2_;have GE255:=n3_;clear n0_ n1_ n2_ n3_;clear hb hbox hg))
  have n0_:=Az (blk_drew BK255.out)
  have n1_:=Az (below_drew1 HB.out)
  clear BK255 HB
  have BK255:=n0_
  have HB:=n1_
  clear n0_ n1_
  refine start_ (n:=4) (S:=fun w'=>True) (ds:=[]) #[false,false,false,false] (by kernel_rfl) rfl rfl trivial (fun hHeld=>?_)
  generalize w3.drew = w4 at BK255 HB hHeld ⊢
  refine join_ (σ:=Value × Value × Value) 2 #[true,true,false,false] (fun s_=>[(1,s_.1),(2,.agg #[s_.2.1,.int .i64 t262,s_.2.2])]) (fun s_ w'=>(Kd.R (Kd.int .i64) 3 w' w.heap.size (fun k_=>some k_ ≠ (s_.2.1:Value).ownBlock ∧ some k_ ≠ (s_.2.2:Value).ownBlock) s_.1 y256) ∧ (Kd.R (Kd.int .i64) 3 w' w.heap.size (fun k_=>some k_ ≠ (s_.1:Value).ownBlock ∧ some k_ ≠ (s_.2.2:Value).ownBlock) s_.2.1 t259) ∧ (Kd.R (Kd.int .i64) 3 w' w.heap.size (fun k_=>some k_ ≠ (s_.1:Value).ownBlock ∧ some k_ ≠ (s_.2.1:Value).ownBlock) s_.2.2 t263) ∧ (w'.heap[gb255]? = some (.cells #[.slice none 0 0,.slice none 0 0,.int .i64 0,.slice none 0 0] 28 (0,0))) ∧ (Below w.heap.size w w')) ?_ ?_
  rotate_left
  ·intro hCont
   refine two_ (i:=0) (j:=1) (Ni:=some 1) (Nj:=some 2) #[true,false,false,false] #[false,true,false,false] rfl rfl rfl rfl (by kernel_rfl) (by decide) (by decide) (fun K hK=>?_) (fun K hK=>?_)
   ·skip
    refine Kd.R_make_step (Kd.int .i64) _ 3 (by rfl) (N:=1) rfl 24 _ _ rfl 192 rfl rfl Try.underlying24 (.int .i64 0) 8 info3 rfl (by decide) (by omega) 0 (ok:=fun _=>True) (okp:=fun _=>True) rfl (fun _ hk=>hk) trivial (by omega) (by omega) (Below.refl _ _) (Nat.le_refl _) ?_
    intro v257 w5 ho6 hb hg_ hnew_
    clear hg_ hnew_
    (first | rw [← Ny256.out] at ho6 | (simp only [Int.reduceToNat] at ho6;rw [← Ny256.out] at ho6))
    have n0_:=Az (Kd.R_lower ho6 (below_size (mb HB)))
    have n1_:=Az (blk_below (mz BK255) hb)
    have n2_:=Az (below_step (mb HB) hb)
    clear BK255 HB
    have HO258:=n0_
    have BK255:=n1_
    have HB:=n2_
    clear n0_ n1_ n2_ hb ho6
    refine hK.out _ _ trivial (fun hHeld=>?_)
    clear hK K
    refine norm_ (a':=?_) ?_ ?_
    rotate_left
    ·show Act.put _ (some 1) _ = _
     simp only [Act.put,List.setIfInBounds_toArray,List.set_cons_zero,List.set_cons_succ,i64_w,i32_w]
     rfl
    refine one_ (i:=1) (N:=some 2) #[true,true,false,false] rfl rfl (by kernel_rfl) (by decide) (fun K hK=>?_)
    refine goes_ Try.func25 (by kernel_rfl) rfl #[] (by rfl) rfl rfl ml ?_
    with_reducible refine (spec_DevNew.calls  t259 t262 t263 _ A2.out).mono ?_
    rintro e w7 ⟨v260,v264,rfl,ho0,ho1,hb⟩
    refine ⟨_,rfl,?_⟩
    have n0_:=Az (Kd.R_mono (Kd.R_told (Kd.R_told (Kd.R_old (mr HO258) hb) (Kd.R_base ho0)) (Kd.R_base ho1)) (fun _ h_=>h_.1))
    have n1_:=Az (Kd.R_lower (Kd.R_new' ho0 (Kd.R_lt (mr HO258))) (below_size (mb HB)))
    have n2_:=Az (Kd.R_lower (Kd.R_new' ho1 (Kd.R_lt (mr HO258))) (below_size (mb HB)))
    have n3_:=Az (blk_below (mz BK255) hb)
    have n4_:=Az (below_step (mb HB) hb)
    clear HO258 BK255 HB
    have HO258:=n0_
    have HO261:=n1_
    have HO265:=n2_
    have BK255:=n3_
    have HB:=n4_
    clear n0_ n1_ n2_ n3_ n4_
    (try clear hb)
    (try clear hb2)
    (try clear hk)
    (try clear hi)
    (try clear ho0)
    (try clear ho1)
    obtain ⟨Ao8,co8,eo8⟩:=Kd.R_slice HO265.out
    (first | subst eo8 | (injection eo8 with f1_ f2_ f3_;have f4_:=f1_.symm;have f5_:=f3_.symm;clear f1_ f2_ f3_;subst f4_;subst f5_))
    obtain ⟨Ao9,co9,eo9⟩:=Kd.R_slice HO261.out
    (first | subst eo9 | (injection eo9 with f1_ f2_ f3_;have f4_:=f1_.symm;have f5_:=f3_.symm;clear f1_ f2_ f3_;subst f4_;subst f5_))
    obtain ⟨Ao10,co10,eo10⟩:=Kd.R_slice HO258.out
    (first | subst eo10 | (injection eo10 with f1_ f2_ f3_;have f4_:=f1_.symm;have f5_:=f3_.symm;clear f1_ f2_ f3_;subst f4_;subst f5_))
    refine hK.out _ _ trivial (fun hHeld=>?_)
    clear hK K
    refine norm_ (a':=?_) ?_ ?_
    rotate_left
    ·show Act.put _ (some 2) _ = _
     simp only [Act.put,List.setIfInBounds_toArray,List.set_cons_zero,List.set_cons_succ,i64_w,i32_w]
     rfl
    exact norm_ (by simp only [putAll,Act.put,List.setIfInBounds_toArray,List.set_cons_zero,List.set_cons_succ]) (hCont (.slice Ao10 y256.length co10,.slice Ao9 t259.length co9,.slice Ao8 t263.length co8) _ ⟨(by (with_reducible repeat (first | apply Kd.R_alloc | apply Kd.R_drewN | apply Kd.R_drew));exact Kd.R_mono HO258.out (fun _ hk=>⟨hk.1.2,hk.2⟩)),(by (with_reducible repeat (first | apply Kd.R_alloc | apply Kd.R_drewN | apply Kd.R_drew));exact Kd.R_mono HO261.out (fun _ hk=>⟨hk.2,hk.1⟩)),(by (with_reducible repeat (first | apply Kd.R_alloc | apply Kd.R_drewN | apply Kd.R_drew));exact Kd.R_mono HO265.out (fun _ hk=>⟨hk.2,hk.1⟩)),(mz BK255),(mb HB)⟩)
   ·skip
    refine goes_ Try.func25 (by kernel_rfl) rfl #[] (by rfl) rfl rfl ml ?_
    with_reducible refine (spec_DevNew.calls  t259 t262 t263 _ A2.out).mono ?_
    rintro e w5 ⟨v260,v264,rfl,ho0,ho1,hb⟩
    refine ⟨_,rfl,?_⟩
    have n0_:=Az (Kd.R_lower ho0 (below_size (mb HB)))
    have n1_:=Az (Kd.R_lower ho1 (below_size (mb HB)))
    have n2_:=Az (blk_below (mz BK255) hb)
    have n3_:=Az (below_step (mb HB) hb)
    clear BK255 HB
    have HO261:=n0_
    have HO265:=n1_
    have BK255:=n2_
    have HB:=n3_
    clear n0_ n1_ n2_ n3_
    (try clear hb)
    (try clear hb2)
    (try clear hk)
    (try clear hi)
    (try clear ho0)
    (try clear ho1)
    refine hK.out _ _ trivial (fun hHeld=>?_)
    clear hK K
    refine norm_ (a':=?_) ?_ ?_
    rotate_left
    ·show Act.put _ (some 2) _ = _
     simp only [Act.put,List.setIfInBounds_toArray,List.set_cons_zero,List.set_cons_succ,i64_w,i32_w]
     rfl
    refine one_ (i:=0) (N:=some 1) #[true,true,false,false] rfl rfl (by kernel_rfl) (by decide) (fun K hK=>?_)
    refine Kd.R_make_step (Kd.int .i64) _ 3 (by rfl) (N:=1) rfl 24 _ _ rfl 192 rfl rfl Try.underlying24 (.int .i64 0) 8 info3 rfl (by decide) (by omega) 0 (ok:=fun _=>True) (okp:=fun _=>True) rfl (fun _ hk=>hk) trivial (by omega) (by omega) (Below.refl _ _) (Nat.le_refl _) ?_
    intro v257 w6 ho7 hb hg_ hnew_
    clear hg_ hnew_
    (first | rw [← Ny256.out] at ho7 | (simp only [Int.reduceToNat] at ho7;rw [← Ny256.out] at ho7))
    have n0_:=Az (Kd.R_elder' (mr HO261) (Kd.R_base ho7) hb)
    have n1_:=Az (Kd.R_elder' (mr HO265) (Kd.R_base ho7) hb)
    have n2_:=Az (Kd.R_lower (Kd.R_new' (Kd.R_new' ho7 (Kd.R_lt (mr HO261))) (Kd.R_lt (mr HO265))) (below_size (mb HB)))
    have n3_:=Az (blk_below (mz BK255) hb)
    have n4_:=Az (below_step (mb HB) hb)
    clear HO261 HO265 BK255 HB
    have HO261:=n0_
    have HO265:=n1_
    have HO258:=n2_
    have BK255:=n3_
    have HB:=n4_
    clear n0_ n1_ n2_ n3_ n4_ hb ho7
    obtain ⟨Ao8,co8,eo8⟩:=Kd.R_slice HO265.out
    (first | subst eo8 | (injection eo8 with f1_ f2_ f3_;have f4_:=f1_.symm;have f5_:=f3_.symm;clear f1_ f2_ f3_;subst f4_;subst f5_))
    obtain ⟨Ao9,co9,eo9⟩:=Kd.R_slice HO261.out
    (first | subst eo9 | (injection eo9 with f1_ f2_ f3_;have f4_:=f1_.symm;have f5_:=f3_.symm;clear f1_ f2_ f3_;subst f4_;subst f5_))
    obtain ⟨Ao10,co10,eo10⟩:=Kd.R_slice HO258.out
    (first | subst eo10 | (injection eo10 with f1_ f2_ f3_;have f4_:=f1_.symm;have f5_:=f3_.symm;clear f1_ f2_ f3_;subst f4_;subst f5_))
    refine hK.out _ _ trivial (fun hHeld=>?_)
    clear hK K
    refine norm_ (a':=?_) ?_ ?_
    rotate_left
    ·show Act.put _ (some 1) _ = _
     simp only [Act.put,List.setIfInBounds_toArray,List.set_cons_zero,List.set_cons_succ,i64_w,i32_w]
     rfl
    exact norm_ (by simp only [putAll,Act.put,List.setIfInBounds_toArray,List.set_cons_zero,List.set_cons_succ]) (hCont (.slice Ao10 y256.length co10,.slice Ao9 t259.length co9,.slice Ao8 t263.length co8) _ ⟨(by (with_reducible repeat (first | apply Kd.R_alloc | apply Kd.R_drewN | apply Kd.R_drew));exact Kd.R_mono HO258.out (fun _ hk=>⟨hk.1.2,hk.2⟩)),(by (with_reducible repeat (first | apply Kd.R_alloc | apply Kd.R_drewN | apply Kd.R_drew));exact Kd.R_mono HO261.out (fun _ hk=>⟨hk.2,hk.1⟩)),(by (with_reducible repeat (first | apply Kd.R_alloc | apply Kd.R_drewN | apply Kd.R_drew));exact Kd.R_mono HO265.out (fun _ hk=>⟨hk.2,hk.1⟩)),(mz BK255),(mb HB)⟩)
  rintro ⟨v257,v260,v264⟩ w11 ⟨h0_,h1_,h2_,h3_,h4_⟩
  have n0_:Aside0 (Kd.R (Kd.int .i64) 3 w11 w.heap.size (fun k_=>some k_ ≠ (v260:Value).ownBlock ∧ some k_ ≠ (v264:Value).ownBlock) v257 y256):=⟨h0_⟩
  have n1_:Aside0 (Kd.R (Kd.int .i64) 3 w11 w.heap.size (fun k_=>some k_ ≠ (v257:Value).ownBlock ∧ some k_ ≠ (v264:Value).ownBlock) v260 t259):=⟨h1_⟩
  have n2_:Aside0 (Kd.R (Kd.int .i64) 3 w11 w.heap.size (fun k_=>some k_ ≠ (v257:Value).ownBlock ∧ some k_ ≠ (v260:Value).ownBlock) v264 t263):=⟨h2_⟩
  have n3_:Aside0 (w11.heap[gb255]? = some (.cells #[.slice none 0 0,.slice none 0 0,.int .i64 0,.slice none 0 0] 28 (0,0))):=⟨h3_⟩
  have n4_:Aside0 (Below w.heap.size w w11):=⟨h4_⟩
  clear BK255 HB h0_ h1_ h2_ h3_ h4_
  have HO258:=n0_
  have HO261:=n1_
  have HO265:=n2_
  have BK255:=n3_
  have HB:=n4_
  clear n0_ n1_ n2_ n3_ n4_
  have hHeld:=trivial
  obtain ⟨Ao12,co12,eo12⟩:=Kd.R_slice HO265.out
  (first | subst eo12 | (injection eo12 with f1_ f2_ f3_;have f4_:=f1_.symm;have f5_:=f3_.symm;clear f1_ f2_ f3_;subst f4_;subst f5_))
  obtain ⟨Ao13,co13,eo13⟩:=Kd.R_slice HO261.out
  (first | subst eo13 | (injection eo13 with f1_ f2_ f3_;have f4_:=f1_.symm;have f5_:=f3_.symm;clear f1_ f2_ f3_;subst f4_;subst f5_))
  obtain ⟨Ao14,co14,eo14⟩:=Kd.R_slice HO258.out
  (first | subst eo14 | (injection eo14 with f1_ f2_ f3_;have f4_:=f1_.symm;have f5_:=f3_.symm;clear f1_ f2_ f3_;subst f4_;subst f5_))
  refine norm_ (a':=?_) ?_ ?_
  rotate_left
  ·simp only [putAll,Act.put,List.setIfInBounds_toArray,List.set_cons_zero,List.set_cons_succ]
   rfl
  refine pure_ (i:=2) (N:=some 3) (v:=?_) (a':=?_) #[true,true,true,false] rfl rfl (by kernel_rfl) (fun _ _ _ h=>h) (Or.inl ⟨by rfl,?_⟩) ?_ ?_
  rotate_left
  ·intro w'
   go_simp
   with_reducible rfl
  rotate_left
  ·simp only [Act.put,List.setIfInBounds_toArray,List.set_cons_zero,List.set_cons_succ,i64_w,i32_w]
   rfl
  refine one_ (i:=3) (N:=none) #[true,true,true,true] rfl rfl (by kernel_rfl) (by decide) (fun K hK=>?_)
  have hs15:w11.cell? ⟨gb255,0,none⟩ = some (.slice none 0 0):=(blk_cell BK255.out 0).trans rfl
  have hfs15:=blk_frozen BK255.out 0
  have hs16:w11.cell? ⟨gb255,1,none⟩ = some (.slice none 0 0):=(blk_cell BK255.out 1).trans rfl
  have hfs16:=blk_frozen BK255.out 1
  have hs17:w11.cell? ⟨gb255,2,none⟩ = some (.int .i64 0):=(blk_cell BK255.out 2).trans rfl
  have hfs17:=blk_frozen BK255.out 2
  have hs18:w11.cell? ⟨gb255,3,none⟩ = some (.slice none 0 0):=(blk_cell BK255.out 3).trans rfl
  have hfs18:=blk_frozen BK255.out 3
  refine skip_ (w1:=?_) (by rfl) rfl ?_ ?_
  rotate_left
  ·go_simp
   rfl
  refine hK.out _ _ trivial (fun hHeld=>?_)
  clear hK K
  refine done_ (by kernel_rfl) ?_
  try go_wp2
  refine bodyPost_ret (results_cell_row rfl _ _ gb255 28 #[.slice Ao14 y256.length co14,.slice Ao13 t259.length co13,.int .i64 t262,.slice Ao12 t263.length co12] (0,0) _ rfl (by refine ms ?_;refine blk_put (cs:=#[.slice Ao14 y256.length co14,.slice Ao13 t259.length co13,.int .i64 t262,.slice none 0 0]) ?_ 3 _ rfl;refine ms ?_;refine blk_put (cs:=#[.slice Ao14 y256.length co14,.slice Ao13 t259.length co13,.int .i64 0,.slice none 0 0]) ?_ 2 _ rfl;refine ms ?_;refine blk_put (cs:=#[.slice Ao14 y256.length co14,.slice none 0 0,.int .i64 0,.slice none 0 0]) ?_ 1 _ rfl;refine ms ?_;refine blk_put (cs:=#[.slice none 0 0,.slice none 0 0,.int .i64 0,.slice none 0 0]) ?_ 0 _ rfl;refine ms ?_;exact BK255.out) Try.underlying28 rfl (by kernel_rfl)) rfl ?_
  exact ⟨_,_,_,by first | rfl | (simp [errW_none,errW_some] <;> rfl) | (simp [*,errW_none,errW_some] <;> rfl),by (with_reducible repeat (first | apply Kd.R_alloc | apply Kd.R_drewN | apply Kd.R_drew));exact Kd.R_mono (Kd.R_far (Kd.R_far (Kd.R_far (Kd.R_far (Kd.R_types HO258.out BK255.out (by decide)) (fun _ hk=>hk.2) _) (fun _ hk=>hk.2) _) (fun _ hk=>hk.2) _) (fun _ hk=>hk.2) _) (fun _ hk=>⟨hk.1.1,hk.1.2⟩),by (with_reducible repeat (first | apply Kd.R_alloc | apply Kd.R_drewN | apply Kd.R_drew));exact Kd.R_mono (Kd.R_far (Kd.R_far (Kd.R_far (Kd.R_far (Kd.R_types HO261.out BK255.out (by decide)) (fun _ hk=>hk.2) _) (fun _ hk=>hk.2) _) (fun _ hk=>hk.2) _) (fun _ hk=>hk.2) _) (fun _ hk=>⟨hk.1.1,hk.1.2⟩),by (with_reducible repeat (first | apply Kd.R_alloc | apply Kd.R_drewN | apply Kd.R_drew));exact Kd.R_mono (Kd.R_far (Kd.R_far (Kd.R_far (Kd.R_far (Kd.R_types HO265.out BK255.out (by decide)) (fun _ hk=>hk.2) _) (fun _ hk=>hk.2) _) (fun _ hk=>hk.2) _) (fun _ hk=>hk.2) _) (fun _ hk=>⟨hk.1.1,hk.1.2⟩),mb HB⟩
 ·rw [if_neg c1] at H
  exact absurd H (by simp)
end Go.Proofs.Ythikbgjlcdkoaaa.MFnModels

