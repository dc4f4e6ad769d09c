-- Written for this claim by a program of the session (wip/mk.py) over the kit's print.
import Derived.Test.YthikbgjlcdkoaaaMFnModelsx0
import Derived.Test.YthikbgjlcdkoaaaMFnModelsx1
import Derived.Test.YthikbgjlcdkoaaaMFnModelsx3
import Derived.Test.YthikbgjlcdkoaaaMFnModelsx10
import Derived.Test.YthikbgjlcdkoaaaMFnModelsx11
namespace Go.Proofs.Ythikbgjlcdkoaaa.MFnModels
open Go.RowKit Go.Proofs.YthikbgjlcdkoaaaW.PrintWords Go.Proofs.YthikbgjlcdkoaaaW.PrintLast Go.Proofs.YthikbgjlcdkoaaaW.PrintMore
attribute [local go_sem] max2_int min2_int max_two min_two max_three min_three max_four min_four
set_option linter.unusedVariables false
set_option linter.unusedSimpArgs false
mutual
def spec_ModelDo.j0:Nat → Bool → Int → Int → Int → Bool → List Int → List Int → Int → List Int → List Int → List Int → Int → List Int → Option (List Int × List Int × Int × List Int × Int × Int)
 | 0,_,_,_,_,_,_,_,_,_,_,_,_,_=>none
 | k + 1,x1,x2,x3,x4,x40,x591000,x591001,x591002,x591003,x603000,x603001,x603002,x603003=>if x40 = true then (some (x603000,x603001,x603002,x603003,0,1)) else ((spec_SlaveOf.f k x2).bind fun t607=>(if t607 = 1 then (spec_ModelDo.j1 k x1 x2 x3 x4 t607 (t607 == 1) x591000 x591001 x591002 x591003 x603000 x603001 x603002 x603003) else (spec_ModelDo.j1 k x1 x2 x3 x4 t607 (t607 == 2) x591000 x591001 x591002 x591003 x603000 x603001 x603002 x603003)))
def spec_ModelDo.j1:Nat → Bool → Int → Int → Int → Int → Bool → List Int → List Int → Int → List Int → List Int → List Int → Int → List Int → Option (List Int × List Int × Int × List Int × Int × Int)
 | 0,_,_,_,_,_,_,_,_,_,_,_,_,_,_=>none
 | k + 1,x1,x2,x3,x4,x43,x44,x591000,x591001,x591002,x591003,x603000,x603001,x603002,x603003=>if x44 = true then (if x1 = true then ((spec_PutNum.f k x591000 x2 x3 x4).bind fun bt608=>(some (bt608.1,x603001,x603002,x603003,x4,0))) else ((spec_GetNum.f k x591000 x2 x3).bind fun bt612=>(some (x603000,x603001,x603002,x603003,bt612.1,0)))) else (if x43 = 3 then ((spec_DevDo.f k x591001 x591002 x591003 x1 (wrap64 (x2 - 192)) x4).bind fun bt614=>(if x3 = 2 then (if bt614.2.2.2.2 = true then (some (x603000,bt614.1,bt614.2.1,bt614.2.2.1,bt614.2.2.2.1,0)) else (some (x603000,x603001,x603002,x603003,0,1))) else (some (x603000,x603001,x603002,x603003,0,1)))) else (some (x603000,x603001,x603002,x603003,0,1)))
end
def spec_ModelDo.f (k:Nat) (l0_0:List Int) (l0_1:List Int) (a0_2:Int) (l0_3:List Int) (a1:Bool) (a2:Int) (a3:Int) (a4:Int):Option (List Int × List Int × Int × List Int × Int × Int):=(spec_l9Copy.f l0_0 l0_1 a0_2 l0_3).bind fun bt592=>((spec_ModelOk.f k l0_0 l0_1 a0_2 l0_3).bind fun t603=>(if t603 = true then ((spec_Aligned.f a2 a3).bind fun t604=>(if t604 = true then (if a1 = true then ((spec_LimitOf.f a3).bind fun t605=>((spec_l1In.f a4 0 (wrap64 (t605 - 1))).bind fun t606=>(spec_ModelDo.j0 k a1 a2 a3 a4 (!t606) l0_0 l0_1 a0_2 l0_3 bt592.1 bt592.2.1 bt592.2.2.1 bt592.2.2.2))) else (spec_ModelDo.j0 k a1 a2 a3 a4 false l0_0 l0_1 a0_2 l0_3 bt592.1 bt592.2.1 bt592.2.2.1 bt592.2.2.2)) else (spec_ModelDo.j0 k a1 a2 a3 a4 true l0_0 l0_1 a0_2 l0_3 bt592.1 bt592.2.1 bt592.2.2.1 bt592.2.2.2))) else (spec_ModelDo.j0 k a1 a2 a3 a4 true l0_0 l0_1 a0_2 l0_3 bt592.1 bt592.2.1 bt592.2.2.1 bt592.2.2.2)))
set_option maxHeartbeats 8000000 in
set_option maxRecDepth 100000 in
theorem spec_ModelDo.calls (k:Nat) (A0_0:Option Addr) (c0_0:Nat) (l0_0:List Int) (A0_1:Option Addr) (c0_1:Nat) (l0_1:List Int) (a0_2:Int) (A0_3:Option Addr) (c0_3:Nat) (l0_3:List Int) (a1:Bool) (a2:Int) (a3:Int) (a4:Int) (r1:List Int) (r2:List Int) (r3:Int) (r4:List Int) (r5:Int) (r6:Int) (w:World) (hr0_0:Kd.C (Kd.int .i64) w A0_0 l0_0.length l0_0) (hc0_0:l0_0.length ≤ c0_0) (hr0_1:Kd.C (Kd.int .i64) w A0_1 l0_1.length l0_1) (hc0_1:l0_1.length ≤ c0_1) (hr0_3:Kd.C (Kd.int .i64) w A0_3 l0_3.length l0_3) (hc0_3:l0_3.length ≤ c0_3) (h:spec_ModelDo.f k l0_0 l0_1 a0_2 l0_3 a1 a2 a3 a4 = some (r1,r2,r3,r4,r5,r6)) :
  Calls Try.prog 16 #[.agg #[.slice A0_0 l0_0.length c0_0,.slice A0_1 l0_1.length c0_1,.int .i64 a0_2,.slice A0_3 l0_3.length c0_3],.bool a1,.int .i64 a2,.int .i64 a3,.int .i64 a4] w fun e w'=>∃ v0_ v1_ v3_:Value,e = .returned (.tuple #[.agg #[v0_,v1_,.int .i64 r3,v3_],.int .i64 r5,.int .i64 r6]) ∧ Kd.R (Kd.int .i64) 3 w' w.heap.size (fun k_=>some k_ ≠ (v1_:Value).ownBlock ∧ some k_ ≠ (v3_:Value).ownBlock) v0_ r1 ∧ Kd.R (Kd.int .i64) 3 w' w.heap.size (fun k_=>some k_ ≠ (v0_:Value).ownBlock ∧ some k_ ≠ (v3_:Value).ownBlock) v1_ r2 ∧ Kd.Q (Kd.int .i64) 3 w' w.heap.size (fun k_=>some k_ ≠ (v0_:Value).ownBlock ∧ some k_ ≠ (v1_:Value).ownBlock) v3_ r4 ∧ Below w.heap.size w w':=by
 have hu28:=Try.underlying28
 have hu26:=Try.underlying26
 have HR0_0:=Aside0.mk hr0_0
 have HC0_0:=Aside0.mk hc0_0
 clear hr0_0 hc0_0
 have HR0_1:=Aside0.mk hr0_1
 have HC0_1:=Aside0.mk hc0_1
 clear hr0_1 hc0_1
 have HR0_3:=Aside0.mk hr0_3
 have HC0_3:=Aside0.mk hc0_3
 clear hr0_3 hc0_3
 have HB:=Az (Below.refl w.heap.size w)
 have H:((spec_l9Copy.f l0_0 l0_1 a0_2 l0_3).bind fun bt592=>((spec_ModelOk.f k l0_0 l0_1 a0_2 l0_3).bind fun t603=>(if t603 = true then ((spec_Aligned.f a2 a3).bind fun t604=>(if t604 = true then (if a1 = true then ((spec_LimitOf.f a3).bind fun t605=>((spec_l1In.f a4 0 (wrap64 (t605 - 1))).bind fun t606=>(spec_ModelDo.j0 k a1 a2 a3 a4 (!t606) l0_0 l0_1 a0_2 l0_3 bt592.1 bt592.2.1 bt592.2.2.1 bt592.2.2.2))) else (spec_ModelDo.j0 k a1 a2 a3 a4 false l0_0 l0_1 a0_2 l0_3 bt592.1 bt592.2.1 bt592.2.2.1 bt592.2.2.2)) else (spec_ModelDo.j0 k a1 a2 a3 a4 true l0_0 l0_1 a0_2 l0_3 bt592.1 bt592.2.1 bt592.2.2.1 bt592.2.2.2))) else (spec_ModelDo.j0 k a1 a2 a3 a4 true l0_0 l0_1 a0_2 l0_3 bt592.1 bt592.2.1 bt592.2.2.1 bt592.2.2.2)))) = some (r1,r2,r3,r4,r5,r6):=h
 clear h
 replace H:=Option.bind_eq_some_iff.mp H
 obtain ⟨⟨t592,t595,t598,t599⟩,A60,H⟩:=H
 replace H:((spec_ModelOk.f k l0_0 l0_1 a0_2 l0_3).bind fun t603=>(if t603 = true then ((spec_Aligned.f a2 a3).bind fun t604=>(if t604 = true then (if a1 = true then ((spec_LimitOf.f a3).bind fun t605=>((spec_l1In.f a4 0 (wrap64 (t605 - 1))).bind fun t606=>(spec_ModelDo.j0 k a1 a2 a3 a4 (!t606) l0_0 l0_1 a0_2 l0_3 t592 t595 t598 t599))) else (spec_ModelDo.j0 k a1 a2 a3 a4 false l0_0 l0_1 a0_2 l0_3 t592 t595 t598 t599)) else (spec_ModelDo.j0 k a1 a2 a3 a4 true l0_0 l0_1 a0_2 l0_3 t592 t595 t598 t599))) else (spec_ModelDo.j0 k a1 a2 a3 a4 true l0_0 l0_1 a0_2 l0_3 t592 t595 t598 t599))) = some (r1,r2,r3,r4,r5,r6):=H
 have A6:=Aside0.mk A60
 clear A60
 have HC7:=Aside0.mk H
 clear H
 go_enter Try.func16,Try.ntmps16
 go_upto_region 2 with (first | ((with_reducible refine gate_dst (N:=5) rfl ?_);refine box_event ?hg (N:=5) ?hd (cs:=#[.slice A0_0 l0_0.length c0_0,.slice A0_1 l0_1.length c0_1,.int .i64 a0_2,.slice A0_3 l0_3.length c0_3]) (t:=28) ?hr ?_;(case hd=>rfl);(case hg=>rfl);(case hr=>first | (go_simp;done) | (go_simp;rfl));intro gb590 hg w8 hbox hb;have n0_:=Az (below_step (mb HB) hb);have n1_:=Az (hbox);have n2_:=Az ((by rw [hg];exact (below_size (mb HB)):w.heap.size ≤ gb590));have n3_:=Az ((by rw [hg];exact (below_size (mb HB)):w.heap.size ≤ gb590));clear HB;have HB:=n0_;have BK590:=n1_;have GW590:=n2_;have GE590:=n3_;clear n0_ n1_ n2_ n3_;clear hb hbox hg) | ((with_reducible refine gate_dst (N:=10) rfl ?_);refine box_event ?hg (N:=10) ?hd (cs:=#[.slice none 0 0,.slice none 0 0,.int .i64 0,.slice none 0 0]) (t:=28) ?hr ?_;(case hd=>rfl);(case hg=>rfl);(case hr=>first | (go_simp;done) | (go_simp;rfl));intro gb591 hg w9 hbox hb;have n0_:=Az (blk_below (mz BK590) hb);have n1_:=Az (below_step (mb HB) hb);have n2_:=Az (hbox);have n3_:=Az ((by rw [hg];exact (below_size (mb HB)):w.heap.size ≤ gb591));have n4_:=Az ((by rw [hg];exact (below_size (mb HB)):w.heap.size ≤ gb591));have n5_:=Az ((by rw [hg];exact Nat.ne_of_lt (blk_lt (mz BK590)):gb590 ≠ gb591));have n6_:=Az ((by rw [hg];exact Nat.ne_of_gt (blk_lt (mz BK590)):gb591 ≠ gb590));clear BK590 HB;have BK590:=n0_;have HB:=n1_;have BK591:=n2_;have GW591:=n3_;have GE591:=n4_;have NB590_591:=n5_;have NB591_590:=n6_;clear n0_ n1_ n2_ n3_ n4_ n5_ n6_ hb hbox hg;have hnb10:=NB590_591.out;have hnc10:=NB591_590.out;have hcz11_0:=bz0 BK590;have hcz11_1:=bz1 BK590;have hcz11_2:=bz2 BK590;have hcz11_3:=bz3 BK590;have hfz11_0:=bf BK590 0;have hfz11_1:=bf BK590 1;have hfz11_2:=bf BK590 2;have hfz11_3:=bf BK590 3) | ((with_reducible refine gate_callee (f:=55) rfl ?_);refine goesL_ (some 20) rfl rfl Try.func55 (by kernel_rfl) rfl #[.agg #[.slice A0_0 l0_0.length c0_0,.slice A0_1 l0_1.length c0_1,.int .i64 a0_2,.slice A0_3 l0_3.length c0_3]] rfl ml ?_;(with_reducible refine (spec_l9Copy.calls _ _ l0_0 _ _ l0_1 a0_2 _ _ l0_3 t592 t595 t598 t599 _ ?side1 ?side2 ?side3 ?side4 ?side5 ?side6 A6.out).mono ?_);(case side1=>exact mc (Kd.C_below HR0_0.out HB.out));(case side2=>exact HC0_0.out);(case side3=>exact mc (Kd.C_below HR0_1.out HB.out));(case side4=>exact HC0_1.out);(case side5=>exact mc (Kd.C_below HR0_3.out HB.out));(case side6=>exact HC0_3.out);rintro e w12 ⟨v593,v596,v600,rfl,ho0,ho1,ho2,hb⟩;refine ⟨_,rfl,?_⟩;have n0_:=Az (Kd.R_lower ho0 (below_size (mb HB)));have n1_:=Az (Kd.R_lower ho1 (below_size (mb HB)));have n2_:=Az (Kd.R_lower ho2 (below_size (mb HB)));have n3_:=Az (blk_below (mz BK590) hb);have n4_:=Az (blk_below (mz BK591) hb);have n5_:=Az (below_step (mb HB) hb);clear BK590 BK591 HB;have HO594:=n0_;have HO597:=n1_;have HO601:=n2_;have BK590:=n3_;have BK591:=n4_;have HB:=n5_;clear n0_ n1_ n2_ n3_ n4_ n5_;(try clear hb);(try clear hb2);(try clear hk);(try clear hi);(try clear ho0);(try clear ho1);(try clear ho2)) | ((with_reducible refine gate_dst (N:=13) rfl ?_);refine box_event ?hg (N:=13) ?hd (cs:=#[.slice none 0 0,.slice none 0 0,.int .i64 0,.slice none 0 0]) (t:=28) ?hr ?_;(case hd=>rfl);(case hg=>rfl);(case hr=>first | (go_simp;done) | (go_simp;rfl));intro gb602 hg w13 hbox hb;have n0_:=Az (Kd.R_below (mr HO594) hb);have n1_:=Az (Kd.R_below (mr HO597) hb);have n2_:=Az (Kd.R_below (mr HO601) hb);have n3_:=Az (blk_below (mz BK590) hb);have n4_:=Az (blk_below (mz BK591) hb);have n5_:=Az (below_step (mb HB) hb);have n6_:=Az (hbox);have n7_:=Az ((by rw [hg];exact (below_size (mb HB)):w.heap.size ≤ gb602));have n8_:=Az ((by rw [hg];exact (below_size (mb HB)):w.heap.size ≤ gb602));have n9_:=Az ((by rw [hg];exact Nat.ne_of_lt (blk_lt (mz BK590)):gb590 ≠ gb602));have n10_:=Az ((by rw [hg];exact Nat.ne_of_gt (blk_lt (mz BK590)):gb602 ≠ gb590));have n11_:=Az ((by rw [hg];exact Nat.ne_of_lt (blk_lt (mz BK591)):gb591 ≠ gb602));have n12_:=Az ((by rw [hg];exact Nat.ne_of_gt (blk_lt (mz BK591)):gb602 ≠ gb591));clear HO594 HO597 HO601 BK590 BK591 HB;have HO594:=n0_;have HO597:=n1_;have HO601:=n2_;have BK590:=n3_;have BK591:=n4_;have HB:=n5_;have BK602:=n6_;have GW602:=n7_;have GE602:=n8_;have NB590_602:=n9_;have NB602_590:=n10_;have NB591_602:=n11_;have NB602_591:=n12_;clear n0_ n1_ n2_ n3_ n4_ n5_ n6_ n7_ n8_ n9_ n10_ n11_ n12_ hb hbox hg;obtain ⟨Ao14,co14,eo14⟩:=Kd.R_slice HO594.out;subst eo14;have hnb15:=NB602_590.out;have hnc15:=NB590_602.out;have hnb16:=NB602_591.out;have hnc16:=NB591_602.out;have hcz17_0:=bz0 BK602;have hcz17_1:=bz1 BK602;have hcz17_2:=bz2 BK602;have hcz17_3:=bz3 BK602;have hfz17_0:=bf BK602 0;have hfz17_1:=bf BK602 1;have hfz17_2:=bf BK602 2;have hfz17_3:=bf BK602 3;obtain ⟨Ao18,co18,eo18⟩:=Kd.R_slice HO597.out;subst eo18;obtain ⟨Ao19,co19,eo19⟩:=Kd.R_slice HO601.out;subst eo19))
 (try simp only [Act.put,List.setIfInBounds_toArray,List.set_cons_zero,List.set_cons_succ])
 go_cut [40] (fun v40 wc=>∃ (kq:Nat) (x40_6:Bool),v40 = .bool x40_6 ∧ Aside0 (spec_ModelDo.j0 kq a1 a2 a3 a4 x40_6 l0_0 l0_1 a0_2 l0_3 t592 t595 t598 t599 = some (r1,r2,r3,r4,r5,r6)) ∧ Aside0 (kq ≤ k) ∧ Aside0 (Kd.R (Kd.int .i64) 3 wc w.heap.size (fun k_=>some k_ ≠ ((.slice Ao18 t595.length co18):Value).ownBlock ∧ some k_ ≠ ((.slice Ao19 t599.length co19):Value).ownBlock) (.slice Ao14 t592.length co14) t592) ∧ Aside0 (Kd.R (Kd.int .i64) 3 wc w.heap.size (fun k_=>some k_ ≠ ((.slice Ao14 t592.length co14):Value).ownBlock ∧ some k_ ≠ ((.slice Ao19 t599.length co19):Value).ownBlock) (.slice Ao18 t595.length co18) t595) ∧ Aside0 (Kd.R (Kd.int .i64) 3 wc w.heap.size (fun k_=>some k_ ≠ ((.slice Ao14 t592.length co14):Value).ownBlock ∧ some k_ ≠ ((.slice Ao18 t595.length co18):Value).ownBlock) (.slice Ao19 t599.length co19) t599) ∧ Aside0 (wc.heap[gb590]? = some (.cells #[(.slice A0_0 l0_0.length c0_0),(.slice A0_1 l0_1.length c0_1),.int .i64 a0_2,(.slice A0_3 l0_3.length c0_3)] 28 (0,0))) ∧ Aside0 (wc.heap[gb591]? = some (.cells #[(.slice none 0 0),(.slice none 0 0),.int .i64 0,(.slice none 0 0)] 28 (0,0))) ∧ Aside0 (wc.heap[gb602]? = some (.cells #[(.slice Ao14 t592.length co14),(.slice Ao18 t595.length co18),.int .i64 t598,(.slice Ao19 t599.length co19)] 28 (0,0))) ∧ Aside0 (Below w.heap.size w wc))
 case first =>
  have H:=HC7.out
  clear HC7
  replace H:=Option.bind_eq_some_iff.mp H
  obtain ⟨t603,A200,H⟩:=H
  replace H:(if t603 = true then ((spec_Aligned.f a2 a3).bind fun t604=>(if t604 = true then (if a1 = true then ((spec_LimitOf.f a3).bind fun t605=>((spec_l1In.f a4 0 (wrap64 (t605 - 1))).bind fun t606=>(spec_ModelDo.j0 k a1 a2 a3 a4 (!t606) l0_0 l0_1 a0_2 l0_3 t592 t595 t598 t599))) else (spec_ModelDo.j0 k a1 a2 a3 a4 false l0_0 l0_1 a0_2 l0_3 t592 t595 t598 t599)) else (spec_ModelDo.j0 k a1 a2 a3 a4 true l0_0 l0_1 a0_2 l0_3 t592 t595 t598 t599))) else (spec_ModelDo.j0 k a1 a2 a3 a4 true l0_0 l0_1 a0_2 l0_3 t592 t595 t598 t599)) = some (r1,r2,r3,r4,r5,r6):=H
  have A20:=Aside0.mk A200
  clear A200
  by_cases c21:t603 = true
  ·subst c21
   have H1:((spec_Aligned.f a2 a3).bind fun t604=>(if t604 = true then (if a1 = true then ((spec_LimitOf.f a3).bind fun t605=>((spec_l1In.f a4 0 (wrap64 (t605 - 1))).bind fun t606=>(spec_ModelDo.j0 k a1 a2 a3 a4 (!t606) l0_0 l0_1 a0_2 l0_3 t592 t595 t598 t599))) else (spec_ModelDo.j0 k a1 a2 a3 a4 false l0_0 l0_1 a0_2 l0_3 t592 t595 t598 t599)) else (spec_ModelDo.j0 k a1 a2 a3 a4 true l0_0 l0_1 a0_2 l0_3 t592 t595 t598 t599))) = some (r1,r2,r3,r4,r5,r6):=by rw [if_pos rfl] at H;exact H
   clear H
   have H:=H1
   clear H1
   replace H:=Option.bind_eq_some_iff.mp H
   obtain ⟨t604,A220,H⟩:=H
   replace H:(if t604 = true then (if a1 = true then ((spec_LimitOf.f a3).bind fun t605=>((spec_l1In.f a4 0 (wrap64 (t605 - 1))).bind fun t606=>(spec_ModelDo.j0 k a1 a2 a3 a4 (!t606) l0_0 l0_1 a0_2 l0_3 t592 t595 t598 t599))) else (spec_ModelDo.j0 k a1 a2 a3 a4 false l0_0 l0_1 a0_2 l0_3 t592 t595 t598 t599)) else (spec_ModelDo.j0 k a1 a2 a3 a4 true l0_0 l0_1 a0_2 l0_3 t592 t595 t598 t599)) = some (r1,r2,r3,r4,r5,r6):=H
   have A22:=Aside0.mk A220
   clear A220
   by_cases c23:t604 = true
   ·subst c23
    have H1:(if a1 = true then ((spec_LimitOf.f a3).bind fun t605=>((spec_l1In.f a4 0 (wrap64 (t605 - 1))).bind fun t606=>(spec_ModelDo.j0 k a1 a2 a3 a4 (!t606) l0_0 l0_1 a0_2 l0_3 t592 t595 t598 t599))) else (spec_ModelDo.j0 k a1 a2 a3 a4 false l0_0 l0_1 a0_2 l0_3 t592 t595 t598 t599)) = some (r1,r2,r3,r4,r5,r6):=by rw [if_pos rfl] at H;exact H
    clear H
    have H:=H1
    clear H1
    by_cases c24:a1 = true
    ·subst c24
     have H1:((spec_LimitOf.f a3).bind fun t605=>((spec_l1In.f a4 0 (wrap64 (t605 - 1))).bind fun t606=>(spec_ModelDo.j0 k true a2 a3 a4 (!t606) l0_0 l0_1 a0_2 l0_3 t592 t595 t598 t599))) = some (r1,r2,r3,r4,r5,r6):=by rw [if_pos rfl] at H;exact H
     clear H
     have H:=H1
     clear H1
     replace H:=Option.bind_eq_some_iff.mp H
     obtain ⟨t605,A250,H⟩:=H
     replace H:((spec_l1In.f a4 0 (wrap64 (t605 - 1))).bind fun t606=>(spec_ModelDo.j0 k true a2 a3 a4 (!t606) l0_0 l0_1 a0_2 l0_3 t592 t595 t598 t599)) = some (r1,r2,r3,r4,r5,r6):=H
     have A25:=Aside0.mk A250
     clear A250
     replace H:=Option.bind_eq_some_iff.mp H
     obtain ⟨t606,A260,H⟩:=H
     replace H:(spec_ModelDo.j0 k true a2 a3 a4 (!t606) l0_0 l0_1 a0_2 l0_3 t592 t595 t598 t599) = some (r1,r2,r3,r4,r5,r6):=H
     have A26:=Aside0.mk A260
     clear A260
     have H':=Aside0.mk H
     clear H
     have hnb27:=NB590_591.out
     have hnc27:=NB591_590.out
     have hnb28:=NB590_602.out
     have hnc28:=NB602_590.out
     have hcz29_0:=bz0 BK590
     have hcz29_1:=bz1 BK590
     have hcz29_2:=bz2 BK590
     have hcz29_3:=bz3 BK590
     have hfz29_0:=bf BK590 0
     have hfz29_1:=bf BK590 1
     have hfz29_2:=bf BK590 2
     have hfz29_3:=bf BK590 3
     go_wp2_with (first | ((with_reducible refine gate_callee (f:=39) rfl ?_);refine goesL_ (some 22) rfl rfl Try.func39 (by kernel_rfl) rfl #[.agg #[.slice A0_0 l0_0.length c0_0,.slice A0_1 l0_1.length c0_1,.int .i64 a0_2,.slice A0_3 l0_3.length c0_3]] rfl ml ?_;(with_reducible refine (spec_ModelOk.calls k _ _ l0_0 _ _ l0_1 a0_2 _ _ l0_3 true _ ?side1 ?side2 ?side3 ?side4 ?side5 ?side6 A20.out).mono ?_);(case side1=>exact Kd.C_below HR0_0.out (mb HB));(case side2=>exact HC0_0.out);(case side3=>exact Kd.C_below HR0_1.out (mb HB));(case side4=>exact HC0_1.out);(case side5=>exact Kd.C_below HR0_3.out (mb HB));(case side6=>exact HC0_3.out);rintro e w30 ⟨rfl,hb⟩;refine ⟨_,rfl,?_⟩;have n0_:=Az (Kd.R_below (by (with_reducible repeat (first | apply Kd.R_alloc | apply Kd.R_drewN | apply Kd.R_drew));exact (Kd.R_mono (Kd.R_far (Kd.R_far (Kd.R_far (Kd.R_far (Kd.R_types HO594.out BK602.out (by decide)) (fun _ hk=>hk.2) _) (fun _ hk=>hk.2) _) (fun _ hk=>hk.2) _) (fun _ hk=>hk.2) _) (fun _ h_=>h_.1))) hb);have n1_:=Az (Kd.R_below (by (with_reducible repeat (first | apply Kd.R_alloc | apply Kd.R_drewN | apply Kd.R_drew));exact (Kd.R_mono (Kd.R_far (Kd.R_far (Kd.R_far (Kd.R_far (Kd.R_types HO597.out BK602.out (by decide)) (fun _ hk=>hk.2) _) (fun _ hk=>hk.2) _) (fun _ hk=>hk.2) _) (fun _ hk=>hk.2) _) (fun _ h_=>h_.1))) hb);have n2_:=Az (Kd.R_below (by (with_reducible repeat (first | apply Kd.R_alloc | apply Kd.R_drewN | apply Kd.R_drew));exact (Kd.R_mono (Kd.R_far (Kd.R_far (Kd.R_far (Kd.R_far (Kd.R_types HO601.out BK602.out (by decide)) (fun _ hk=>hk.2) _) (fun _ hk=>hk.2) _) (fun _ hk=>hk.2) _) (fun _ hk=>hk.2) _) (fun _ h_=>h_.1))) hb);have n3_:=Az (blk_below (g:=gb590) (o:=.cells #[.slice A0_0 l0_0.length c0_0,.slice A0_1 l0_1.length c0_1,.int .i64 a0_2,.slice A0_3 l0_3.length c0_3] 28 (0,0)) (by refine ms ?_;refine blk_far ?_ NB590_602.out _;refine ms ?_;refine blk_far ?_ NB590_602.out _;refine ms ?_;refine blk_far ?_ NB590_602.out _;refine ms ?_;refine blk_far ?_ NB590_602.out _;refine ms ?_;exact BK590.out) hb);have n4_:=Az (blk_below (g:=gb591) (o:=.cells #[.slice none 0 0,.slice none 0 0,.int .i64 0,.slice none 0 0] 28 (0,0)) (by refine ms ?_;refine blk_far ?_ NB591_602.out _;refine ms ?_;refine blk_far ?_ NB591_602.out _;refine ms ?_;refine blk_far ?_ NB591_602.out _;refine ms ?_;refine blk_far ?_ NB591_602.out _;refine ms ?_;exact BK591.out) hb);have n5_:=Az (blk_below (g:=gb602) (o:=.cells #[.slice Ao14 t592.length co14,.slice Ao18 t595.length co18,.int .i64 t598,.slice Ao19 t599.length co19] 28 (0,0)) (by refine ms ?_;refine blk_put (cs:=#[.slice Ao14 t592.length co14,.slice Ao18 t595.length co18,.int .i64 t598,.slice none 0 0]) ?_ 3 _ rfl;refine ms ?_;refine blk_put (cs:=#[.slice Ao14 t592.length co14,.slice Ao18 t595.length co18,.int .i64 0,.slice none 0 0]) ?_ 2 _ rfl;refine ms ?_;refine blk_put (cs:=#[.slice Ao14 t592.length co14,.slice none 0 0,.int .i64 0,.slice none 0 0]) ?_ 1 _ rfl;refine ms ?_;refine blk_put (cs:=#[.slice none 0 0,.slice none 0 0,.int .i64 0,.slice none 0 0]) ?_ 0 _ rfl;refine ms ?_;exact BK602.out) hb);have n6_:=Az (below_step (mb HB) hb);clear HO594 HO597 HO601 BK590 BK591 BK602 HB;have HO594:=n0_;have HO597:=n1_;have HO601:=n2_;have BK590:=n3_;have BK591:=n4_;have BK602:=n5_;have HB:=n6_;clear n0_ n1_ n2_ n3_ n4_ n5_ n6_;(try clear hb);(try clear hb2);(try clear hk);(try clear hi)) | (go_at_call 56;(with_reducible refine (spec_Aligned.calls a2 a3 true _ A22.out).mono ?_);rintro e w' ⟨rfl,⟨nd,rfl⟩⟩) | (go_at_call 58;(with_reducible refine (spec_LimitOf.calls a3 t605 _ A25.out).mono ?_);rintro e w' ⟨rfl,⟨nd,rfl⟩⟩) | (go_at_call 57;(with_reducible refine (spec_l1In.calls a4 0 (wrap64 (t605 - 1)) t606 _ A26.out).mono ?_);rintro e w' ⟨rfl,⟨nd,rfl⟩⟩))
     go_meet
     case rel=>exact ⟨_,(!t606),(by first | rfl | (simp;done) | (simp [*];done)),H',⟨by first | omega | exact Nat.le_refl _⟩,⟨mr HO594⟩,⟨mr HO597⟩,⟨mr HO601⟩,⟨mz BK590⟩,⟨mz BK591⟩,⟨mz BK602⟩,⟨mb HB⟩⟩
    ·replace c24:=Bool.eq_false_iff.mpr c24
     subst c24
     have H1:(spec_ModelDo.j0 k false a2 a3 a4 false l0_0 l0_1 a0_2 l0_3 t592 t595 t598 t599) = some (r1,r2,r3,r4,r5,r6):=by rw [if_neg (show ¬ (false = true) by decide)] at H;exact H
     clear H
     have H:=H1
     clear H1
     have H':=Aside0.mk H
     clear H
     have hnb31:=NB590_591.out
     have hnc31:=NB591_590.out
     have hnb32:=NB590_602.out
     have hnc32:=NB602_590.out
     have hcz33_0:=bz0 BK590
     have hcz33_1:=bz1 BK590
     have hcz33_2:=bz2 BK590
     have hcz33_3:=bz3 BK590
     have hfz33_0:=bf BK590 0
     have hfz33_1:=bf BK590 1
     have hfz33_2:=bf BK590 2
     have hfz33_3:=bf BK590 3
     go_wp2_with (first | ((with_reducible refine gate_callee (f:=39) rfl ?_);refine goesL_ (some 22) rfl rfl Try.func39 (by kernel_rfl) rfl #[.agg #[.slice A0_0 l0_0.length c0_0,.slice A0_1 l0_1.length c0_1,.int .i64 a0_2,.slice A0_3 l0_3.length c0_3]] rfl ml ?_;(with_reducible refine (spec_ModelOk.calls k _ _ l0_0 _ _ l0_1 a0_2 _ _ l0_3 true _ ?side1 ?side2 ?side3 ?side4 ?side5 ?side6 A20.out).mono ?_);(case side1=>exact Kd.C_below HR0_0.out (mb HB));(case side2=>exact HC0_0.out);(case side3=>exact Kd.C_below HR0_1.out (mb HB));(case side4=>exact HC0_1.out);(case side5=>exact Kd.C_below HR0_3.out (mb HB));(case side6=>exact HC0_3.out);rintro e w34 ⟨rfl,hb⟩;refine ⟨_,rfl,?_⟩;have n0_:=Az (Kd.R_below (by (with_reducible repeat (first | apply Kd.R_alloc | apply Kd.R_drewN | apply Kd.R_drew));exact (Kd.R_mono (Kd.R_far (Kd.R_far (Kd.R_far (Kd.R_far (Kd.R_types HO594.out BK602.out (by decide)) (fun _ hk=>hk.2) _) (fun _ hk=>hk.2) _) (fun _ hk=>hk.2) _) (fun _ hk=>hk.2) _) (fun _ h_=>h_.1))) hb);have n1_:=Az (Kd.R_below (by (with_reducible repeat (first | apply Kd.R_alloc | apply Kd.R_drewN | apply Kd.R_drew));exact (Kd.R_mono (Kd.R_far (Kd.R_far (Kd.R_far (Kd.R_far (Kd.R_types HO597.out BK602.out (by decide)) (fun _ hk=>hk.2) _) (fun _ hk=>hk.2) _) (fun _ hk=>hk.2) _) (fun _ hk=>hk.2) _) (fun _ h_=>h_.1))) hb);have n2_:=Az (Kd.R_below (by (with_reducible repeat (first | apply Kd.R_alloc | apply Kd.R_drewN | apply Kd.R_drew));exact (Kd.R_mono (Kd.R_far (Kd.R_far (Kd.R_far (Kd.R_far (Kd.R_types HO601.out BK602.out (by decide)) (fun _ hk=>hk.2) _) (fun _ hk=>hk.2) _) (fun _ hk=>hk.2) _) (fun _ hk=>hk.2) _) (fun _ h_=>h_.1))) hb);have n3_:=Az (blk_below (g:=gb590) (o:=.cells #[.slice A0_0 l0_0.length c0_0,.slice A0_1 l0_1.length c0_1,.int .i64 a0_2,.slice A0_3 l0_3.length c0_3] 28 (0,0)) (by refine ms ?_;refine blk_far ?_ NB590_602.out _;refine ms ?_;refine blk_far ?_ NB590_602.out _;refine ms ?_;refine blk_far ?_ NB590_602.out _;refine ms ?_;refine blk_far ?_ NB590_602.out _;refine ms ?_;exact BK590.out) hb);have n4_:=Az (blk_below (g:=gb591) (o:=.cells #[.slice none 0 0,.slice none 0 0,.int .i64 0,.slice none 0 0] 28 (0,0)) (by refine ms ?_;refine blk_far ?_ NB591_602.out _;refine ms ?_;refine blk_far ?_ NB591_602.out _;refine ms ?_;refine blk_far ?_ NB591_602.out _;refine ms ?_;refine blk_far ?_ NB591_602.out _;refine ms ?_;exact BK591.out) hb);have n5_:=Az (blk_below (g:=gb602) (o:=.cells #[.slice Ao14 t592.length co14,.slice Ao18 t595.length co18,.int .i64 t598,.slice Ao19 t599.length co19] 28 (0,0)) (by refine ms ?_;refine blk_put (cs:=#[.slice Ao14 t592.length co14,.slice Ao18 t595.length co18,.int .i64 t598,.slice none 0 0]) ?_ 3 _ rfl;refine ms ?_;refine blk_put (cs:=#[.slice Ao14 t592.length co14,.slice Ao18 t595.length co18,.int .i64 0,.slice none 0 0]) ?_ 2 _ rfl;refine ms ?_;refine blk_put (cs:=#[.slice Ao14 t592.length co14,.slice none 0 0,.int .i64 0,.slice none 0 0]) ?_ 1 _ rfl;refine ms ?_;refine blk_put (cs:=#[.slice none 0 0,.slice none 0 0,.int .i64 0,.slice none 0 0]) ?_ 0 _ rfl;refine ms ?_;exact BK602.out) hb);have n6_:=Az (below_step (mb HB) hb);clear HO594 HO597 HO601 BK590 BK591 BK602 HB;have HO594:=n0_;have HO597:=n1_;have HO601:=n2_;have BK590:=n3_;have BK591:=n4_;have BK602:=n5_;have HB:=n6_;clear n0_ n1_ n2_ n3_ n4_ n5_ n6_;(try clear hb);(try clear hb2);(try clear hk);(try clear hi)) | (go_at_call 56;(with_reducible refine (spec_Aligned.calls a2 a3 true _ A22.out).mono ?_);rintro e w' ⟨rfl,⟨nd,rfl⟩⟩))
     go_meet
     case rel=>exact ⟨_,(false),(by first | rfl | (simp;done) | (simp [*];done)),H',⟨by first | omega | exact Nat.le_refl _⟩,⟨mr HO594⟩,⟨mr HO597⟩,⟨mr HO601⟩,⟨mz BK590⟩,⟨mz BK591⟩,⟨mz BK602⟩,⟨mb HB⟩⟩
   ·replace c23:=Bool.eq_false_iff.mpr c23
    subst c23
    have H1:(spec_ModelDo.j0 k a1 a2 a3 a4 true l0_0 l0_1 a0_2 l0_3 t592 t595 t598 t599) = some (r1,r2,r3,r4,r5,r6):=by rw [if_neg (show ¬ (false = true) by decide)] at H;exact H
    clear H
    have H:=H1
    clear H1
    have H':=Aside0.mk H
    clear H
    have hnb35:=NB590_591.out
    have hnc35:=NB591_590.out
    have hnb36:=NB590_602.out
    have hnc36:=NB602_590.out
    have hcz37_0:=bz0 BK590
    have hcz37_1:=bz1 BK590
    have hcz37_2:=bz2 BK590
    have hcz37_3:=bz3 BK590
    have hfz37_0:=bf BK590 0
    have hfz37_1:=bf BK590 1
    have hfz37_2:=bf BK590 2
    have hfz37_3:=bf BK590 3
    go_wp2_with (first | ((with_reducible refine gate_callee (f:=39) rfl ?_);refine goesL_ (some 22) rfl rfl Try.func39 (by kernel_rfl) rfl #[.agg #[.slice A0_0 l0_0.length c0_0,.slice A0_1 l0_1.length c0_1,.int .i64 a0_2,.slice A0_3 l0_3.length c0_3]] rfl ml ?_;(with_reducible refine (spec_ModelOk.calls k _ _ l0_0 _ _ l0_1 a0_2 _ _ l0_3 true _ ?side1 ?side2 ?side3 ?side4 ?side5 ?side6 A20.out).mono ?_);(case side1=>exact Kd.C_below HR0_0.out (mb HB));(case side2=>exact HC0_0.out);(case side3=>exact Kd.C_below HR0_1.out (mb HB));(case side4=>exact HC0_1.out);(case side5=>exact Kd.C_below HR0_3.out (mb HB));(case side6=>exact HC0_3.out);rintro e w38 ⟨rfl,hb⟩;refine ⟨_,rfl,?_⟩;have n0_:=Az (Kd.R_below (by (with_reducible repeat (first | apply Kd.R_alloc | apply Kd.R_drewN | apply Kd.R_drew));exact (Kd.R_mono (Kd.R_far (Kd.R_far (Kd.R_far (Kd.R_far (Kd.R_types HO594.out BK602.out (by decide)) (fun _ hk=>hk.2) _) (fun _ hk=>hk.2) _) (fun _ hk=>hk.2) _) (fun _ hk=>hk.2) _) (fun _ h_=>h_.1))) hb);have n1_:=Az (Kd.R_below (by (with_reducible repeat (first | apply Kd.R_alloc | apply Kd.R_drewN | apply Kd.R_drew));exact (Kd.R_mono (Kd.R_far (Kd.R_far (Kd.R_far (Kd.R_far (Kd.R_types HO597.out BK602.out (by decide)) (fun _ hk=>hk.2) _) (fun _ hk=>hk.2) _) (fun _ hk=>hk.2) _) (fun _ hk=>hk.2) _) (fun _ h_=>h_.1))) hb);have n2_:=Az (Kd.R_below (by (with_reducible repeat (first | apply Kd.R_alloc | apply Kd.R_drewN | apply Kd.R_drew));exact (Kd.R_mono (Kd.R_far (Kd.R_far (Kd.R_far (Kd.R_far (Kd.R_types HO601.out BK602.out (by decide)) (fun _ hk=>hk.2) _) (fun _ hk=>hk.2) _) (fun _ hk=>hk.2) _) (fun _ hk=>hk.2) _) (fun _ h_=>h_.1))) hb);have n3_:=Az (blk_below (g:=gb590) (o:=.cells #[.slice A0_0 l0_0.length c0_0,.slice A0_1 l0_1.length c0_1,.int .i64 a0_2,.slice A0_3 l0_3.length c0_3] 28 (0,0)) (by refine ms ?_;refine blk_far ?_ NB590_602.out _;refine ms ?_;refine blk_far ?_ NB590_602.out _;refine ms ?_;refine blk_far ?_ NB590_602.out _;refine ms ?_;refine blk_far ?_ NB590_602.out _;refine ms ?_;exact BK590.out) hb);have n4_:=Az (blk_below (g:=gb591) (o:=.cells #[.slice none 0 0,.slice none 0 0,.int .i64 0,.slice none 0 0] 28 (0,0)) (by refine ms ?_;refine blk_far ?_ NB591_602.out _;refine ms ?_;refine blk_far ?_ NB591_602.out _;refine ms ?_;refine blk_far ?_ NB591_602.out _;refine ms ?_;refine blk_far ?_ NB591_602.out _;refine ms ?_;exact BK591.out) hb);have n5_:=Az (blk_below (g:=gb602) (o:=.cells #[.slice Ao14 t592.length co14,.slice Ao18 t595.length co18,.int .i64 t598,.slice Ao19 t599.length co19] 28 (0,0)) (by refine ms ?_;refine blk_put (cs:=#[.slice Ao14 t592.length co14,.slice Ao18 t595.length co18,.int .i64 t598,.slice none 0 0]) ?_ 3 _ rfl;refine ms ?_;refine blk_put (cs:=#[.slice Ao14 t592.length co14,.slice Ao18 t595.length co18,.int .i64 0,.slice none 0 0]) ?_ 2 _ rfl;refine ms ?_;refine blk_put (cs:=#[.slice Ao14 t592.length co14,.slice none 0 0,.int .i64 0,.slice none 0 0]) ?_ 1 _ rfl;refine ms ?_;refine blk_put (cs:=#[.slice none 0 0,.slice none 0 0,.int .i64 0,.slice none 0 0]) ?_ 0 _ rfl;refine ms ?_;exact BK602.out) hb);have n6_:=Az (below_step (mb HB) hb);clear HO594 HO597 HO601 BK590 BK591 BK602 HB;have HO594:=n0_;have HO597:=n1_;have HO601:=n2_;have BK590:=n3_;have BK591:=n4_;have BK602:=n5_;have HB:=n6_;clear n0_ n1_ n2_ n3_ n4_ n5_ n6_;(try clear hb);(try clear hb2);(try clear hk);(try clear hi)) | (go_at_call 56;(with_reducible refine (spec_Aligned.calls a2 a3 false _ A22.out).mono ?_);rintro e w' ⟨rfl,⟨nd,rfl⟩⟩))
    go_meet
    case rel=>exact ⟨_,(true),(by first | rfl | (simp;done) | (simp [*];done)),H',⟨by first | omega | exact Nat.le_refl _⟩,⟨mr HO594⟩,⟨mr HO597⟩,⟨mr HO601⟩,⟨mz BK590⟩,⟨mz BK591⟩,⟨mz BK602⟩,⟨mb HB⟩⟩
  ·replace c21:=Bool.eq_false_iff.mpr c21
   subst c21
   have H1:(spec_ModelDo.j0 k a1 a2 a3 a4 true l0_0 l0_1 a0_2 l0_3 t592 t595 t598 t599) = some (r1,r2,r3,r4,r5,r6):=by rw [if_neg (show ¬ (false = true) by decide)] at H;exact H
   clear H
   have H:=H1
   clear H1
   have H':=Aside0.mk H
   clear H
   have hnb39:=NB590_591.out
   have hnc39:=NB591_590.out
   have hnb40:=NB590_602.out
   have hnc40:=NB602_590.out
   have hcz41_0:=bz0 BK590
   have hcz41_1:=bz1 BK590
   have hcz41_2:=bz2 BK590
   have hcz41_3:=bz3 BK590
   have hfz41_0:=bf BK590 0
   have hfz41_1:=bf BK590 1
   have hfz41_2:=bf BK590 2
   have hfz41_3:=bf BK590 3
   go_wp2_with (first | ((with_reducible refine gate_callee (f:=39) rfl ?_);refine goesL_ (some 22) rfl rfl Try.func39 (by kernel_rfl) rfl #[.agg #[.slice A0_0 l0_0.length c0_0,.slice A0_1 l0_1.length c0_1,.int .i64 a0_2,.slice A0_3 l0_3.length c0_3]] rfl ml ?_;(with_reducible refine (spec_ModelOk.calls k _ _ l0_0 _ _ l0_1 a0_2 _ _ l0_3 false _ ?side1 ?side2 ?side3 ?side4 ?side5 ?side6 A20.out).mono ?_);(case side1=>exact Kd.C_below HR0_0.out (mb HB));(case side2=>exact HC0_0.out);(case side3=>exact Kd.C_below HR0_1.out (mb HB));(case side4=>exact HC0_1.out);(case side5=>exact Kd.C_below HR0_3.out (mb HB));(case side6=>exact HC0_3.out);rintro e w42 ⟨rfl,hb⟩;refine ⟨_,rfl,?_⟩;have n0_:=Az (Kd.R_below (by (with_reducible repeat (first | apply Kd.R_alloc | apply Kd.R_drewN | apply Kd.R_drew));exact (Kd.R_mono (Kd.R_far (Kd.R_far (Kd.R_far (Kd.R_far (Kd.R_types HO594.out BK602.out (by decide)) (fun _ hk=>hk.2) _) (fun _ hk=>hk.2) _) (fun _ hk=>hk.2) _) (fun _ hk=>hk.2) _) (fun _ h_=>h_.1))) hb);have n1_:=Az (Kd.R_below (by (with_reducible repeat (first | apply Kd.R_alloc | apply Kd.R_drewN | apply Kd.R_drew));exact (Kd.R_mono (Kd.R_far (Kd.R_far (Kd.R_far (Kd.R_far (Kd.R_types HO597.out BK602.out (by decide)) (fun _ hk=>hk.2) _) (fun _ hk=>hk.2) _) (fun _ hk=>hk.2) _) (fun _ hk=>hk.2) _) (fun _ h_=>h_.1))) hb);have n2_:=Az (Kd.R_below (by (with_reducible repeat (first | apply Kd.R_alloc | apply Kd.R_drewN | apply Kd.R_drew));exact (Kd.R_mono (Kd.R_far (Kd.R_far (Kd.R_far (Kd.R_far (Kd.R_types HO601.out BK602.out (by decide)) (fun _ hk=>hk.2) _) (fun _ hk=>hk.2) _) (fun _ hk=>hk.2) _) (fun _ hk=>hk.2) _) (fun _ h_=>h_.1))) hb);have n3_:=Az (blk_below (g:=gb590) (o:=.cells #[.slice A0_0 l0_0.length c0_0,.slice A0_1 l0_1.length c0_1,.int .i64 a0_2,.slice A0_3 l0_3.length c0_3] 28 (0,0)) (by refine ms ?_;refine blk_far ?_ NB590_602.out _;refine ms ?_;refine blk_far ?_ NB590_602.out _;refine ms ?_;refine blk_far ?_ NB590_602.out _;refine ms ?_;refine blk_far ?_ NB590_602.out _;refine ms ?_;exact BK590.out) hb);have n4_:=Az (blk_below (g:=gb591) (o:=.cells #[.slice none 0 0,.slice none 0 0,.int .i64 0,.slice none 0 0] 28 (0,0)) (by refine ms ?_;refine blk_far ?_ NB591_602.out _;refine ms ?_;refine blk_far ?_ NB591_602.out _;refine ms ?_;refine blk_far ?_ NB591_602.out _;refine ms ?_;refine blk_far ?_ NB591_602.out _;refine ms ?_;exact BK591.out) hb);have n5_:=Az (blk_below (g:=gb602) (o:=.cells #[.slice Ao14 t592.length co14,.slice Ao18 t595.length co18,.int .i64 t598,.slice Ao19 t599.length co19] 28 (0,0)) (by refine ms ?_;refine blk_put (cs:=#[.slice Ao14 t592.length co14,.slice Ao18 t595.length co18,.int .i64 t598,.slice none 0 0]) ?_ 3 _ rfl;refine ms ?_;refine blk_put (cs:=#[.slice Ao14 t592.length co14,.slice Ao18 t595.length co18,.int .i64 0,.slice none 0 0]) ?_ 2 _ rfl;refine ms ?_;refine blk_put (cs:=#[.slice Ao14 t592.length co14,.slice none 0 0,.int .i64 0,.slice none 0 0]) ?_ 1 _ rfl;refine ms ?_;refine blk_put (cs:=#[.slice none 0 0,.slice none 0 0,.int .i64 0,.slice none 0 0]) ?_ 0 _ rfl;refine ms ?_;exact BK602.out) hb);have n6_:=Az (below_step (mb HB) hb);clear HO594 HO597 HO601 BK590 BK591 BK602 HB;have HO594:=n0_;have HO597:=n1_;have HO601:=n2_;have BK590:=n3_;have BK591:=n4_;have BK602:=n5_;have HB:=n6_;clear n0_ n1_ n2_ n3_ n4_ n5_ n6_;(try clear hb);(try clear hb2);(try clear hk);(try clear hi)))
   go_meet
   case rel=>exact ⟨_,(true),(by first | rfl | (simp;done) | (simp [*];done)),H',⟨by first | omega | exact Nat.le_refl _⟩,⟨mr HO594⟩,⟨mr HO597⟩,⟨mr HO601⟩,⟨mz BK590⟩,⟨mz BK591⟩,⟨mz BK602⟩,⟨mb HB⟩⟩
 case rest =>
  clear HC7
  try clear hcz11_0
  try clear hcz11_1
  try clear hcz11_2
  try clear hcz11_3
  try clear hcz17_0
  try clear hcz17_1
  try clear hcz17_2
  try clear hcz17_3
  try clear hfz11_0
  try clear hfz11_1
  try clear hfz11_2
  try clear hfz11_3
  try clear hfz17_0
  try clear hfz17_1
  try clear hfz17_2
  try clear hfz17_3
  obtain ⟨kq,x40_6,rfl,HA,HJ6,HO_603000,HO_603001,HO_603003,BK590,BK591,BK602,HB⟩:=hcut
  cases kq with
  | zero=>exact absurd HA.out (by simp [spec_ModelDo.j0])
  | succ kj6 =>
   have H:=HA.out
   clear HA
   simp only [spec_ModelDo.j0] at H
   by_cases c43:x40_6 = true
   ·subst c43
    have H1:(some (t592,t595,t598,t599,0,1)) = some (r1,r2,r3,r4,r5,r6):=by rw [if_pos rfl] at H;exact H
    clear H
    have H:=H1
    clear H1
    simp only [Option.some.injEq,Prod.mk.injEq] at H
    obtain ⟨rfl,rfl,rfl,rfl,rfl,rfl⟩:=H
    have hnb44:=NB602_590.out
    have hnc44:=NB590_602.out
    have hnb45:=NB602_591.out
    have hnc45:=NB591_602.out
    have hcz46_0:=bz0 BK602
    have hcz46_1:=bz1 BK602
    have hcz46_2:=bz2 BK602
    have hcz46_3:=bz3 BK602
    have hfz46_0:=bf BK602 0
    have hfz46_1:=bf BK602 1
    have hfz46_2:=bf BK602 2
    have hfz46_3:=bf BK602 3
    have hnb47:=NB591_590.out
    have hnc47:=NB590_591.out
    have hcz48_0:=bz0 BK591
    have hcz48_1:=bz1 BK591
    have hcz48_2:=bz2 BK591
    have hcz48_3:=bz3 BK591
    have hfz48_0:=bf BK591 0
    have hfz48_1:=bf BK591 1
    have hfz48_2:=bf BK591 2
    have hfz48_3:=bf BK591 3
    go_wp2
    refine bodyPost_ret (results_ctt rfl _ _ gb591 28 #[.slice Ao14 t592.length co14,.slice Ao18 t595.length co18,.int .i64 t598,.slice Ao19 t599.length co19] (0,0) _ rfl (by refine ms ?_;refine blk_put (cs:=#[.slice Ao14 t592.length co14,.slice Ao18 t595.length co18,.int .i64 t598,.slice none 0 0]) ?_ 3 _ rfl;refine ms ?_;refine blk_put (cs:=#[.slice Ao14 t592.length co14,.slice Ao18 t595.length co18,.int .i64 0,.slice none 0 0]) ?_ 2 _ rfl;refine ms ?_;refine blk_put (cs:=#[.slice Ao14 t592.length co14,.slice none 0 0,.int .i64 0,.slice none 0 0]) ?_ 1 _ rfl;refine ms ?_;refine blk_put (cs:=#[.slice none 0 0,.slice none 0 0,.int .i64 0,.slice none 0 0]) ?_ 0 _ rfl;refine ms ?_;exact BK591.out) Try.underlying28 rfl (by kernel_rfl)) rfl ?_
    exact ⟨_,_,_,by first | rfl | (simp [errW_none,errW_some] <;> rfl) | (simp [*,errW_none,errW_some] <;> rfl),by (with_reducible repeat (first | apply Kd.R_alloc | apply Kd.R_drewN | apply Kd.R_drew));exact Kd.R_mono (Kd.R_far (Kd.R_far (Kd.R_far (Kd.R_far (Kd.R_types HO_603000.out BK591.out (by decide)) (fun _ hk=>hk.2) _) (fun _ hk=>hk.2) _) (fun _ hk=>hk.2) _) (fun _ hk=>hk.2) _) (fun _ hk=>⟨hk.1.1,hk.1.2⟩),by (with_reducible repeat (first | apply Kd.R_alloc | apply Kd.R_drewN | apply Kd.R_drew));exact Kd.R_mono (Kd.R_far (Kd.R_far (Kd.R_far (Kd.R_far (Kd.R_types HO_603001.out BK591.out (by decide)) (fun _ hk=>hk.2) _) (fun _ hk=>hk.2) _) (fun _ hk=>hk.2) _) (fun _ hk=>hk.2) _) (fun _ hk=>⟨hk.1.1,hk.1.2⟩),Kd.Q_of_R (by (with_reducible repeat (first | apply Kd.R_alloc | apply Kd.R_drewN | apply Kd.R_drew));exact Kd.R_mono (Kd.R_far (Kd.R_far (Kd.R_far (Kd.R_far (Kd.R_types HO_603003.out BK591.out (by decide)) (fun _ hk=>hk.2) _) (fun _ hk=>hk.2) _) (fun _ hk=>hk.2) _) (fun _ hk=>hk.2) _) (fun _ hk=>⟨hk.1.1,hk.1.2⟩)),mb HB⟩
   ·replace c43:=Bool.eq_false_iff.mpr c43
    subst c43
    have H1:((spec_SlaveOf.f kj6 a2).bind fun t607=>(if t607 = 1 then (spec_ModelDo.j1 kj6 a1 a2 a3 a4 t607 (t607 == 1) l0_0 l0_1 a0_2 l0_3 t592 t595 t598 t599) else (spec_ModelDo.j1 kj6 a1 a2 a3 a4 t607 (t607 == 2) l0_0 l0_1 a0_2 l0_3 t592 t595 t598 t599))) = some (r1,r2,r3,r4,r5,r6):=by rw [if_neg (show ¬ (false = true) by decide)] at H;exact H
    clear H
    have H:=H1
    clear H1
    replace H:=Option.bind_eq_some_iff.mp H
    obtain ⟨t607,A490,H⟩:=H
    replace H:(if t607 = 1 then (spec_ModelDo.j1 kj6 a1 a2 a3 a4 t607 (t607 == 1) l0_0 l0_1 a0_2 l0_3 t592 t595 t598 t599) else (spec_ModelDo.j1 kj6 a1 a2 a3 a4 t607 (t607 == 2) l0_0 l0_1 a0_2 l0_3 t592 t595 t598 t599)) = some (r1,r2,r3,r4,r5,r6):=H
    have A49:=Aside0.mk A490
    clear A490
    have HC50:=Aside0.mk H
    clear H
    go_upto_if 44 with (first | ((with_reducible refine gate_callee (f:=59) rfl ?_);refine goesL_ (some 43) rfl rfl Try.func59 (by kernel_rfl) rfl #[.int .i64 a2] rfl ml ?_;(with_reducible refine (spec_SlaveOf.calls kj6 a2 t607 _ A49.out).mono ?_);rintro e w' ⟨rfl,⟨nd,rfl⟩⟩;refine ⟨_,rfl,?_⟩))
    (try simp only [Act.put,List.setIfInBounds_toArray,List.set_cons_zero,List.set_cons_succ])
    go_cut [44] (fun v44 wc=>∃ (kq:Nat) (x44_49:Bool),v44 = .bool x44_49 ∧ Aside0 (spec_ModelDo.j1 kq a1 a2 a3 a4 t607 x44_49 l0_0 l0_1 a0_2 l0_3 t592 t595 t598 t599 = some (r1,r2,r3,r4,r5,r6)) ∧ Aside0 (kq ≤ kj6) ∧ Aside0 (Kd.R (Kd.int .i64) 3 wc w.heap.size (fun k_=>some k_ ≠ ((.slice Ao18 t595.length co18):Value).ownBlock ∧ some k_ ≠ ((.slice Ao19 t599.length co19):Value).ownBlock) (.slice Ao14 t592.length co14) t592) ∧ Aside0 (Kd.R (Kd.int .i64) 3 wc w.heap.size (fun k_=>some k_ ≠ ((.slice Ao14 t592.length co14):Value).ownBlock ∧ some k_ ≠ ((.slice Ao19 t599.length co19):Value).ownBlock) (.slice Ao18 t595.length co18) t595) ∧ Aside0 (Kd.R (Kd.int .i64) 3 wc w.heap.size (fun k_=>some k_ ≠ ((.slice Ao14 t592.length co14):Value).ownBlock ∧ some k_ ≠ ((.slice Ao18 t595.length co18):Value).ownBlock) (.slice Ao19 t599.length co19) t599) ∧ Aside0 (wc.heap[gb590]? = some (.cells #[(.slice A0_0 l0_0.length c0_0),(.slice A0_1 l0_1.length c0_1),.int .i64 a0_2,(.slice A0_3 l0_3.length c0_3)] 28 (0,0))) ∧ Aside0 (wc.heap[gb591]? = some (.cells #[(.slice none 0 0),(.slice none 0 0),.int .i64 0,(.slice none 0 0)] 28 (0,0))) ∧ Aside0 (wc.heap[gb602]? = some (.cells #[(.slice Ao14 t592.length co14),(.slice Ao18 t595.length co18),.int .i64 t598,(.slice Ao19 t599.length co19)] 28 (0,0))) ∧ Aside0 (Below w.heap.size w wc))
    case first =>
     have H:=HC50.out
     clear HC50
     by_cases c51:t607 = 1
     ·rw [if_pos c51] at H
      have c51b0:(t607 == 1) = true:=beq_iff_eq.mpr c51
      have c51b1:(t607 != 1) = false:=bne_eq_false_iff_eq.mpr c51
      clear c51
      (first | rw [c51b0] | (simp only [i64_w,i32_w];rw [c51b0]) | skip)
      have H':=Aside0.mk H
      clear H
      go_wp2
      go_meet
      case rel=>exact ⟨_,((t607 == 1)),(by first | rfl | (simp;done) | (simp [*];done)),H',⟨by have:=HJ6.out;first | omega | exact Nat.le_refl _⟩,⟨mr HO_603000⟩,⟨mr HO_603001⟩,⟨mr HO_603003⟩,⟨mz BK590⟩,⟨mz BK591⟩,⟨mz BK602⟩,⟨mb HB⟩⟩
     ·rw [if_neg c51] at H
      have c51b0:(t607 == 1) = false:=beq_eq_false_iff_ne.mpr c51
      have c51b1:(t607 != 1) = true:=bne_iff_ne.mpr c51
      (first | rw [c51b0] | (simp only [i64_w,i32_w];rw [c51b0]) | skip)
      have H':=Aside0.mk H
      clear H
      go_wp2
      go_meet
      case rel=>exact ⟨_,((t607 == 2)),(by first | rfl | (simp;done) | (simp [*];done)),H',⟨by have:=HJ6.out;first | omega | exact Nat.le_refl _⟩,⟨mr HO_603000⟩,⟨mr HO_603001⟩,⟨mr HO_603003⟩,⟨mz BK590⟩,⟨mz BK591⟩,⟨mz BK602⟩,⟨mb HB⟩⟩
    case rest =>
     clear HC50
     try clear c43
     try clear hcz11_0
     try clear hcz11_1
     try clear hcz11_2
     try clear hcz11_3
     try clear hcz17_0
     try clear hcz17_1
     try clear hcz17_2
     try clear hcz17_3
     try clear hfz11_0
     try clear hfz11_1
     try clear hfz11_2
     try clear hfz11_3
     try clear hfz17_0
     try clear hfz17_1
     try clear hfz17_2
     try clear hfz17_3
     obtain ⟨kq,x44_49,rfl,HA,HJ49,HO_603000,HO_603001,HO_603003,BK590,BK591,BK602,HB⟩:=hcut
     cases kq with
     | zero=>exact absurd HA.out (by simp [spec_ModelDo.j1])
     | succ kj49 =>
      have H:=HA.out
      clear HA
      simp only [spec_ModelDo.j1] at H
      by_cases c52:x44_49 = true
      ·subst c52
       have H1:(if a1 = true then ((spec_PutNum.f kj49 l0_0 a2 a3 a4).bind fun bt608=>(some (bt608.1,t595,t598,t599,a4,0))) else ((spec_GetNum.f kj49 l0_0 a2 a3).bind fun bt612=>(some (t592,t595,t598,t599,bt612.1,0)))) = some (r1,r2,r3,r4,r5,r6):=by rw [if_pos rfl] at H;exact H
       clear H
       have H:=H1
       clear H1
       by_cases c53:a1 = true
       ·subst c53
        have H1:((spec_PutNum.f kj49 l0_0 a2 a3 a4).bind fun bt608=>(some (bt608.1,t595,t598,t599,a4,0))) = some (r1,r2,r3,r4,r5,r6):=by rw [if_pos rfl] at H;exact H
        clear H
        have H:=H1
        clear H1
        replace H:=Option.bind_eq_some_iff.mp H
        obtain ⟨⟨t608,t609⟩,A540,H⟩:=H
        replace H:(some (t608,t595,t598,t599,a4,0)) = some (r1,r2,r3,r4,r5,r6):=H
        have A54:=Aside0.mk A540
        clear A540
        simp only [Option.some.injEq,Prod.mk.injEq] at H
        obtain ⟨rfl,rfl,rfl,rfl,rfl,rfl⟩:=H
        have hnb55:=NB590_591.out
        have hnc55:=NB591_590.out
        have hnb56:=NB590_602.out
        have hnc56:=NB602_590.out
        have hcz57_0:=bz0 BK590
        have hcz57_1:=bz1 BK590
        have hcz57_2:=bz2 BK590
        have hcz57_3:=bz3 BK590
        have hfz57_0:=bf BK590 0
        have hfz57_1:=bf BK590 1
        have hfz57_2:=bf BK590 2
        have hfz57_3:=bf BK590 3
        go_wp2_with (first | ((with_reducible refine gate_callee (f:=60) rfl ?_);refine goesL_ (some 54) rfl rfl Try.func60 (by kernel_rfl) rfl #[.slice A0_0 l0_0.length c0_0,.int .i64 a2,.int .i64 a3,.int .i64 a4] rfl ml ?_;(with_reducible refine (spec_PutNum.calls kj49 _ _ l0_0 a2 a3 a4 t608 t609 _ ?side1 ?side2 A54.out).mono ?_);(case side1=>exact mc (Kd.C_below HR0_0.out HB.out));(case side2=>exact HC0_0.out);rintro e w58 ⟨v610,rfl,ho0,hb⟩;refine ⟨_,rfl,?_⟩;have n0_:=Az (Kd.R_elder' (mr HO_603000) (Kd.R_base ho0) hb);have n1_:=Az (Kd.R_elder' (mr HO_603001) (Kd.R_base ho0) hb);have n2_:=Az (Kd.R_elder' (mr HO_603003) (Kd.R_base ho0) hb);have n3_:=Az (Kd.R_lower (Kd.R_new' (Kd.R_new' (Kd.R_new' ho0 (Kd.R_lt (mr HO_603000))) (Kd.R_lt (mr HO_603001))) (Kd.R_lt (mr HO_603003))) (below_size (mb HB)));have n4_:=Az (blk_below (mz BK590) hb);have n5_:=Az (blk_below (mz BK591) hb);have n6_:=Az (blk_below (mz BK602) hb);have n7_:=Az (below_step (mb HB) hb);clear HO_603000 HO_603001 HO_603003 BK590 BK591 BK602 HB;have HO_603000:=n0_;have HO_603001:=n1_;have HO_603003:=n2_;have HO611:=n3_;have BK590:=n4_;have BK591:=n5_;have BK602:=n6_;have HB:=n7_;clear n0_ n1_ n2_ n3_ n4_ n5_ n6_ n7_;(try clear hb);(try clear hb2);(try clear hk);(try clear hi);(try clear ho0);obtain ⟨Ao59,co59,eo59⟩:=Kd.R_slice HO611.out;subst eo59;have hnb60:=NB602_591.out;have hnc60:=NB591_602.out;have hcz61_0:=bz0 BK602;have hcz61_1:=bz1 BK602;have hcz61_2:=bz2 BK602;have hcz61_3:=bz3 BK602;have hfz61_0:=bf BK602 0;have hfz61_1:=bf BK602 1;have hfz61_2:=bf BK602 2;have hfz61_3:=bf BK602 3;have hcz62_0:=bz0 BK591;have hcz62_1:=bz1 BK591;have hcz62_2:=bz2 BK591;have hcz62_3:=bz3 BK591;have hfz62_0:=bf BK591 0;have hfz62_1:=bf BK591 1;have hfz62_2:=bf BK591 2;have hfz62_3:=bf BK591 3))
        refine bodyPost_ret (results_ctt rfl _ _ gb591 28 #[.slice Ao59 t608.length co59,.slice Ao18 t595.length co18,.int .i64 t598,.slice Ao19 t599.length co19] (0,0) _ rfl (by refine ms ?_;refine blk_put (cs:=#[.slice Ao59 t608.length co59,.slice Ao18 t595.length co18,.int .i64 t598,.slice none 0 0]) ?_ 3 _ rfl;refine ms ?_;refine blk_put (cs:=#[.slice Ao59 t608.length co59,.slice Ao18 t595.length co18,.int .i64 0,.slice none 0 0]) ?_ 2 _ rfl;refine ms ?_;refine blk_put (cs:=#[.slice Ao59 t608.length co59,.slice none 0 0,.int .i64 0,.slice none 0 0]) ?_ 1 _ rfl;refine ms ?_;refine blk_put (cs:=#[.slice none 0 0,.slice none 0 0,.int .i64 0,.slice none 0 0]) ?_ 0 _ rfl;refine ms ?_;refine blk_far ?_ NB591_602.out _;refine ms ?_;exact BK591.out) Try.underlying28 rfl (by kernel_rfl)) rfl ?_
        exact ⟨_,_,_,by first | rfl | (simp [errW_none,errW_some] <;> rfl) | (simp [*,errW_none,errW_some] <;> rfl),by (with_reducible repeat (first | apply Kd.R_alloc | apply Kd.R_drewN | apply Kd.R_drew));exact Kd.R_mono (Kd.R_far (Kd.R_far (Kd.R_far (Kd.R_far (Kd.R_far (Kd.R_types (Kd.R_types HO611.out BK602.out (by decide)) BK591.out (by decide)) (fun _ hk=>hk.1.2) _) (fun _ hk=>hk.2) _) (fun _ hk=>hk.2) _) (fun _ hk=>hk.2) _) (fun _ hk=>hk.2) _) (fun _ hk=>⟨hk.1.1.1.2,hk.1.1.2⟩),by (with_reducible repeat (first | apply Kd.R_alloc | apply Kd.R_drewN | apply Kd.R_drew));exact Kd.R_mono (Kd.R_far (Kd.R_far (Kd.R_far (Kd.R_far (Kd.R_far (Kd.R_types (Kd.R_types HO_603001.out BK602.out (by decide)) BK591.out (by decide)) (fun _ hk=>hk.1.2) _) (fun _ hk=>hk.2) _) (fun _ hk=>hk.2) _) (fun _ hk=>hk.2) _) (fun _ hk=>hk.2) _) (fun _ hk=>⟨hk.1.1.2,hk.1.1.1.2⟩),Kd.Q_of_R (by (with_reducible repeat (first | apply Kd.R_alloc | apply Kd.R_drewN | apply Kd.R_drew));exact Kd.R_mono (Kd.R_far (Kd.R_far (Kd.R_far (Kd.R_far (Kd.R_far (Kd.R_types (Kd.R_types HO_603003.out BK602.out (by decide)) BK591.out (by decide)) (fun _ hk=>hk.1.2) _) (fun _ hk=>hk.2) _) (fun _ hk=>hk.2) _) (fun _ hk=>hk.2) _) (fun _ hk=>hk.2) _) (fun _ hk=>⟨hk.1.1.2,hk.1.1.1.2⟩)),mb HB⟩
       ·replace c53:=Bool.eq_false_iff.mpr c53
        subst c53
        have H1:((spec_GetNum.f kj49 l0_0 a2 a3).bind fun bt612=>(some (t592,t595,t598,t599,bt612.1,0))) = some (r1,r2,r3,r4,r5,r6):=by rw [if_neg (show ¬ (false = true) by decide)] at H;exact H
        clear H
        have H:=H1
        clear H1
        replace H:=Option.bind_eq_some_iff.mp H
        obtain ⟨⟨t612,t613⟩,A630,H⟩:=H
        replace H:(some (t592,t595,t598,t599,t612,0)) = some (r1,r2,r3,r4,r5,r6):=H
        have A63:=Aside0.mk A630
        clear A630
        simp only [Option.some.injEq,Prod.mk.injEq] at H
        obtain ⟨rfl,rfl,rfl,rfl,rfl,rfl⟩:=H
        have hnb64:=NB590_591.out
        have hnc64:=NB591_590.out
        have hnb65:=NB590_602.out
        have hnc65:=NB602_590.out
        have hcz66_0:=bz0 BK590
        have hcz66_1:=bz1 BK590
        have hcz66_2:=bz2 BK590
        have hcz66_3:=bz3 BK590
        have hfz66_0:=bf BK590 0
        have hfz66_1:=bf BK590 1
        have hfz66_2:=bf BK590 2
        have hfz66_3:=bf BK590 3
        go_wp2_with (first | ((with_reducible refine gate_callee (f:=61) rfl ?_);refine goesL_ (some 65) rfl rfl Try.func61 (by kernel_rfl) rfl #[.slice A0_0 l0_0.length c0_0,.int .i64 a2,.int .i64 a3] rfl ml ?_;(with_reducible refine (spec_GetNum.calls kj49 _ _ l0_0 a2 a3 t612 t613 _ ?side1 ?side2 A63.out).mono ?_);(case side1=>exact mc (Kd.C_below HR0_0.out HB.out));(case side2=>exact HC0_0.out);rintro e w' ⟨rfl,⟨nd,rfl⟩⟩;refine ⟨_,rfl,?_⟩;(try (rw [drewN_self wc];generalize hq_:World.drewN wc _ = wc;have n0_:Aside0 (Kd.R (Kd.int .i64) 3 wc w.heap.size (fun k_=>some k_ ≠ (.slice Ao18 t595.length co18:Value).ownBlock ∧ some k_ ≠ (.slice Ao19 t599.length co19:Value).ownBlock) (.slice Ao14 t592.length co14) t592):=⟨by rw [← hq_];exact (mr HO_603000)⟩;have n1_:Aside0 (Kd.R (Kd.int .i64) 3 wc w.heap.size (fun k_=>some k_ ≠ (.slice Ao14 t592.length co14:Value).ownBlock ∧ some k_ ≠ (.slice Ao19 t599.length co19:Value).ownBlock) (.slice Ao18 t595.length co18) t595):=⟨by rw [← hq_];exact (mr HO_603001)⟩;have n2_:Aside0 (Kd.R (Kd.int .i64) 3 wc w.heap.size (fun k_=>some k_ ≠ (.slice Ao14 t592.length co14:Value).ownBlock ∧ some k_ ≠ (.slice Ao18 t595.length co18:Value).ownBlock) (.slice Ao19 t599.length co19) t599):=⟨by rw [← hq_];exact (mr HO_603003)⟩;have n3_:Aside0 (wc.heap[gb590]? = some (.cells #[.slice A0_0 l0_0.length c0_0,.slice A0_1 l0_1.length c0_1,.int .i64 a0_2,.slice A0_3 l0_3.length c0_3] 28 (0,0))):=⟨by rw [← hq_];exact (mz BK590)⟩;have n4_:Aside0 (wc.heap[gb591]? = some (.cells #[.slice none 0 0,.slice none 0 0,.int .i64 0,.slice none 0 0] 28 (0,0))):=⟨by rw [← hq_];exact (mz BK591)⟩;have n5_:Aside0 (wc.heap[gb602]? = some (.cells #[.slice Ao14 t592.length co14,.slice Ao18 t595.length co18,.int .i64 t598,.slice Ao19 t599.length co19] 28 (0,0))):=⟨by rw [← hq_];exact (mz BK602)⟩;have n6_:Aside0 (Below w.heap.size w wc):=⟨by rw [← hq_];exact (mb HB)⟩;clear HO_603000 HO_603001 HO_603003 BK590 BK591 BK602 HB hq_;have HO_603000:=n0_;have HO_603001:=n1_;have HO_603003:=n2_;have BK590:=n3_;have BK591:=n4_;have BK602:=n5_;have HB:=n6_;clear n0_ n1_ n2_ n3_ n4_ n5_ n6_));have hnb67:=NB602_591.out;have hnc67:=NB591_602.out;have hcz68_0:=bz0 BK602;have hcz68_1:=bz1 BK602;have hcz68_2:=bz2 BK602;have hcz68_3:=bz3 BK602;have hfz68_0:=bf BK602 0;have hfz68_1:=bf BK602 1;have hfz68_2:=bf BK602 2;have hfz68_3:=bf BK602 3;have hcz69_0:=bz0 BK591;have hcz69_1:=bz1 BK591;have hcz69_2:=bz2 BK591;have hcz69_3:=bz3 BK591;have hfz69_0:=bf BK591 0;have hfz69_1:=bf BK591 1;have hfz69_2:=bf BK591 2;have hfz69_3:=bf BK591 3))
        refine bodyPost_ret (results_ctt rfl _ _ gb591 28 #[.slice Ao14 t592.length co14,.slice Ao18 t595.length co18,.int .i64 t598,.slice Ao19 t599.length co19] (0,0) _ rfl (by refine ms ?_;refine blk_put (cs:=#[.slice Ao14 t592.length co14,.slice Ao18 t595.length co18,.int .i64 t598,.slice none 0 0]) ?_ 3 _ rfl;refine ms ?_;refine blk_put (cs:=#[.slice Ao14 t592.length co14,.slice Ao18 t595.length co18,.int .i64 0,.slice none 0 0]) ?_ 2 _ rfl;refine ms ?_;refine blk_put (cs:=#[.slice Ao14 t592.length co14,.slice none 0 0,.int .i64 0,.slice none 0 0]) ?_ 1 _ rfl;refine ms ?_;refine blk_put (cs:=#[.slice none 0 0,.slice none 0 0,.int .i64 0,.slice none 0 0]) ?_ 0 _ rfl;refine ms ?_;exact BK591.out) Try.underlying28 rfl (by kernel_rfl)) rfl ?_
        exact ⟨_,_,_,by first | rfl | (simp [errW_none,errW_some] <;> rfl) | (simp [*,errW_none,errW_some] <;> rfl),by (with_reducible repeat (first | apply Kd.R_alloc | apply Kd.R_drewN | apply Kd.R_drew));exact Kd.R_mono (Kd.R_far (Kd.R_far (Kd.R_far (Kd.R_far (Kd.R_types HO_603000.out BK591.out (by decide)) (fun _ hk=>hk.2) _) (fun _ hk=>hk.2) _) (fun _ hk=>hk.2) _) (fun _ hk=>hk.2) _) (fun _ hk=>⟨hk.1.1,hk.1.2⟩),by (with_reducible repeat (first | apply Kd.R_alloc | apply Kd.R_drewN | apply Kd.R_drew));exact Kd.R_mono (Kd.R_far (Kd.R_far (Kd.R_far (Kd.R_far (Kd.R_types HO_603001.out BK591.out (by decide)) (fun _ hk=>hk.2) _) (fun _ hk=>hk.2) _) (fun _ hk=>hk.2) _) (fun _ hk=>hk.2) _) (fun _ hk=>⟨hk.1.1,hk.1.2⟩),Kd.Q_of_R (by (with_reducible repeat (first | apply Kd.R_alloc | apply Kd.R_drewN | apply Kd.R_drew));exact Kd.R_mono (Kd.R_far (Kd.R_far (Kd.R_far (Kd.R_far (Kd.R_types HO_603003.out BK591.out (by decide)) (fun _ hk=>hk.2) _) (fun _ hk=>hk.2) _) (fun _ hk=>hk.2) _) (fun _ hk=>hk.2) _) (fun _ hk=>⟨hk.1.1,hk.1.2⟩)),mb HB⟩
      ·replace c52:=Bool.eq_false_iff.mpr c52
       subst c52
       have H1:(if t607 = 3 then ((spec_DevDo.f kj49 l0_1 a0_2 l0_3 a1 (wrap64 (a2 - 192)) a4).bind fun bt614=>(if a3 = 2 then (if bt614.2.2.2.2 = true then (some (t592,bt614.1,bt614.2.1,bt614.2.2.1,bt614.2.2.2.1,0)) else (some (t592,t595,t598,t599,0,1))) else (some (t592,t595,t598,t599,0,1)))) else (some (t592,t595,t598,t599,0,1))) = some (r1,r2,r3,r4,r5,r6):=by rw [if_neg (show ¬ (false = true) by decide)] at H;exact H
       clear H
       have H:=H1
       clear H1
       by_cases c70:t607 = 3
       ·rw [if_pos c70] at H
        have c70b0:(t607 == 3) = true:=beq_iff_eq.mpr c70
        have c70b1:(t607 != 3) = false:=bne_eq_false_iff_eq.mpr c70
        clear c70
        replace H:=Option.bind_eq_some_iff.mp H
        obtain ⟨⟨t614,t617,t618,t621,t622⟩,A710,H⟩:=H
        replace H:(if a3 = 2 then (if t622 = true then (some (t592,t614,t617,t618,t621,0)) else (some (t592,t595,t598,t599,0,1))) else (some (t592,t595,t598,t599,0,1))) = some (r1,r2,r3,r4,r5,r6):=H
        have A71:=Aside0.mk A710
        clear A710
        by_cases c72:a3 = 2
        ·rw [if_pos c72] at H
         have c72b0:(a3 == 2) = true:=beq_iff_eq.mpr c72
         have c72b1:(a3 != 2) = false:=bne_eq_false_iff_eq.mpr c72
         clear c72
         by_cases c73:t622 = true
         ·subst c73
          have H1:(some (t592,t614,t617,t618,t621,0)) = some (r1,r2,r3,r4,r5,r6):=by rw [if_pos rfl] at H;exact H
          clear H
          have H:=H1
          clear H1
          simp only [Option.some.injEq,Prod.mk.injEq] at H
          obtain ⟨rfl,rfl,rfl,rfl,rfl,rfl⟩:=H
          have hnb74:=NB590_591.out
          have hnc74:=NB591_590.out
          have hnb75:=NB590_602.out
          have hnc75:=NB602_590.out
          have hcz76_0:=bz0 BK590
          have hcz76_1:=bz1 BK590
          have hcz76_2:=bz2 BK590
          have hcz76_3:=bz3 BK590
          have hfz76_0:=bf BK590 0
          have hfz76_1:=bf BK590 1
          have hfz76_2:=bf BK590 2
          have hfz76_3:=bf BK590 3
          go_wp2_with (first | ((with_reducible refine gate_callee (f:=42) rfl ?_);refine goesL_ (some 79) rfl rfl Try.func42 (by kernel_rfl) rfl #[.agg #[.slice A0_1 l0_1.length c0_1,.int .i64 a0_2,.slice A0_3 l0_3.length c0_3],.bool a1,.int .i64 (wrap64 (a2 - 192)),.int .i64 a4] rfl ml ?_;(with_reducible refine (spec_DevDo.calls kj49 _ _ l0_1 a0_2 _ _ l0_3 a1 (wrap64 (a2 - 192)) a4 t614 t617 t618 t621 true _ ?side1 ?side2 ?side3 ?side4 A71.out).mono ?_);(case side1=>exact mc (Kd.C_below HR0_1.out HB.out));(case side2=>exact HC0_1.out);(case side3=>exact mc (Kd.C_below HR0_3.out HB.out));(case side4=>exact HC0_3.out);rintro e w77 ⟨v615,v619,rfl,ho0,ho1,hb⟩;refine ⟨_,rfl,?_⟩;have n0_:=Az (Kd.R_mono (Kd.R_told (Kd.R_told (Kd.R_old (mr HO_603000) hb) (Kd.R_base ho0)) (Kd.Q_base ho1)) (fun _ h_=>h_.1));have n1_:=Az (Kd.R_mono (Kd.R_told (Kd.R_told (Kd.R_old (mr HO_603001) hb) (Kd.R_base ho0)) (Kd.Q_base ho1)) (fun _ h_=>h_.1));have n2_:=Az (Kd.R_mono (Kd.R_told (Kd.R_told (Kd.R_old (mr HO_603003) hb) (Kd.R_base ho0)) (Kd.Q_base ho1)) (fun _ h_=>h_.1));have n3_:=Az (Kd.R_lower (Kd.R_new' (Kd.R_new' (Kd.R_new' ho0 (Kd.R_lt (mr HO_603000))) (Kd.R_lt (mr HO_603001))) (Kd.R_lt (mr HO_603003))) (below_size (mb HB)));have n4_:=Az (Kd.Q_lower (Kd.Q_new' (Kd.Q_new' (Kd.Q_new' ho1 (Kd.R_lt (mr HO_603000))) (Kd.R_lt (mr HO_603001))) (Kd.R_lt (mr HO_603003))) (below_size (mb HB)));have n5_:=Az (blk_below (mz BK590) hb);have n6_:=Az (blk_below (mz BK591) hb);have n7_:=Az (blk_below (mz BK602) hb);have n8_:=Az (below_step (mb HB) hb);clear HO_603000 HO_603001 HO_603003 BK590 BK591 BK602 HB;have HO_603000:=n0_;have HO_603001:=n1_;have HO_603003:=n2_;have HO616:=n3_;have HO620:=n4_;have BK590:=n5_;have BK591:=n6_;have BK602:=n7_;have HB:=n8_;clear n0_ n1_ n2_ n3_ n4_ n5_ n6_ n7_ n8_;(try clear hb);(try clear hb2);(try clear hk);(try clear hi);(try clear ho0);(try clear ho1)) | ((with_reducible refine gate_dst (N:=16) rfl ?_);refine box_event ?hg (N:=16) ?hd (cs:=#[.slice none 0 0,.int .i64 0,.slice none 0 0]) (t:=26) ?hr ?_;(case hd=>rfl);(case hg=>rfl);(case hr=>first | (go_simp;done) | (go_simp;rfl));intro gb623 hg w78 hbox hb;have n0_:=Az (Kd.R_below (mr HO_603000) hb);have n1_:=Az (Kd.R_below (mr HO_603001) hb);have n2_:=Az (Kd.R_below (mr HO_603003) hb);have n3_:=Az (Kd.R_below (mr HO616) hb);have n4_:=Az (Kd.Q_below (mq HO620) hb);have n5_:=Az (blk_below (mz BK590) hb);have n6_:=Az (blk_below (mz BK591) hb);have n7_:=Az (blk_below (mz BK602) hb);have n8_:=Az (below_step (mb HB) hb);have n9_:=Az (hbox);have n10_:=Az ((by rw [hg];exact (below_size (mb HB)):w.heap.size ≤ gb623));have n11_:=Az ((by rw [hg];exact (below_size (mb HB)):w.heap.size ≤ gb623));have n12_:=Az ((by rw [hg];exact Nat.ne_of_lt (blk_lt (mz BK590)):gb590 ≠ gb623));have n13_:=Az ((by rw [hg];exact Nat.ne_of_gt (blk_lt (mz BK590)):gb623 ≠ gb590));have n14_:=Az ((by rw [hg];exact Nat.ne_of_lt (blk_lt (mz BK591)):gb591 ≠ gb623));have n15_:=Az ((by rw [hg];exact Nat.ne_of_gt (blk_lt (mz BK591)):gb623 ≠ gb591));have n16_:=Az ((by rw [hg];exact Nat.ne_of_lt (blk_lt (mz BK602)):gb602 ≠ gb623));have n17_:=Az ((by rw [hg];exact Nat.ne_of_gt (blk_lt (mz BK602)):gb623 ≠ gb602));clear HO_603000 HO_603001 HO_603003 HO616 HO620 BK590 BK591 BK602 HB;have HO_603000:=n0_;have HO_603001:=n1_;have HO_603003:=n2_;have HO616:=n3_;have HO620:=n4_;have BK590:=n5_;have BK591:=n6_;have BK602:=n7_;have HB:=n8_;have BK623:=n9_;have GW623:=n10_;have GE623:=n11_;have NB590_623:=n12_;have NB623_590:=n13_;have NB591_623:=n14_;have NB623_591:=n15_;have NB602_623:=n16_;have NB623_602:=n17_;clear n0_ n1_ n2_ n3_ n4_ n5_ n6_ n7_ n8_ n9_ n10_ n11_ n12_ n13_ n14_ n15_ n16_ n17_ hb hbox hg;obtain ⟨Ao79,co79,eo79⟩:=Kd.R_slice HO616.out;subst eo79;have hnb80:=NB623_590.out;have hnc80:=NB590_623.out;have hnb81:=NB623_591.out;have hnc81:=NB591_623.out;have hnb82:=NB623_602.out;have hnc82:=NB602_623.out;have hcz83_0:=bz0 BK623;have hcz83_1:=bz1 BK623;have hcz83_2:=bz2 BK623;have hfz83_0:=bf BK623 0;have hfz83_1:=bf BK623 1;have hfz83_2:=bf BK623 2;obtain ⟨Ao84,co84,eo84,_⟩:=Kd.Q_slice HO620.out;subst eo84;have hnb85:=NB602_591.out;have hnc85:=NB591_602.out;have hcz86_0:=bz0 BK602;have hcz86_1:=bz1 BK602;have hcz86_2:=bz2 BK602;have hcz86_3:=bz3 BK602;have hfz86_0:=bf BK602 0;have hfz86_1:=bf BK602 1;have hfz86_2:=bf BK602 2;have hfz86_3:=bf BK602 3;have hcz87_0:=bz0 BK591;have hcz87_1:=bz1 BK591;have hcz87_2:=bz2 BK591;have hcz87_3:=bz3 BK591;have hfz87_0:=bf BK591 0;have hfz87_1:=bf BK591 1;have hfz87_2:=bf BK591 2;have hfz87_3:=bf BK591 3))
          refine bodyPost_ret (results_ctt rfl _ _ gb591 28 #[.slice Ao14 t592.length co14,.slice Ao79 t614.length co79,.int .i64 t617,.slice Ao84 t618.length co84] (0,0) _ rfl (by refine ms ?_;refine blk_put (cs:=#[.slice Ao14 t592.length co14,.slice Ao79 t614.length co79,.int .i64 t617,.slice none 0 0]) ?_ 3 _ rfl;refine ms ?_;refine blk_put (cs:=#[.slice Ao14 t592.length co14,.slice Ao79 t614.length co79,.int .i64 0,.slice none 0 0]) ?_ 2 _ rfl;refine ms ?_;refine blk_put (cs:=#[.slice Ao14 t592.length co14,.slice none 0 0,.int .i64 0,.slice none 0 0]) ?_ 1 _ rfl;refine ms ?_;refine blk_put (cs:=#[.slice none 0 0,.slice none 0 0,.int .i64 0,.slice none 0 0]) ?_ 0 _ rfl;refine ms ?_;refine blk_far ?_ NB591_602.out _;refine ms ?_;refine blk_far ?_ NB591_602.out _;refine ms ?_;refine blk_far ?_ NB591_602.out _;refine ms ?_;refine blk_far ?_ NB591_623.out _;refine ms ?_;refine blk_far ?_ NB591_623.out _;refine ms ?_;refine blk_far ?_ NB591_623.out _;refine ms ?_;exact BK591.out) Try.underlying28 rfl (by kernel_rfl)) rfl ?_
          exact ⟨_,_,_,by first | rfl | (simp [errW_none,errW_some] <;> rfl) | (simp [*,errW_none,errW_some] <;> rfl),by (with_reducible repeat (first | apply Kd.R_alloc | apply Kd.R_drewN | apply Kd.R_drew));exact Kd.R_mono (Kd.R_far (Kd.R_far (Kd.R_far (Kd.R_far (Kd.R_far (Kd.R_far (Kd.R_far (Kd.R_far (Kd.R_far (Kd.R_far (Kd.R_types (Kd.R_types (Kd.R_types HO_603000.out BK623.out (by decide)) BK602.out (by decide)) BK591.out (by decide)) (fun _ hk=>hk.1.1.2) _) (fun _ hk=>hk.1.1.2) _) (fun _ hk=>hk.1.1.2) _) (fun _ hk=>hk.1.2) _) (fun _ hk=>hk.1.2) _) (fun _ hk=>hk.1.2) _) (fun _ hk=>hk.2) _) (fun _ hk=>hk.2) _) (fun _ hk=>hk.2) _) (fun _ hk=>hk.2) _) (fun _ hk=>⟨hk.1.1.1.1.2,hk.1.1.1.2⟩),by (with_reducible repeat (first | apply Kd.R_alloc | apply Kd.R_drewN | apply Kd.R_drew));exact Kd.R_mono (Kd.R_far (Kd.R_far (Kd.R_far (Kd.R_far (Kd.R_far (Kd.R_far (Kd.R_far (Kd.R_far (Kd.R_far (Kd.R_far (Kd.R_types (Kd.R_types (Kd.R_types HO616.out BK623.out (by decide)) BK602.out (by decide)) BK591.out (by decide)) (fun _ hk=>hk.1.1.2) _) (fun _ hk=>hk.1.1.2) _) (fun _ hk=>hk.1.1.2) _) (fun _ hk=>hk.1.2) _) (fun _ hk=>hk.1.2) _) (fun _ hk=>hk.1.2) _) (fun _ hk=>hk.2) _) (fun _ hk=>hk.2) _) (fun _ hk=>hk.2) _) (fun _ hk=>hk.2) _) (fun _ hk=>⟨hk.1.1.1.1.1.2,hk.1.1.1.1.1.1⟩),by (with_reducible repeat (first | apply Kd.Q_alloc | apply Kd.Q_drewN | apply Kd.Q_drew));exact Kd.Q_mono (Kd.Q_far (Kd.Q_far (Kd.Q_far (Kd.Q_far (Kd.Q_far (Kd.Q_far (Kd.Q_far (Kd.Q_far (Kd.Q_far (Kd.Q_far (Kd.Q_types (Kd.Q_types (Kd.Q_types HO620.out BK623.out (by decide)) BK602.out (by decide)) BK591.out (by decide)) (fun _ hk=>hk.1.1.2) _) (fun _ hk=>hk.1.1.2) _) (fun _ hk=>hk.1.1.2) _) (fun _ hk=>hk.1.2) _) (fun _ hk=>hk.1.2) _) (fun _ hk=>hk.1.2) _) (fun _ hk=>hk.2) _) (fun _ hk=>hk.2) _) (fun _ hk=>hk.2) _) (fun _ hk=>hk.2) _) (fun _ hk=>⟨hk.1.1.1.1.1.2,hk.1.1.1.1.1.1⟩),mb HB⟩
         ·replace c73:=Bool.eq_false_iff.mpr c73
          subst c73
          have H1:(some (t592,t595,t598,t599,0,1)) = some (r1,r2,r3,r4,r5,r6):=by rw [if_neg (show ¬ (false = true) by decide)] at H;exact H
          clear H
          have H:=H1
          clear H1
          simp only [Option.some.injEq,Prod.mk.injEq] at H
          obtain ⟨rfl,rfl,rfl,rfl,rfl,rfl⟩:=H
          have hnb88:=NB590_591.out
          have hnc88:=NB591_590.out
          have hnb89:=NB590_602.out
          have hnc89:=NB602_590.out
          have hcz90_0:=bz0 BK590
          have hcz90_1:=bz1 BK590
          have hcz90_2:=bz2 BK590
          have hcz90_3:=bz3 BK590
          have hfz90_0:=bf BK590 0
          have hfz90_1:=bf BK590 1
          have hfz90_2:=bf BK590 2
          have hfz90_3:=bf BK590 3
          go_wp2_with (first | ((with_reducible refine gate_callee (f:=42) rfl ?_);refine goesL_ (some 79) rfl rfl Try.func42 (by kernel_rfl) rfl #[.agg #[.slice A0_1 l0_1.length c0_1,.int .i64 a0_2,.slice A0_3 l0_3.length c0_3],.bool a1,.int .i64 (wrap64 (a2 - 192)),.int .i64 a4] rfl ml ?_;(with_reducible refine (spec_DevDo.calls kj49 _ _ l0_1 a0_2 _ _ l0_3 a1 (wrap64 (a2 - 192)) a4 t614 t617 t618 t621 false _ ?side1 ?side2 ?side3 ?side4 A71.out).mono ?_);(case side1=>exact mc (Kd.C_below HR0_1.out HB.out));(case side2=>exact HC0_1.out);(case side3=>exact mc (Kd.C_below HR0_3.out HB.out));(case side4=>exact HC0_3.out);rintro e w91 ⟨v615,v619,rfl,ho0,ho1,hb⟩;refine ⟨_,rfl,?_⟩;have n0_:=Az (Kd.R_mono (Kd.R_told (Kd.R_told (Kd.R_old (mr HO_603000) hb) (Kd.R_base ho0)) (Kd.Q_base ho1)) (fun _ h_=>h_.1));have n1_:=Az (Kd.R_mono (Kd.R_told (Kd.R_told (Kd.R_old (mr HO_603001) hb) (Kd.R_base ho0)) (Kd.Q_base ho1)) (fun _ h_=>h_.1));have n2_:=Az (Kd.R_mono (Kd.R_told (Kd.R_told (Kd.R_old (mr HO_603003) hb) (Kd.R_base ho0)) (Kd.Q_base ho1)) (fun _ h_=>h_.1));have n3_:=Az (Kd.R_lower (Kd.R_new' (Kd.R_new' (Kd.R_new' ho0 (Kd.R_lt (mr HO_603000))) (Kd.R_lt (mr HO_603001))) (Kd.R_lt (mr HO_603003))) (below_size (mb HB)));have n4_:=Az (Kd.Q_lower (Kd.Q_new' (Kd.Q_new' (Kd.Q_new' ho1 (Kd.R_lt (mr HO_603000))) (Kd.R_lt (mr HO_603001))) (Kd.R_lt (mr HO_603003))) (below_size (mb HB)));have n5_:=Az (blk_below (mz BK590) hb);have n6_:=Az (blk_below (mz BK591) hb);have n7_:=Az (blk_below (mz BK602) hb);have n8_:=Az (below_step (mb HB) hb);clear HO_603000 HO_603001 HO_603003 BK590 BK591 BK602 HB;have HO_603000:=n0_;have HO_603001:=n1_;have HO_603003:=n2_;have HO616:=n3_;have HO620:=n4_;have BK590:=n5_;have BK591:=n6_;have BK602:=n7_;have HB:=n8_;clear n0_ n1_ n2_ n3_ n4_ n5_ n6_ n7_ n8_;(try clear hb);(try clear hb2);(try clear hk);(try clear hi);(try clear ho0);(try clear ho1)) | ((with_reducible refine gate_dst (N:=16) rfl ?_);refine box_event ?hg (N:=16) ?hd (cs:=#[.slice none 0 0,.int .i64 0,.slice none 0 0]) (t:=26) ?hr ?_;(case hd=>rfl);(case hg=>rfl);(case hr=>first | (go_simp;done) | (go_simp;rfl));intro gb623 hg w92 hbox hb;have n0_:=Az (Kd.R_below (mr HO_603000) hb);have n1_:=Az (Kd.R_below (mr HO_603001) hb);have n2_:=Az (Kd.R_below (mr HO_603003) hb);have n3_:=Az (Kd.R_below (mr HO616) hb);have n4_:=Az (Kd.Q_below (mq HO620) hb);have n5_:=Az (blk_below (mz BK590) hb);have n6_:=Az (blk_below (mz BK591) hb);have n7_:=Az (blk_below (mz BK602) hb);have n8_:=Az (below_step (mb HB) hb);have n9_:=Az (hbox);have n10_:=Az ((by rw [hg];exact (below_size (mb HB)):w.heap.size ≤ gb623));have n11_:=Az ((by rw [hg];exact (below_size (mb HB)):w.heap.size ≤ gb623));have n12_:=Az ((by rw [hg];exact Nat.ne_of_lt (blk_lt (mz BK590)):gb590 ≠ gb623));have n13_:=Az ((by rw [hg];exact Nat.ne_of_gt (blk_lt (mz BK590)):gb623 ≠ gb590));have n14_:=Az ((by rw [hg];exact Nat.ne_of_lt (blk_lt (mz BK591)):gb591 ≠ gb623));have n15_:=Az ((by rw [hg];exact Nat.ne_of_gt (blk_lt (mz BK591)):gb623 ≠ gb591));have n16_:=Az ((by rw [hg];exact Nat.ne_of_lt (blk_lt (mz BK602)):gb602 ≠ gb623));have n17_:=Az ((by rw [hg];exact Nat.ne_of_gt (blk_lt (mz BK602)):gb623 ≠ gb602));clear HO_603000 HO_603001 HO_603003 HO616 HO620 BK590 BK591 BK602 HB;have HO_603000:=n0_;have HO_603001:=n1_;have HO_603003:=n2_;have HO616:=n3_;have HO620:=n4_;have BK590:=n5_;have BK591:=n6_;have BK602:=n7_;have HB:=n8_;have BK623:=n9_;have GW623:=n10_;have GE623:=n11_;have NB590_623:=n12_;have NB623_590:=n13_;have NB591_623:=n14_;have NB623_591:=n15_;have NB602_623:=n16_;have NB623_602:=n17_;clear n0_ n1_ n2_ n3_ n4_ n5_ n6_ n7_ n8_ n9_ n10_ n11_ n12_ n13_ n14_ n15_ n16_ n17_ hb hbox hg;obtain ⟨Ao93,co93,eo93⟩:=Kd.R_slice HO616.out;subst eo93;have hnb94:=NB623_590.out;have hnc94:=NB590_623.out;have hnb95:=NB623_591.out;have hnc95:=NB591_623.out;have hnb96:=NB623_602.out;have hnc96:=NB602_623.out;have hcz97_0:=bz0 BK623;have hcz97_1:=bz1 BK623;have hcz97_2:=bz2 BK623;have hfz97_0:=bf BK623 0;have hfz97_1:=bf BK623 1;have hfz97_2:=bf BK623 2;obtain ⟨Ao98,co98,eo98,_⟩:=Kd.Q_slice HO620.out;subst eo98;have hnb99:=NB602_591.out;have hnc99:=NB591_602.out;have hcz100_0:=bz0 BK602;have hcz100_1:=bz1 BK602;have hcz100_2:=bz2 BK602;have hcz100_3:=bz3 BK602;have hfz100_0:=bf BK602 0;have hfz100_1:=bf BK602 1;have hfz100_2:=bf BK602 2;have hfz100_3:=bf BK602 3;have hcz101_0:=bz0 BK591;have hcz101_1:=bz1 BK591;have hcz101_2:=bz2 BK591;have hcz101_3:=bz3 BK591;have hfz101_0:=bf BK591 0;have hfz101_1:=bf BK591 1;have hfz101_2:=bf BK591 2;have hfz101_3:=bf BK591 3))
          refine bodyPost_ret (results_ctt rfl _ _ gb591 28 #[.slice Ao14 t592.length co14,.slice Ao18 t595.length co18,.int .i64 t598,.slice Ao19 t599.length co19] (0,0) _ rfl (by refine ms ?_;refine blk_put (cs:=#[.slice Ao14 t592.length co14,.slice Ao18 t595.length co18,.int .i64 t598,.slice none 0 0]) ?_ 3 _ rfl;refine ms ?_;refine blk_put (cs:=#[.slice Ao14 t592.length co14,.slice Ao18 t595.length co18,.int .i64 0,.slice none 0 0]) ?_ 2 _ rfl;refine ms ?_;refine blk_put (cs:=#[.slice Ao14 t592.length co14,.slice none 0 0,.int .i64 0,.slice none 0 0]) ?_ 1 _ rfl;refine ms ?_;refine blk_put (cs:=#[.slice none 0 0,.slice none 0 0,.int .i64 0,.slice none 0 0]) ?_ 0 _ rfl;refine ms ?_;refine blk_far ?_ NB591_623.out _;refine ms ?_;refine blk_far ?_ NB591_623.out _;refine ms ?_;refine blk_far ?_ NB591_623.out _;refine ms ?_;exact BK591.out) Try.underlying28 rfl (by kernel_rfl)) rfl ?_
          exact ⟨_,_,_,by first | rfl | (simp [errW_none,errW_some] <;> rfl) | (simp [*,errW_none,errW_some] <;> rfl),by (with_reducible repeat (first | apply Kd.R_alloc | apply Kd.R_drewN | apply Kd.R_drew));exact Kd.R_mono (Kd.R_far (Kd.R_far (Kd.R_far (Kd.R_far (Kd.R_far (Kd.R_far (Kd.R_far (Kd.R_types (Kd.R_types HO_603000.out BK623.out (by decide)) BK591.out (by decide)) (fun _ hk=>hk.1.2) _) (fun _ hk=>hk.1.2) _) (fun _ hk=>hk.1.2) _) (fun _ hk=>hk.2) _) (fun _ hk=>hk.2) _) (fun _ hk=>hk.2) _) (fun _ hk=>hk.2) _) (fun _ hk=>⟨hk.1.1.1.1.1,hk.1.1.1.1.2⟩),by (with_reducible repeat (first | apply Kd.R_alloc | apply Kd.R_drewN | apply Kd.R_drew));exact Kd.R_mono (Kd.R_far (Kd.R_far (Kd.R_far (Kd.R_far (Kd.R_far (Kd.R_far (Kd.R_far (Kd.R_types (Kd.R_types HO_603001.out BK623.out (by decide)) BK591.out (by decide)) (fun _ hk=>hk.1.2) _) (fun _ hk=>hk.1.2) _) (fun _ hk=>hk.1.2) _) (fun _ hk=>hk.2) _) (fun _ hk=>hk.2) _) (fun _ hk=>hk.2) _) (fun _ hk=>hk.2) _) (fun _ hk=>⟨hk.1.1.1.1.1,hk.1.1.1.1.2⟩),Kd.Q_of_R (by (with_reducible repeat (first | apply Kd.R_alloc | apply Kd.R_drewN | apply Kd.R_drew));exact Kd.R_mono (Kd.R_far (Kd.R_far (Kd.R_far (Kd.R_far (Kd.R_far (Kd.R_far (Kd.R_far (Kd.R_types (Kd.R_types HO_603003.out BK623.out (by decide)) BK591.out (by decide)) (fun _ hk=>hk.1.2) _) (fun _ hk=>hk.1.2) _) (fun _ hk=>hk.1.2) _) (fun _ hk=>hk.2) _) (fun _ hk=>hk.2) _) (fun _ hk=>hk.2) _) (fun _ hk=>hk.2) _) (fun _ hk=>⟨hk.1.1.1.1.1,hk.1.1.1.1.2⟩)),mb HB⟩
        ·rw [if_neg c72] at H
         have c72b0:(a3 == 2) = false:=beq_eq_false_iff_ne.mpr c72
         have c72b1:(a3 != 2) = true:=bne_iff_ne.mpr c72
         simp only [Option.some.injEq,Prod.mk.injEq] at H
         obtain ⟨rfl,rfl,rfl,rfl,rfl,rfl⟩:=H
         have hnb102:=NB590_591.out
         have hnc102:=NB591_590.out
         have hnb103:=NB590_602.out
         have hnc103:=NB602_590.out
         have hcz104_0:=bz0 BK590
         have hcz104_1:=bz1 BK590
         have hcz104_2:=bz2 BK590
         have hcz104_3:=bz3 BK590
         have hfz104_0:=bf BK590 0
         have hfz104_1:=bf BK590 1
         have hfz104_2:=bf BK590 2
         have hfz104_3:=bf BK590 3
         go_wp2_with (first | ((with_reducible refine gate_callee (f:=42) rfl ?_);refine goesL_ (some 79) rfl rfl Try.func42 (by kernel_rfl) rfl #[.agg #[.slice A0_1 l0_1.length c0_1,.int .i64 a0_2,.slice A0_3 l0_3.length c0_3],.bool a1,.int .i64 (wrap64 (a2 - 192)),.int .i64 a4] rfl ml ?_;(with_reducible refine (spec_DevDo.calls kj49 _ _ l0_1 a0_2 _ _ l0_3 a1 (wrap64 (a2 - 192)) a4 t614 t617 t618 t621 t622 _ ?side1 ?side2 ?side3 ?side4 A71.out).mono ?_);(case side1=>exact mc (Kd.C_below HR0_1.out HB.out));(case side2=>exact HC0_1.out);(case side3=>exact mc (Kd.C_below HR0_3.out HB.out));(case side4=>exact HC0_3.out);rintro e w105 ⟨v615,v619,rfl,ho0,ho1,hb⟩;refine ⟨_,rfl,?_⟩;have n0_:=Az (Kd.R_mono (Kd.R_told (Kd.R_told (Kd.R_old (mr HO_603000) hb) (Kd.R_base ho0)) (Kd.Q_base ho1)) (fun _ h_=>h_.1));have n1_:=Az (Kd.R_mono (Kd.R_told (Kd.R_told (Kd.R_old (mr HO_603001) hb) (Kd.R_base ho0)) (Kd.Q_base ho1)) (fun _ h_=>h_.1));have n2_:=Az (Kd.R_mono (Kd.R_told (Kd.R_told (Kd.R_old (mr HO_603003) hb) (Kd.R_base ho0)) (Kd.Q_base ho1)) (fun _ h_=>h_.1));have n3_:=Az (Kd.R_lower (Kd.R_new' (Kd.R_new' (Kd.R_new' ho0 (Kd.R_lt (mr HO_603000))) (Kd.R_lt (mr HO_603001))) (Kd.R_lt (mr HO_603003))) (below_size (mb HB)));have n4_:=Az (Kd.Q_lower (Kd.Q_new' (Kd.Q_new' (Kd.Q_new' ho1 (Kd.R_lt (mr HO_603000))) (Kd.R_lt (mr HO_603001))) (Kd.R_lt (mr HO_603003))) (below_size (mb HB)));have n5_:=Az (blk_below (mz BK590) hb);have n6_:=Az (blk_below (mz BK591) hb);have n7_:=Az (blk_below (mz BK602) hb);have n8_:=Az (below_step (mb HB) hb);clear HO_603000 HO_603001 HO_603003 BK590 BK591 BK602 HB;have HO_603000:=n0_;have HO_603001:=n1_;have HO_603003:=n2_;have HO616:=n3_;have HO620:=n4_;have BK590:=n5_;have BK591:=n6_;have BK602:=n7_;have HB:=n8_;clear n0_ n1_ n2_ n3_ n4_ n5_ n6_ n7_ n8_;(try clear hb);(try clear hb2);(try clear hk);(try clear hi);(try clear ho0);(try clear ho1)) | ((with_reducible refine gate_dst (N:=16) rfl ?_);refine box_event ?hg (N:=16) ?hd (cs:=#[.slice none 0 0,.int .i64 0,.slice none 0 0]) (t:=26) ?hr ?_;(case hd=>rfl);(case hg=>rfl);(case hr=>first | (go_simp;done) | (go_simp;rfl));intro gb623 hg w106 hbox hb;have n0_:=Az (Kd.R_below (mr HO_603000) hb);have n1_:=Az (Kd.R_below (mr HO_603001) hb);have n2_:=Az (Kd.R_below (mr HO_603003) hb);have n3_:=Az (Kd.R_below (mr HO616) hb);have n4_:=Az (Kd.Q_below (mq HO620) hb);have n5_:=Az (blk_below (mz BK590) hb);have n6_:=Az (blk_below (mz BK591) hb);have n7_:=Az (blk_below (mz BK602) hb);have n8_:=Az (below_step (mb HB) hb);have n9_:=Az (hbox);have n10_:=Az ((by rw [hg];exact (below_size (mb HB)):w.heap.size ≤ gb623));have n11_:=Az ((by rw [hg];exact (below_size (mb HB)):w.heap.size ≤ gb623));have n12_:=Az ((by rw [hg];exact Nat.ne_of_lt (blk_lt (mz BK590)):gb590 ≠ gb623));have n13_:=Az ((by rw [hg];exact Nat.ne_of_gt (blk_lt (mz BK590)):gb623 ≠ gb590));have n14_:=Az ((by rw [hg];exact Nat.ne_of_lt (blk_lt (mz BK591)):gb591 ≠ gb623));have n15_:=Az ((by rw [hg];exact Nat.ne_of_gt (blk_lt (mz BK591)):gb623 ≠ gb591));have n16_:=Az ((by rw [hg];exact Nat.ne_of_lt (blk_lt (mz BK602)):gb602 ≠ gb623));have n17_:=Az ((by rw [hg];exact Nat.ne_of_gt (blk_lt (mz BK602)):gb623 ≠ gb602));clear HO_603000 HO_603001 HO_603003 HO616 HO620 BK590 BK591 BK602 HB;have HO_603000:=n0_;have HO_603001:=n1_;have HO_603003:=n2_;have HO616:=n3_;have HO620:=n4_;have BK590:=n5_;have BK591:=n6_;have BK602:=n7_;have HB:=n8_;have BK623:=n9_;have GW623:=n10_;have GE623:=n11_;have NB590_623:=n12_;have NB623_590:=n13_;have NB591_623:=n14_;have NB623_591:=n15_;have NB602_623:=n16_;have NB623_602:=n17_;clear n0_ n1_ n2_ n3_ n4_ n5_ n6_ n7_ n8_ n9_ n10_ n11_ n12_ n13_ n14_ n15_ n16_ n17_ hb hbox hg;obtain ⟨Ao107,co107,eo107⟩:=Kd.R_slice HO616.out;subst eo107;have hnb108:=NB623_590.out;have hnc108:=NB590_623.out;have hnb109:=NB623_591.out;have hnc109:=NB591_623.out;have hnb110:=NB623_602.out;have hnc110:=NB602_623.out;have hcz111_0:=bz0 BK623;have hcz111_1:=bz1 BK623;have hcz111_2:=bz2 BK623;have hfz111_0:=bf BK623 0;have hfz111_1:=bf BK623 1;have hfz111_2:=bf BK623 2;obtain ⟨Ao112,co112,eo112,_⟩:=Kd.Q_slice HO620.out;subst eo112;have hnb113:=NB602_591.out;have hnc113:=NB591_602.out;have hcz114_0:=bz0 BK602;have hcz114_1:=bz1 BK602;have hcz114_2:=bz2 BK602;have hcz114_3:=bz3 BK602;have hfz114_0:=bf BK602 0;have hfz114_1:=bf BK602 1;have hfz114_2:=bf BK602 2;have hfz114_3:=bf BK602 3;have hcz115_0:=bz0 BK591;have hcz115_1:=bz1 BK591;have hcz115_2:=bz2 BK591;have hcz115_3:=bz3 BK591;have hfz115_0:=bf BK591 0;have hfz115_1:=bf BK591 1;have hfz115_2:=bf BK591 2;have hfz115_3:=bf BK591 3))
         refine bodyPost_ret (results_ctt rfl _ _ gb591 28 #[.slice Ao14 t592.length co14,.slice Ao18 t595.length co18,.int .i64 t598,.slice Ao19 t599.length co19] (0,0) _ rfl (by refine ms ?_;refine blk_put (cs:=#[.slice Ao14 t592.length co14,.slice Ao18 t595.length co18,.int .i64 t598,.slice none 0 0]) ?_ 3 _ rfl;refine ms ?_;refine blk_put (cs:=#[.slice Ao14 t592.length co14,.slice Ao18 t595.length co18,.int .i64 0,.slice none 0 0]) ?_ 2 _ rfl;refine ms ?_;refine blk_put (cs:=#[.slice Ao14 t592.length co14,.slice none 0 0,.int .i64 0,.slice none 0 0]) ?_ 1 _ rfl;refine ms ?_;refine blk_put (cs:=#[.slice none 0 0,.slice none 0 0,.int .i64 0,.slice none 0 0]) ?_ 0 _ rfl;refine ms ?_;refine blk_far ?_ NB591_623.out _;refine ms ?_;refine blk_far ?_ NB591_623.out _;refine ms ?_;refine blk_far ?_ NB591_623.out _;refine ms ?_;exact BK591.out) Try.underlying28 rfl (by kernel_rfl)) rfl ?_
         exact ⟨_,_,_,by first | rfl | (simp [errW_none,errW_some] <;> rfl) | (simp [*,errW_none,errW_some] <;> rfl),by (with_reducible repeat (first | apply Kd.R_alloc | apply Kd.R_drewN | apply Kd.R_drew));exact Kd.R_mono (Kd.R_far (Kd.R_far (Kd.R_far (Kd.R_far (Kd.R_far (Kd.R_far (Kd.R_far (Kd.R_types (Kd.R_types HO_603000.out BK623.out (by decide)) BK591.out (by decide)) (fun _ hk=>hk.1.2) _) (fun _ hk=>hk.1.2) _) (fun _ hk=>hk.1.2) _) (fun _ hk=>hk.2) _) (fun _ hk=>hk.2) _) (fun _ hk=>hk.2) _) (fun _ hk=>hk.2) _) (fun _ hk=>⟨hk.1.1.1.1.1,hk.1.1.1.1.2⟩),by (with_reducible repeat (first | apply Kd.R_alloc | apply Kd.R_drewN | apply Kd.R_drew));exact Kd.R_mono (Kd.R_far (Kd.R_far (Kd.R_far (Kd.R_far (Kd.R_far (Kd.R_far (Kd.R_far (Kd.R_types (Kd.R_types HO_603001.out BK623.out (by decide)) BK591.out (by decide)) (fun _ hk=>hk.1.2) _) (fun _ hk=>hk.1.2) _) (fun _ hk=>hk.1.2) _) (fun _ hk=>hk.2) _) (fun _ hk=>hk.2) _) (fun _ hk=>hk.2) _) (fun _ hk=>hk.2) _) (fun _ hk=>⟨hk.1.1.1.1.1,hk.1.1.1.1.2⟩),Kd.Q_of_R (by (with_reducible repeat (first | apply Kd.R_alloc | apply Kd.R_drewN | apply Kd.R_drew));exact Kd.R_mono (Kd.R_far (Kd.R_far (Kd.R_far (Kd.R_far (Kd.R_far (Kd.R_far (Kd.R_far (Kd.R_types (Kd.R_types HO_603003.out BK623.out (by decide)) BK591.out (by decide)) (fun _ hk=>hk.1.2) _) (fun _ hk=>hk.1.2) _) (fun _ hk=>hk.1.2) _) (fun _ hk=>hk.2) _) (fun _ hk=>hk.2) _) (fun _ hk=>hk.2) _) (fun _ hk=>hk.2) _) (fun _ hk=>⟨hk.1.1.1.1.1,hk.1.1.1.1.2⟩)),mb HB⟩
       ·rw [if_neg c70] at H
        have c70b0:(t607 == 3) = false:=beq_eq_false_iff_ne.mpr c70
        have c70b1:(t607 != 3) = true:=bne_iff_ne.mpr c70
        simp only [Option.some.injEq,Prod.mk.injEq] at H
        obtain ⟨rfl,rfl,rfl,rfl,rfl,rfl⟩:=H
        have hnb116:=NB602_590.out
        have hnc116:=NB590_602.out
        have hnb117:=NB602_591.out
        have hnc117:=NB591_602.out
        have hcz118_0:=bz0 BK602
        have hcz118_1:=bz1 BK602
        have hcz118_2:=bz2 BK602
        have hcz118_3:=bz3 BK602
        have hfz118_0:=bf BK602 0
        have hfz118_1:=bf BK602 1
        have hfz118_2:=bf BK602 2
        have hfz118_3:=bf BK602 3
        have hnb119:=NB591_590.out
        have hnc119:=NB590_591.out
        have hcz120_0:=bz0 BK591
        have hcz120_1:=bz1 BK591
        have hcz120_2:=bz2 BK591
        have hcz120_3:=bz3 BK591
        have hfz120_0:=bf BK591 0
        have hfz120_1:=bf BK591 1
        have hfz120_2:=bf BK591 2
        have hfz120_3:=bf BK591 3
        go_wp2
        refine bodyPost_ret (results_ctt rfl _ _ gb591 28 #[.slice Ao14 t592.length co14,.slice Ao18 t595.length co18,.int .i64 t598,.slice Ao19 t599.length co19] (0,0) _ rfl (by refine ms ?_;refine blk_put (cs:=#[.slice Ao14 t592.length co14,.slice Ao18 t595.length co18,.int .i64 t598,.slice none 0 0]) ?_ 3 _ rfl;refine ms ?_;refine blk_put (cs:=#[.slice Ao14 t592.length co14,.slice Ao18 t595.length co18,.int .i64 0,.slice none 0 0]) ?_ 2 _ rfl;refine ms ?_;refine blk_put (cs:=#[.slice Ao14 t592.length co14,.slice none 0 0,.int .i64 0,.slice none 0 0]) ?_ 1 _ rfl;refine ms ?_;refine blk_put (cs:=#[.slice none 0 0,.slice none 0 0,.int .i64 0,.slice none 0 0]) ?_ 0 _ rfl;refine ms ?_;exact BK591.out) Try.underlying28 rfl (by kernel_rfl)) rfl ?_
        exact ⟨_,_,_,by first | rfl | (simp [errW_none,errW_some] <;> rfl) | (simp [*,errW_none,errW_some] <;> rfl),by (with_reducible repeat (first | apply Kd.R_alloc | apply Kd.R_drewN | apply Kd.R_drew));exact Kd.R_mono (Kd.R_far (Kd.R_far (Kd.R_far (Kd.R_far (Kd.R_types HO_603000.out BK591.out (by decide)) (fun _ hk=>hk.2) _) (fun _ hk=>hk.2) _) (fun _ hk=>hk.2) _) (fun _ hk=>hk.2) _) (fun _ hk=>⟨hk.1.1,hk.1.2⟩),by (with_reducible repeat (first | apply Kd.R_alloc | apply Kd.R_drewN | apply Kd.R_drew));exact Kd.R_mono (Kd.R_far (Kd.R_far (Kd.R_far (Kd.R_far (Kd.R_types HO_603001.out BK591.out (by decide)) (fun _ hk=>hk.2) _) (fun _ hk=>hk.2) _) (fun _ hk=>hk.2) _) (fun _ hk=>hk.2) _) (fun _ hk=>⟨hk.1.1,hk.1.2⟩),Kd.Q_of_R (by (with_reducible repeat (first | apply Kd.R_alloc | apply Kd.R_drewN | apply Kd.R_drew));exact Kd.R_mono (Kd.R_far (Kd.R_far (Kd.R_far (Kd.R_far (Kd.R_types HO_603003.out BK591.out (by decide)) (fun _ hk=>hk.2) _) (fun _ hk=>hk.2) _) (fun _ hk=>hk.2) _) (fun _ hk=>hk.2) _) (fun _ hk=>⟨hk.1.1,hk.1.2⟩)),mb HB⟩
def spec_l5Ints.l0:Nat → List Int → List Int → Int → Option (Bool)
 | 0,_,_,_=>none
 | k + 1,x0,x1,x5=>if x5 < (x0.length:Int) then (if 0 ≤ x5 then (if x5 < (x1.length:Int) then (if (rd x0 x5) = (rd x1 x5) then (spec_l5Ints.l0 k x0 x1 (wrap64 (x5 + 1))) else (some false)) else (none)) else (none)) else (some true)
def spec_l5Ints.f (k:Nat) (l0:List Int) (l1:List Int):Option (Bool):=if (l0.length:Int) = (l1.length:Int) then (spec_l5Ints.l0 k l0 l1 0) else (some false)
set_option maxHeartbeats 8000000 in
set_option maxRecDepth 100000 in
theorem spec_l5Ints.calls (k:Nat) (A0:Option Addr) (c0:Nat) (l0:List Int) (A1:Option Addr) (c1:Nat) (l1:List Int) (r:Bool) (w:World) (hr0:Kd.C (Kd.int .i64) w A0 l0.length l0) (hc0:l0.length ≤ c0) (hr1:Kd.C (Kd.int .i64) w A1 l1.length l1) (hc1:l1.length ≤ c1) (h:spec_l5Ints.f k l0 l1 = some r) :
  Calls Try.prog 62 #[.slice A0 l0.length c0,.slice A1 l1.length c1] w fun e w'=>e = .returned (.bool r) ∧ Drawn0 w w':=by
 have HR0:=Aside0.mk hr0
 have HC0:=Aside0.mk hc0
 clear hr0 hc0
 have HR1:=Aside0.mk hr1
 have HC1:=Aside0.mk hc1
 clear hr1 hc1
 have H:(if (l0.length:Int) = (l1.length:Int) then (spec_l5Ints.l0 k l0 l1 0) else (some false)) = some r:=h
 clear h
 by_cases c3:(l0.length:Int) = (l1.length:Int)
 ·rw [if_pos c3] at H
  have c3b0:((l0.length:Int) == (l1.length:Int)) = true:=beq_iff_eq.mpr c3
  have c3b1:((l0.length:Int) != (l1.length:Int)) = false:=bne_eq_false_iff_eq.mpr c3
  have c3b2:(l0.length == l1.length) = true:=by first | simpa using c3 | (simp at c3 ⊢;omega)
  clear c3
  have H':=Aside0.mk H
  clear H
  go_enter Try.func62,Try.ntmps62
  go_wp2
  repeat (go_quiet (fail);try go_wp2)
  go_loopg [5] k (fun kq v5 w'=>∃ (x5_1:Int),v5 = .int .i64 x5_1 ∧ Aside0 (spec_l5Ints.l0 kq l0 l1 x5_1 = some r) ∧ Aside0 (kq ≤ k) ∧ Drawn0 w w')
  case atStart=>exact ⟨(0),(by first | rfl | (simp;done) | (simp [*];done)),H',⟨Nat.le_refl _⟩,by repeat (first | exact Drawn0.refl _ | apply Drawn0.step)⟩
  case round =>
   clear H'
   try clear c1
   try clear c3
   try clear c3b0
   try clear c3b1
   try clear c3b2
   obtain ⟨x5_1,rfl,HA,HK1,⟨m1,rfl⟩⟩:=hrel
   cases gk with
   | zero=>exact absurd HA.out (by simp [spec_l5Ints.l0])
   | succ k1 =>
    have H:=HA.out
    clear HA
    simp only [spec_l5Ints.l0] at H
    by_cases c4:x5_1 < (l0.length:Int)
    ·rw [if_pos c4] at H
     have c4b0:decide (x5_1 < (l0.length:Int)) = true:=decide_eq_true c4
     clear c4
     by_cases c5:0 ≤ x5_1
     ·rw [if_pos c5] at H
      have c5b0:decide (0 ≤ x5_1) = true:=decide_eq_true c5
      clear c5
      by_cases c6:x5_1 < (l1.length:Int)
      ·rw [if_pos c6] at H
       have c6b0:decide (x5_1 < (l1.length:Int)) = true:=decide_eq_true c6
       clear c6
       by_cases c7:(rd l0 x5_1) = (rd l1 x5_1)
       ·rw [if_pos c7] at H
        have c7b0:((rd l0 x5_1) == (rd l1 x5_1)) = true:=beq_iff_eq.mpr c7
        have c7b1:((rd l0 x5_1) != (rd l1 x5_1)) = false:=bne_eq_false_iff_eq.mpr c7
        clear c7
        have H':=Aside0.mk H
        clear H
        have p624:0 ≤ (x5_1:Int):=of_decide_eq_true (by first | (with_reducible assumption) | assumption)
        have q624:x5_1 < (l0.length:Int):=of_decide_eq_true (by first | (with_reducible assumption) | assumption)
        obtain ⟨ad624,e624,hx624_0⟩:=Kd.at_int HR0.out x5_1 p624 q624
        cases e624
        replace p624:=eq_true p624
        replace q624:=eq_true q624
        have p625:0 ≤ (x5_1:Int):=of_decide_eq_true (by first | (with_reducible assumption) | assumption)
        have q625:x5_1 < (l1.length:Int):=of_decide_eq_true (by first | (with_reducible assumption) | assumption)
        obtain ⟨ad625,e625,hx625_0⟩:=Kd.at_int HR1.out x5_1 p625 q625
        cases e625
        replace p625:=eq_true p625
        replace q625:=eq_true q625
        go_wp2
        repeat (go_quiet (fail);try go_wp2)
        go_roundg k1
        case measure=>have:=HK1.out;omega
        case rel=>exact ⟨(wrap64 (x5_1 + 1)),(by first | rfl | (simp;done) | (simp [*];done)),H',⟨by have:=HK1.out;omega⟩,by repeat (first | exact Drawn0.refl _ | apply Drawn0.step)⟩
       ·rw [if_neg c7] at H
        have c7b0:((rd l0 x5_1) == (rd l1 x5_1)) = false:=beq_eq_false_iff_ne.mpr c7
        have c7b1:((rd l0 x5_1) != (rd l1 x5_1)) = true:=bne_iff_ne.mpr c7
        obtain rfl:=Option.some.inj H
        have p624:0 ≤ (x5_1:Int):=of_decide_eq_true (by first | (with_reducible assumption) | assumption)
        have q624:x5_1 < (l0.length:Int):=of_decide_eq_true (by first | (with_reducible assumption) | assumption)
        obtain ⟨ad624,e624,hx624_0⟩:=Kd.at_int HR0.out x5_1 p624 q624
        cases e624
        replace p624:=eq_true p624
        replace q624:=eq_true q624
        have p625:0 ≤ (x5_1:Int):=of_decide_eq_true (by first | (with_reducible assumption) | assumption)
        have q625:x5_1 < (l1.length:Int):=of_decide_eq_true (by first | (with_reducible assumption) | assumption)
        obtain ⟨ad625,e625,hx625_0⟩:=Kd.at_int HR1.out x5_1 p625 q625
        cases e625
        replace p625:=eq_true p625
        replace q625:=eq_true q625
        go_wp2
        repeat (go_quiet (fail);try go_wp2)
        go_ret
        exact ⟨by first | rfl | (simp;done) | (simp [*];done),by repeat (first | exact Drawn0.refl _ | apply Drawn0.step)⟩
      ·rw [if_neg c6] at H
       exact absurd H (by simp)
     ·rw [if_neg c5] at H
      exact absurd H (by simp)
    ·rw [if_neg c4] at H
     have c4b0:decide (x5_1 < (l0.length:Int)) = false:=decide_eq_false c4
     clear c4
     obtain rfl:=Option.some.inj H
     go_wp2
     repeat (go_quiet (fail);try go_wp2)
     go_ret
     exact ⟨by first | rfl | (simp;done) | (simp [*];done),by repeat (first | exact Drawn0.refl _ | apply Drawn0.step)⟩
 ·rw [if_neg c3] at H
  have c3b0:((l0.length:Int) == (l1.length:Int)) = false:=beq_eq_false_iff_ne.mpr c3
  have c3b1:((l0.length:Int) != (l1.length:Int)) = true:=bne_iff_ne.mpr c3
  have c3b2:(l0.length == l1.length) = false:=by first | simpa using c3 | (simp at c3 ⊢;omega)
  obtain rfl:=Option.some.inj H
  go_enter Try.func62,Try.ntmps62
  go_wp2
  repeat (go_quiet (fail);try go_wp2)
  go_ret
  exact ⟨by first | rfl | (simp;done) | (simp [*];done),by repeat (first | exact Drawn0.refl _ | apply Drawn0.step)⟩
def spec_SameDev.f (k:Nat) (l0_0:List Int) (a0_1:Int) (l0_2:List Int) (l1_0:List Int) (a1_1:Int) (l1_2:List Int):Option (Bool):=(spec_l5Ints.f k l0_0 l1_0).bind fun t628=>(if t628 = true then (if a0_1 = a1_1 then ((spec_l5Ints.f k l0_2 l1_2).bind fun t629=>(some t629)) else (some false)) else (some false))
set_option maxHeartbeats 8000000 in
set_option maxRecDepth 100000 in
theorem spec_SameDev.calls (k:Nat) (A0_0:Option Addr) (c0_0:Nat) (l0_0:List Int) (a0_1:Int) (A0_2:Option Addr) (c0_2:Nat) (l0_2:List Int) (A1_0:Option Addr) (c1_0:Nat) (l1_0:List Int) (a1_1:Int) (A1_2:Option Addr) (c1_2:Nat) (l1_2:List Int) (r:Bool) (w:World) (hr0_0:Kd.C (Kd.int .i64) w A0_0 l0_0.length l0_0) (hc0_0:l0_0.length ≤ c0_0) (hr0_2:Kd.C (Kd.int .i64) w A0_2 l0_2.length l0_2) (hc0_2:l0_2.length ≤ c0_2) (hr1_0:Kd.C (Kd.int .i64) w A1_0 l1_0.length l1_0) (hc1_0:l1_0.length ≤ c1_0) (hr1_2:Kd.C (Kd.int .i64) w A1_2 l1_2.length l1_2) (hc1_2:l1_2.length ≤ c1_2) (h:spec_SameDev.f k l0_0 a0_1 l0_2 l1_0 a1_1 l1_2 = some r) :
  Calls Try.prog 31 #[.agg #[.slice A0_0 l0_0.length c0_0,.int .i64 a0_1,.slice A0_2 l0_2.length c0_2],.agg #[.slice A1_0 l1_0.length c1_0,.int .i64 a1_1,.slice A1_2 l1_2.length c1_2]] w fun e w'=>e = .returned (.bool r) ∧ Below w.heap.size w w':=by
 have hu26:=Try.underlying26
 have HR0_0:=Aside0.mk hr0_0
 have HC0_0:=Aside0.mk hc0_0
 clear hr0_0 hc0_0
 have HR0_2:=Aside0.mk hr0_2
 have HC0_2:=Aside0.mk hc0_2
 clear hr0_2 hc0_2
 have HR1_0:=Aside0.mk hr1_0
 have HC1_0:=Aside0.mk hc1_0
 clear hr1_0 hc1_0
 have HR1_2:=Aside0.mk hr1_2
 have HC1_2:=Aside0.mk hc1_2
 clear hr1_2 hc1_2
 have HB:=Az (Below.refl w.heap.size w)
 have H:((spec_l5Ints.f k l0_0 l1_0).bind fun t628=>(if t628 = true then (if a0_1 = a1_1 then ((spec_l5Ints.f k l0_2 l1_2).bind fun t629=>(some t629)) else (some false)) else (some false))) = some r:=h
 clear h
 replace H:=Option.bind_eq_some_iff.mp H
 obtain ⟨t628,A30,H⟩:=H
 replace H:(if t628 = true then (if a0_1 = a1_1 then ((spec_l5Ints.f k l0_2 l1_2).bind fun t629=>(some t629)) else (some false)) else (some false)) = some r:=H
 have A3:=Aside0.mk A30
 clear A30
 by_cases c4:t628 = true
 ·subst c4
  have H1:(if a0_1 = a1_1 then ((spec_l5Ints.f k l0_2 l1_2).bind fun t629=>(some t629)) else (some false)) = some r:=by rw [if_pos rfl] at H;exact H
  clear H
  have H:=H1
  clear H1
  by_cases c5:a0_1 = a1_1
  ·rw [if_pos c5] at H
   have c5b0:(a0_1 == a1_1) = true:=beq_iff_eq.mpr c5
   have c5b1:(a0_1 != a1_1) = false:=bne_eq_false_iff_eq.mpr c5
   clear c5
   replace H:=Option.bind_eq_some_iff.mp H
   obtain ⟨t629,A60,H⟩:=H
   replace H:(some t629) = some r:=H
   have A6:=Aside0.mk A60
   clear A60
   obtain rfl:=Option.some.inj H
   go_enter Try.func31,Try.ntmps31
   go_wp2_with (first | ((with_reducible refine gate_dst (N:=2) rfl ?_);refine box_event ?hg (N:=2) ?hd (cs:=#[.slice A0_0 l0_0.length c0_0,.int .i64 a0_1,.slice A0_2 l0_2.length c0_2]) (t:=26) ?hr ?_;(case hd=>rfl);(case hg=>rfl);(case hr=>first | (go_simp;done) | (go_simp;rfl));intro gb626 hg w7 hbox hb;have n0_:=Az (below_step (mb HB) hb);have n1_:=Az (hbox);have n2_:=Az ((by rw [hg];exact (below_size (mb HB)):w.heap.size ≤ gb626));have n3_:=Az ((by rw [hg];exact (below_size (mb HB)):w.heap.size ≤ gb626));clear HB;have HB:=n0_;have BK626:=n1_;have GW626:=n2_;have GE626:=n3_;clear n0_ n1_ n2_ n3_;clear hb hbox hg) | ((with_reducible refine gate_dst (N:=3) rfl ?_);refine box_event ?hg (N:=3) ?hd (cs:=#[.slice A1_0 l1_0.length c1_0,.int .i64 a1_1,.slice A1_2 l1_2.length c1_2]) (t:=26) ?hr ?_;(case hd=>rfl);(case hg=>rfl);(case hr=>first | (go_simp;done) | (go_simp;rfl));intro gb627 hg w8 hbox hb;have n0_:=Az (blk_below (mz BK626) hb);have n1_:=Az (below_step (mb HB) hb);have n2_:=Az (hbox);have n3_:=Az ((by rw [hg];exact (below_size (mb HB)):w.heap.size ≤ gb627));have n4_:=Az ((by rw [hg];exact (below_size (mb HB)):w.heap.size ≤ gb627));have n5_:=Az ((by rw [hg];exact Nat.ne_of_lt (blk_lt (mz BK626)):gb626 ≠ gb627));have n6_:=Az ((by rw [hg];exact Nat.ne_of_gt (blk_lt (mz BK626)):gb627 ≠ gb626));clear BK626 HB;have BK626:=n0_;have HB:=n1_;have BK627:=n2_;have GW627:=n3_;have GE627:=n4_;have NB626_627:=n5_;have NB627_626:=n6_;clear n0_ n1_ n2_ n3_ n4_ n5_ n6_ hb hbox hg;have hnb9:=NB626_627.out;have hnc9:=NB627_626.out;have hcz10_0:=bz0 BK626;have hcz10_1:=bz1 BK626;have hcz10_2:=bz2 BK626;have hfz10_0:=bf BK626 0;have hfz10_1:=bf BK626 1;have hfz10_2:=bf BK626 2;have hcz11_0:=bz0 BK627;have hcz11_1:=bz1 BK627;have hcz11_2:=bz2 BK627;have hfz11_0:=bf BK627 0;have hfz11_1:=bf BK627 1;have hfz11_2:=bf BK627 2) | ((with_reducible refine gate_callee (f:=62) rfl ?_);refine goesL_ (some 9) rfl rfl Try.func62 (by kernel_rfl) rfl #[.slice A0_0 l0_0.length c0_0,.slice A1_0 l1_0.length c1_0] rfl ml ?_;(with_reducible refine (spec_l5Ints.calls k _ _ l0_0 _ _ l1_0 true _ ?side1 ?side2 ?side3 ?side4 A3.out).mono ?_);(case side1=>exact mc (Kd.C_below HR0_0.out HB.out));(case side2=>exact HC0_0.out);(case side3=>exact mc (Kd.C_below HR1_0.out HB.out));(case side4=>exact HC1_0.out);rintro e w' ⟨rfl,⟨nd,rfl⟩⟩;refine ⟨_,rfl,?_⟩) | (go_at_call 62;(with_reducible refine (spec_l5Ints.calls k _ _ l0_2 _ _ l1_2 t629 _ ?side1 ?side2 ?side3 ?side4 A6.out).mono ?_);(case side1=>repeat (first | exact (Kd.C_below HR0_2.out (mb HB)) | (with_reducible refine Kd.C_alloc ?_ _) | (with_reducible refine Kd.C_drewN ?_ _) | (with_reducible refine Kd.C_drew ?_)));(case side2=>exact HC0_2.out);(case side3=>repeat (first | exact (Kd.C_below HR1_2.out (mb HB)) | (with_reducible refine Kd.C_alloc ?_ _) | (with_reducible refine Kd.C_drewN ?_ _) | (with_reducible refine Kd.C_drew ?_)));(case side4=>exact HC1_2.out);rintro e w' ⟨rfl,⟨nd,rfl⟩⟩))
   go_ret
   exact ⟨by first | rfl | (simp [errW_none,errW_some] <;> rfl) | (simp [*,errW_none,errW_some] <;> rfl),mb HB⟩
  ·rw [if_neg c5] at H
   have c5b0:(a0_1 == a1_1) = false:=beq_eq_false_iff_ne.mpr c5
   have c5b1:(a0_1 != a1_1) = true:=bne_iff_ne.mpr c5
   obtain rfl:=Option.some.inj H
   go_enter Try.func31,Try.ntmps31
   go_wp2_with (first | ((with_reducible refine gate_dst (N:=2) rfl ?_);refine box_event ?hg (N:=2) ?hd (cs:=#[.slice A0_0 l0_0.length c0_0,.int .i64 a0_1,.slice A0_2 l0_2.length c0_2]) (t:=26) ?hr ?_;(case hd=>rfl);(case hg=>rfl);(case hr=>first | (go_simp;done) | (go_simp;rfl));intro gb626 hg w12 hbox hb;have n0_:=Az (below_step (mb HB) hb);have n1_:=Az (hbox);have n2_:=Az ((by rw [hg];exact (below_size (mb HB)):w.heap.size ≤ gb626));have n3_:=Az ((by rw [hg];exact (below_size (mb HB)):w.heap.size ≤ gb626));clear HB;have HB:=n0_;have BK626:=n1_;have GW626:=n2_;have GE626:=n3_;clear n0_ n1_ n2_ n3_;clear hb hbox hg) | ((with_reducible refine gate_dst (N:=3) rfl ?_);refine box_event ?hg (N:=3) ?hd (cs:=#[.slice A1_0 l1_0.length c1_0,.int .i64 a1_1,.slice A1_2 l1_2.length c1_2]) (t:=26) ?hr ?_;(case hd=>rfl);(case hg=>rfl);(case hr=>first | (go_simp;done) | (go_simp;rfl));intro gb627 hg w13 hbox hb;have n0_:=Az (blk_below (mz BK626) hb);have n1_:=Az (below_step (mb HB) hb);have n2_:=Az (hbox);have n3_:=Az ((by rw [hg];exact (below_size (mb HB)):w.heap.size ≤ gb627));have n4_:=Az ((by rw [hg];exact (below_size (mb HB)):w.heap.size ≤ gb627));have n5_:=Az ((by rw [hg];exact Nat.ne_of_lt (blk_lt (mz BK626)):gb626 ≠ gb627));have n6_:=Az ((by rw [hg];exact Nat.ne_of_gt (blk_lt (mz BK626)):gb627 ≠ gb626));clear BK626 HB;have BK626:=n0_;have HB:=n1_;have BK627:=n2_;have GW627:=n3_;have GE627:=n4_;have NB626_627:=n5_;have NB627_626:=n6_;clear n0_ n1_ n2_ n3_ n4_ n5_ n6_ hb hbox hg;have hnb14:=NB626_627.out;have hnc14:=NB627_626.out;have hcz15_0:=bz0 BK626;have hcz15_1:=bz1 BK626;have hcz15_2:=bz2 BK626;have hfz15_0:=bf BK626 0;have hfz15_1:=bf BK626 1;have hfz15_2:=bf BK626 2;have hcz16_0:=bz0 BK627;have hcz16_1:=bz1 BK627;have hcz16_2:=bz2 BK627;have hfz16_0:=bf BK627 0;have hfz16_1:=bf BK627 1;have hfz16_2:=bf BK627 2) | ((with_reducible refine gate_callee (f:=62) rfl ?_);refine goesL_ (some 9) rfl rfl Try.func62 (by kernel_rfl) rfl #[.slice A0_0 l0_0.length c0_0,.slice A1_0 l1_0.length c1_0] rfl ml ?_;(with_reducible refine (spec_l5Ints.calls k _ _ l0_0 _ _ l1_0 true _ ?side1 ?side2 ?side3 ?side4 A3.out).mono ?_);(case side1=>exact mc (Kd.C_below HR0_0.out HB.out));(case side2=>exact HC0_0.out);(case side3=>exact mc (Kd.C_below HR1_0.out HB.out));(case side4=>exact HC1_0.out);rintro e w' ⟨rfl,⟨nd,rfl⟩⟩;refine ⟨_,rfl,?_⟩))
   go_ret
   exact ⟨by first | rfl | (simp [errW_none,errW_some] <;> rfl) | (simp [*,errW_none,errW_some] <;> rfl),mb HB⟩
 ·replace c4:=Bool.eq_false_iff.mpr c4
  subst c4
  have H1:(some false) = some r:=by rw [if_neg (show ¬ (false = true) by decide)] at H;exact H
  clear H
  have H:=H1
  clear H1
  obtain rfl:=Option.some.inj H
  go_enter Try.func31,Try.ntmps31
  go_wp2_with (first | ((with_reducible refine gate_dst (N:=2) rfl ?_);refine box_event ?hg (N:=2) ?hd (cs:=#[.slice A0_0 l0_0.length c0_0,.int .i64 a0_1,.slice A0_2 l0_2.length c0_2]) (t:=26) ?hr ?_;(case hd=>rfl);(case hg=>rfl);(case hr=>first | (go_simp;done) | (go_simp;rfl));intro gb626 hg w17 hbox hb;have n0_:=Az (below_step (mb HB) hb);have n1_:=Az (hbox);have n2_:=Az ((by rw [hg];exact (below_size (mb HB)):w.heap.size ≤ gb626));have n3_:=Az ((by rw [hg];exact (below_size (mb HB)):w.heap.size ≤ gb626));clear HB;have HB:=n0_;have BK626:=n1_;have GW626:=n2_;have GE626:=n3_;clear n0_ n1_ n2_ n3_;clear hb hbox hg) | ((with_reducible refine gate_dst (N:=3) rfl ?_);refine box_event ?hg (N:=3) ?hd (cs:=#[.slice A1_0 l1_0.length c1_0,.int .i64 a1_1,.slice A1_2 l1_2.length c1_2]) (t:=26) ?hr ?_;(case hd=>rfl);(case hg=>rfl);(case hr=>first | (go_simp;done) | (go_simp;rfl));intro gb627 hg w18 hbox hb;have n0_:=Az (blk_below (mz BK626) hb);have n1_:=Az (below_step (mb HB) hb);have n2_:=Az (hbox);have n3_:=Az ((by rw [hg];exact (below_size (mb HB)):w.heap.size ≤ gb627));have n4_:=Az ((by rw [hg];exact (below_size (mb HB)):w.heap.size ≤ gb627));have n5_:=Az ((by rw [hg];exact Nat.ne_of_lt (blk_lt (mz BK626)):gb626 ≠ gb627));have n6_:=Az ((by rw [hg];exact Nat.ne_of_gt (blk_lt (mz BK626)):gb627 ≠ gb626));clear BK626 HB;have BK626:=n0_;have HB:=n1_;have BK627:=n2_;have GW627:=n3_;have GE627:=n4_;have NB626_627:=n5_;have NB627_626:=n6_;clear n0_ n1_ n2_ n3_ n4_ n5_ n6_ hb hbox hg;have hnb19:=NB626_627.out;have hnc19:=NB627_626.out;have hcz20_0:=bz0 BK626;have hcz20_1:=bz1 BK626;have hcz20_2:=bz2 BK626;have hfz20_0:=bf BK626 0;have hfz20_1:=bf BK626 1;have hfz20_2:=bf BK626 2;have hcz21_0:=bz0 BK627;have hcz21_1:=bz1 BK627;have hcz21_2:=bz2 BK627;have hfz21_0:=bf BK627 0;have hfz21_1:=bf BK627 1;have hfz21_2:=bf BK627 2) | ((with_reducible refine gate_callee (f:=62) rfl ?_);refine goesL_ (some 9) rfl rfl Try.func62 (by kernel_rfl) rfl #[.slice A0_0 l0_0.length c0_0,.slice A1_0 l1_0.length c1_0] rfl ml ?_;(with_reducible refine (spec_l5Ints.calls k _ _ l0_0 _ _ l1_0 false _ ?side1 ?side2 ?side3 ?side4 A3.out).mono ?_);(case side1=>exact mc (Kd.C_below HR0_0.out HB.out));(case side2=>exact HC0_0.out);(case side3=>exact mc (Kd.C_below HR1_0.out HB.out));(case side4=>exact HC1_0.out);rintro e w' ⟨rfl,⟨nd,rfl⟩⟩;refine ⟨_,rfl,?_⟩))
  go_ret
  exact ⟨by first | rfl | (simp [errW_none,errW_some] <;> rfl) | (simp [*,errW_none,errW_some] <;> rfl),mb HB⟩
def spec_SameModel.f (k:Nat) (l0_0:List Int) (l0_1:List Int) (a0_2:Int) (l0_3:List Int) (l1_0:List Int) (l1_1:List Int) (a1_2:Int) (l1_3:List Int):Option (Bool):=(spec_l5Ints.f k l0_0 l1_0).bind fun t632=>(if t632 = true then ((spec_SameDev.f k l0_1 a0_2 l0_3 l1_1 a1_2 l1_3).bind fun t633=>(some t633)) else (some false))
set_option maxHeartbeats 8000000 in
set_option maxRecDepth 100000 in
theorem spec_SameModel.calls (k:Nat) (A0_0:Option Addr) (c0_0:Nat) (l0_0:List Int) (A0_1:Option Addr) (c0_1:Nat) (l0_1:List Int) (a0_2:Int) (A0_3:Option Addr) (c0_3:Nat) (l0_3:List Int) (A1_0:Option Addr) (c1_0:Nat) (l1_0:List Int) (A1_1:Option Addr) (c1_1:Nat) (l1_1:List Int) (a1_2:Int) (A1_3:Option Addr) (c1_3:Nat) (l1_3:List Int) (r:Bool) (w:World) (hr0_0:Kd.C (Kd.int .i64) w A0_0 l0_0.length l0_0) (hc0_0:l0_0.length ≤ c0_0) (hr0_1:Kd.C (Kd.int .i64) w A0_1 l0_1.length l0_1) (hc0_1:l0_1.length ≤ c0_1) (hr0_3:Kd.C (Kd.int .i64) w A0_3 l0_3.length l0_3) (hc0_3:l0_3.length ≤ c0_3) (hr1_0:Kd.C (Kd.int .i64) w A1_0 l1_0.length l1_0) (hc1_0:l1_0.length ≤ c1_0) (hr1_1:Kd.C (Kd.int .i64) w A1_1 l1_1.length l1_1) (hc1_1:l1_1.length ≤ c1_1) (hr1_3:Kd.C (Kd.int .i64) w A1_3 l1_3.length l1_3) (hc1_3:l1_3.length ≤ c1_3) (h:spec_SameModel.f k l0_0 l0_1 a0_2 l0_3 l1_0 l1_1 a1_2 l1_3 = some r) :
  Calls Try.prog 17 #[.agg #[.slice A0_0 l0_0.length c0_0,.slice A0_1 l0_1.length c0_1,.int .i64 a0_2,.slice A0_3 l0_3.length c0_3],.agg #[.slice A1_0 l1_0.length c1_0,.slice A1_1 l1_1.length c1_1,.int .i64 a1_2,.slice A1_3 l1_3.length c1_3]] w fun e w'=>e = .returned (.bool r) ∧ Below w.heap.size w w':=by
 have hu28:=Try.underlying28
 have hu26:=Try.underlying26
 have HR0_0:=Aside0.mk hr0_0
 have HC0_0:=Aside0.mk hc0_0
 clear hr0_0 hc0_0
 have HR0_1:=Aside0.mk hr0_1
 have HC0_1:=Aside0.mk hc0_1
 clear hr0_1 hc0_1
 have HR0_3:=Aside0.mk hr0_3
 have HC0_3:=Aside0.mk hc0_3
 clear hr0_3 hc0_3
 have HR1_0:=Aside0.mk hr1_0
 have HC1_0:=Aside0.mk hc1_0
 clear hr1_0 hc1_0
 have HR1_1:=Aside0.mk hr1_1
 have HC1_1:=Aside0.mk hc1_1
 clear hr1_1 hc1_1
 have HR1_3:=Aside0.mk hr1_3
 have HC1_3:=Aside0.mk hc1_3
 clear hr1_3 hc1_3
 have HB:=Az (Below.refl w.heap.size w)
 have H:((spec_l5Ints.f k l0_0 l1_0).bind fun t632=>(if t632 = true then ((spec_SameDev.f k l0_1 a0_2 l0_3 l1_1 a1_2 l1_3).bind fun t633=>(some t633)) else (some false))) = some r:=h
 clear h
 replace H:=Option.bind_eq_some_iff.mp H
 obtain ⟨t632,A30,H⟩:=H
 replace H:(if t632 = true then ((spec_SameDev.f k l0_1 a0_2 l0_3 l1_1 a1_2 l1_3).bind fun t633=>(some t633)) else (some false)) = some r:=H
 have A3:=Aside0.mk A30
 clear A30
 by_cases c4:t632 = true
 ·subst c4
  have H1:((spec_SameDev.f k l0_1 a0_2 l0_3 l1_1 a1_2 l1_3).bind fun t633=>(some t633)) = some r:=by rw [if_pos rfl] at H;exact H
  clear H
  have H:=H1
  clear H1
  replace H:=Option.bind_eq_some_iff.mp H
  obtain ⟨t633,A50,H⟩:=H
  replace H:(some t633) = some r:=H
  have A5:=Aside0.mk A50
  clear A50
  obtain rfl:=Option.some.inj H
  go_enter Try.func17,Try.ntmps17
  go_wp2_with (first | ((with_reducible refine gate_dst (N:=2) rfl ?_);refine box_event ?hg (N:=2) ?hd (cs:=#[.slice A0_0 l0_0.length c0_0,.slice A0_1 l0_1.length c0_1,.int .i64 a0_2,.slice A0_3 l0_3.length c0_3]) (t:=28) ?hr ?_;(case hd=>rfl);(case hg=>rfl);(case hr=>first | (go_simp;done) | (go_simp;rfl));intro gb630 hg w6 hbox hb;have n0_:=Az (below_step (mb HB) hb);have n1_:=Az (hbox);have n2_:=Az ((by rw [hg];exact (below_size (mb HB)):w.heap.size ≤ gb630));have n3_:=Az ((by rw [hg];exact (below_size (mb HB)):w.heap.size ≤ gb630));clear HB;have HB:=n0_;have BK630:=n1_;have GW630:=n2_;have GE630:=n3_;clear n0_ n1_ n2_ n3_;clear hb hbox hg) | ((with_reducible refine gate_dst (N:=3) rfl ?_);refine box_event ?hg (N:=3) ?hd (cs:=#[.slice A1_0 l1_0.length c1_0,.slice A1_1 l1_1.length c1_1,.int .i64 a1_2,.slice A1_3 l1_3.length c1_3]) (t:=28) ?hr ?_;(case hd=>rfl);(case hg=>rfl);(case hr=>first | (go_simp;done) | (go_simp;rfl));intro gb631 hg w7 hbox hb;have n0_:=Az (blk_below (mz BK630) hb);have n1_:=Az (below_step (mb HB) hb);have n2_:=Az (hbox);have n3_:=Az ((by rw [hg];exact (below_size (mb HB)):w.heap.size ≤ gb631));have n4_:=Az ((by rw [hg];exact (below_size (mb HB)):w.heap.size ≤ gb631));have n5_:=Az ((by rw [hg];exact Nat.ne_of_lt (blk_lt (mz BK630)):gb630 ≠ gb631));have n6_:=Az ((by rw [hg];exact Nat.ne_of_gt (blk_lt (mz BK630)):gb631 ≠ gb630));clear BK630 HB;have BK630:=n0_;have HB:=n1_;have BK631:=n2_;have GW631:=n3_;have GE631:=n4_;have NB630_631:=n5_;have NB631_630:=n6_;clear n0_ n1_ n2_ n3_ n4_ n5_ n6_ hb hbox hg;have hnb8:=NB630_631.out;have hnc8:=NB631_630.out;have hcz9_0:=bz0 BK630;have hcz9_1:=bz1 BK630;have hcz9_2:=bz2 BK630;have hcz9_3:=bz3 BK630;have hfz9_0:=bf BK630 0;have hfz9_1:=bf BK630 1;have hfz9_2:=bf BK630 2;have hfz9_3:=bf BK630 3;have hcz10_0:=bz0 BK631;have hcz10_1:=bz1 BK631;have hcz10_2:=bz2 BK631;have hcz10_3:=bz3 BK631;have hfz10_0:=bf BK631 0;have hfz10_1:=bf BK631 1;have hfz10_2:=bf BK631 2;have hfz10_3:=bf BK631 3) | ((with_reducible refine gate_callee (f:=62) rfl ?_);refine goesL_ (some 9) rfl rfl Try.func62 (by kernel_rfl) rfl #[.slice A0_0 l0_0.length c0_0,.slice A1_0 l1_0.length c1_0] rfl ml ?_;(with_reducible refine (spec_l5Ints.calls k _ _ l0_0 _ _ l1_0 true _ ?side1 ?side2 ?side3 ?side4 A3.out).mono ?_);(case side1=>exact mc (Kd.C_below HR0_0.out HB.out));(case side2=>exact HC0_0.out);(case side3=>exact mc (Kd.C_below HR1_0.out HB.out));(case side4=>exact HC1_0.out);rintro e w' ⟨rfl,⟨nd,rfl⟩⟩;refine ⟨_,rfl,?_⟩) | (go_at_call 31;(with_reducible refine (spec_SameDev.calls k _ _ l0_1 a0_2 _ _ l0_3 _ _ l1_1 a1_2 _ _ l1_3 t633 _ ?side1 ?side2 ?side3 ?side4 ?side5 ?side6 ?side7 ?side8 A5.out).mono ?_);(case side1=>repeat (first | exact (Kd.C_below HR0_1.out (mb HB)) | (with_reducible refine Kd.C_alloc ?_ _) | (with_reducible refine Kd.C_drewN ?_ _) | (with_reducible refine Kd.C_drew ?_)));(case side2=>exact HC0_1.out);(case side3=>repeat (first | exact (Kd.C_below HR0_3.out (mb HB)) | (with_reducible refine Kd.C_alloc ?_ _) | (with_reducible refine Kd.C_drewN ?_ _) | (with_reducible refine Kd.C_drew ?_)));(case side4=>exact HC0_3.out);(case side5=>repeat (first | exact (Kd.C_below HR1_1.out (mb HB)) | (with_reducible refine Kd.C_alloc ?_ _) | (with_reducible refine Kd.C_drewN ?_ _) | (with_reducible refine Kd.C_drew ?_)));(case side6=>exact HC1_1.out);(case side7=>repeat (first | exact (Kd.C_below HR1_3.out (mb HB)) | (with_reducible refine Kd.C_alloc ?_ _) | (with_reducible refine Kd.C_drewN ?_ _) | (with_reducible refine Kd.C_drew ?_)));(case side8=>exact HC1_3.out);rintro e w11 ⟨rfl,hb⟩;have n0_:=Az (blk_below (mz BK630) hb);have n1_:=Az (blk_below (mz BK631) hb);have n2_:=Az (below_step (mb HB) hb);clear BK630 BK631 HB;have BK630:=n0_;have BK631:=n1_;have HB:=n2_;clear n0_ n1_ n2_;(try clear hb);(try clear hb2);(try clear hk);(try clear hi)))
  go_ret
  exact ⟨by first | rfl | (simp [errW_none,errW_some] <;> rfl) | (simp [*,errW_none,errW_some] <;> rfl),mb HB⟩
 ·replace c4:=Bool.eq_false_iff.mpr c4
  subst c4
  have H1:(some false) = some r:=by rw [if_neg (show ¬ (false = true) by decide)] at H;exact H
  clear H
  have H:=H1
  clear H1
  obtain rfl:=Option.some.inj H
  go_enter Try.func17,Try.ntmps17
  go_wp2_with (first | ((with_reducible refine gate_dst (N:=2) rfl ?_);refine box_event ?hg (N:=2) ?hd (cs:=#[.slice A0_0 l0_0.length c0_0,.slice A0_1 l0_1.length c0_1,.int .i64 a0_2,.slice A0_3 l0_3.length c0_3]) (t:=28) ?hr ?_;(case hd=>rfl);(case hg=>rfl);(case hr=>first | (go_simp;done) | (go_simp;rfl));intro gb630 hg w12 hbox hb;have n0_:=Az (below_step (mb HB) hb);have n1_:=Az (hbox);have n2_:=Az ((by rw [hg];exact (below_size (mb HB)):w.heap.size ≤ gb630));have n3_:=Az ((by rw [hg];exact (below_size (mb HB)):w.heap.size ≤ gb630));clear HB;have HB:=n0_;have BK630:=n1_;have GW630:=n2_;have GE630:=n3_;clear n0_ n1_ n2_ n3_;clear hb hbox hg) | ((with_reducible refine gate_dst (N:=3) rfl ?_);refine box_event ?hg (N:=3) ?hd (cs:=#[.slice A1_0 l1_0.length c1_0,.slice A1_1 l1_1.length c1_1,.int .i64 a1_2,.slice A1_3 l1_3.length c1_3]) (t:=28) ?hr ?_;(case hd=>rfl);(case hg=>rfl);(case hr=>first | (go_simp;done) | (go_simp;rfl));intro gb631 hg w13 hbox hb;have n0_:=Az (blk_below (mz BK630) hb);have n1_:=Az (below_step (mb HB) hb);have n2_:=Az (hbox);have n3_:=Az ((by rw [hg];exact (below_size (mb HB)):w.heap.size ≤ gb631));have n4_:=Az ((by rw [hg];exact (below_size (mb HB)):w.heap.size ≤ gb631));have n5_:=Az ((by rw [hg];exact Nat.ne_of_lt (blk_lt (mz BK630)):gb630 ≠ gb631));have n6_:=Az ((by rw [hg];exact Nat.ne_of_gt (blk_lt (mz BK630)):gb631 ≠ gb630));clear BK630 HB;have BK630:=n0_;have HB:=n1_;have BK631:=n2_;have GW631:=n3_;have GE631:=n4_;have NB630_631:=n5_;have NB631_630:=n6_;clear n0_ n1_ n2_ n3_ n4_ n5_ n6_ hb hbox hg;have hnb14:=NB630_631.out;have hnc14:=NB631_630.out;have hcz15_0:=bz0 BK630;have hcz15_1:=bz1 BK630;have hcz15_2:=bz2 BK630;have hcz15_3:=bz3 BK630;have hfz15_0:=bf BK630 0;have hfz15_1:=bf BK630 1;have hfz15_2:=bf BK630 2;have hfz15_3:=bf BK630 3;have hcz16_0:=bz0 BK631;have hcz16_1:=bz1 BK631;have hcz16_2:=bz2 BK631;have hcz16_3:=bz3 BK631;have hfz16_0:=bf BK631 0;have hfz16_1:=bf BK631 1;have hfz16_2:=bf BK631 2;have hfz16_3:=bf BK631 3) | ((with_reducible refine gate_callee (f:=62) rfl ?_);refine goesL_ (some 9) rfl rfl Try.func62 (by kernel_rfl) rfl #[.slice A0_0 l0_0.length c0_0,.slice A1_0 l1_0.length c1_0] rfl ml ?_;(with_reducible refine (spec_l5Ints.calls k _ _ l0_0 _ _ l1_0 false _ ?side1 ?side2 ?side3 ?side4 A3.out).mono ?_);(case side1=>exact mc (Kd.C_below HR0_0.out HB.out));(case side2=>exact HC0_0.out);(case side3=>exact mc (Kd.C_below HR1_0.out HB.out));(case side4=>exact HC1_0.out);rintro e w' ⟨rfl,⟨nd,rfl⟩⟩;refine ⟨_,rfl,?_⟩))
  go_ret
  exact ⟨by first | rfl | (simp [errW_none,errW_some] <;> rfl) | (simp [*,errW_none,errW_some] <;> rfl),mb HB⟩
end Go.Proofs.Ythikbgjlcdkoaaa.MFnModels

