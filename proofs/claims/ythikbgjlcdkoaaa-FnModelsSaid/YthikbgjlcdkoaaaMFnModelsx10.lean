-- Written for this claim by a program of the session (wip/mk.py) over the kit's print.
import Derived.Test.YthikbgjlcdkoaaaMFnModelsx0
import Derived.Test.YthikbgjlcdkoaaaMFnModelsx1
import Derived.Test.YthikbgjlcdkoaaaMFnModelsx6
import Derived.Test.YthikbgjlcdkoaaaMFnModelsx7
import Derived.Test.YthikbgjlcdkoaaaMFnModelsx8
import Derived.Test.YthikbgjlcdkoaaaMFnModelsx9
namespace Go.Proofs.Ythikbgjlcdkoaaa.MFnModels
open Go.RowKit Go.Proofs.YthikbgjlcdkoaaaW.PrintWords Go.Proofs.YthikbgjlcdkoaaaW.PrintLast Go.Proofs.YthikbgjlcdkoaaaW.PrintMore
attribute [local go_sem] max2_int min2_int max_two min_two max_three min_three max_four min_four
set_option linter.unusedVariables false
set_option linter.unusedSimpArgs false
mutual
def impl_ModelDo.j0:Nat → Bool → Int → Int → Int → Bool → List Int → List Int → Int → List Int → List Int → List Int → Int → List Int → Option (List Int × List Int × Int × List Int × Int × Int)
 | 0,_,_,_,_,_,_,_,_,_,_,_,_,_=>none
 | k + 1,x1,x2,x3,x4,x35,x480000,x480001,x480002,x480003,x492000,x492001,x492002,x492003=>if x35 = true then (some (x492000,x492001,x492002,x492003,0,1)) else ((impl_SlaveOf.f k x2).bind fun t495=>(if t495 = 3 then (impl_ModelDo.j1 k x1 x2 x3 x4 false t495 (x3 == 2) x480000 x480001 x480002 x480003 x492000 x492001 x492002 x492003) else (impl_ModelDo.j1 k x1 x2 x3 x4 false t495 false x480000 x480001 x480002 x480003 x492000 x492001 x492002 x492003)))
def impl_ModelDo.j1:Nat → Bool → Int → Int → Int → Bool → Int → Bool → List Int → List Int → Int → List Int → List Int → List Int → Int → List Int → Option (List Int × List Int × Int × List Int × Int × Int)
 | 0,_,_,_,_,_,_,_,_,_,_,_,_,_,_,_=>none
 | k + 1,x1,x2,x3,x4,x14,x15,x39,x480000,x480001,x480002,x480003,x492000,x492001,x492002,x492003=>if x39 = true then ((impl_DevDo.f k x480001 x480002 x480003 x1 (wrap64 (x2 - 192)) x4).bind fun bt496=>(if bt496.2.2.2.2 = true then (some (x492000,bt496.1,bt496.2.1,bt496.2.2.1,bt496.2.2.2.1,0)) else ((impl_ownModel.f x480000 x480001 x480002 x480003).bind fun bt505=>(some (bt505.1,bt505.2.1,bt505.2.2.1,bt505.2.2.2,0,1))))) else (if x15 = 1 then (impl_ModelDo.j2 k x1 x2 x3 x4 x14 true x480000 x480001 x480002 x480003 x492000 x492001 x492002 x492003) else (impl_ModelDo.j2 k x1 x2 x3 x4 x14 (x15 == 2) x480000 x480001 x480002 x480003 x492000 x492001 x492002 x492003))
def impl_ModelDo.j2:Nat → Bool → Int → Int → Int → Bool → Bool → List Int → List Int → Int → List Int → List Int → List Int → Int → List Int → Option (List Int × List Int × Int × List Int × Int × Int)
 | 0,_,_,_,_,_,_,_,_,_,_,_,_,_,_=>none
 | k + 1,x1,x2,x3,x4,x14,x58,x480000,x480001,x480002,x480003,x492000,x492001,x492002,x492003=>if x58 = true then (if x1 = true then ((impl_PutNum.f k x480000 x2 x3 x4).bind fun bt515=>(if bt515.2 = true then (some (bt515.1,x492001,x492002,x492003,x4,0)) else ((impl_ownModel.f x480000 x480001 x480002 x480003).bind fun bt519=>(some (bt519.1,bt519.2.1,bt519.2.2.1,bt519.2.2.2,0,1))))) else ((impl_GetNum.f k x480000 x2 x3).bind fun bt529=>(if bt529.2 = true then (some (x492000,x492001,x492002,x492003,bt529.1,0)) else ((impl_ownModel.f x480000 x480001 x480002 x480003).bind fun bt531=>(some (bt531.1,bt531.2.1,bt531.2.2.1,bt531.2.2.2,0,1)))))) else (if x14 = true then (some (x492000,x492001,x492002,x492003,x4,0)) else ((impl_ownModel.f x480000 x480001 x480002 x480003).bind fun bt541=>(some (bt541.1,bt541.2.1,bt541.2.2.1,bt541.2.2.2,0,1))))
end
def impl_ModelDo.f (k:Nat) (l0_0:List Int) (l0_1:List Int) (a0_2:Int) (l0_3:List Int) (a1:Bool) (a2:Int) (a3:Int) (a4:Int):Option (List Int × List Int × Int × List Int × Int × Int):=(impl_ownModel.f l0_0 l0_1 a0_2 l0_3).bind fun bt481=>((impl_ModelOk.f k l0_0 l0_1 a0_2 l0_3).bind fun t492=>(if t492 = true then ((impl_Aligned.f a2 a3).bind fun t493=>(if t493 = true then (if a1 = true then ((impl_isNum.f a4 a3).bind fun t494=>(impl_ModelDo.j0 k a1 a2 a3 a4 (!t494) l0_0 l0_1 a0_2 l0_3 bt481.1 bt481.2.1 bt481.2.2.1 bt481.2.2.2)) else (impl_ModelDo.j0 k a1 a2 a3 a4 false l0_0 l0_1 a0_2 l0_3 bt481.1 bt481.2.1 bt481.2.2.1 bt481.2.2.2)) else (impl_ModelDo.j0 k a1 a2 a3 a4 true l0_0 l0_1 a0_2 l0_3 bt481.1 bt481.2.1 bt481.2.2.1 bt481.2.2.2))) else (impl_ModelDo.j0 k a1 a2 a3 a4 true l0_0 l0_1 a0_2 l0_3 bt481.1 bt481.2.1 bt481.2.2.1 bt481.2.2.2)))
set_option maxHeartbeats 8000000 in
set_option maxRecDepth 100000 in
theorem impl_ModelDo.calls (k:Nat) (A0_0:Option Addr) (c0_0:Nat) (l0_0:List Int) (A0_1:Option Addr) (c0_1:Nat) (l0_1:List Int) (a0_2:Int) (A0_3:Option Addr) (c0_3:Nat) (l0_3:List Int) (a1:Bool) (a2:Int) (a3:Int) (a4:Int) (r1:List Int) (r2:List Int) (r3:Int) (r4:List Int) (r5:Int) (r6:Int) (w:World) (hr0_0:Kd.C (Kd.int .i64) w A0_0 l0_0.length l0_0) (hc0_0:l0_0.length ≤ c0_0) (hr0_1:Kd.C (Kd.int .i64) w A0_1 l0_1.length l0_1) (hc0_1:l0_1.length ≤ c0_1) (hr0_3:Kd.C (Kd.int .i64) w A0_3 l0_3.length l0_3) (hc0_3:l0_3.length ≤ c0_3) (h:impl_ModelDo.f k l0_0 l0_1 a0_2 l0_3 a1 a2 a3 a4 = some (r1,r2,r3,r4,r5,r6)) :
  Calls Try.prog 15 #[.agg #[.slice A0_0 l0_0.length c0_0,.slice A0_1 l0_1.length c0_1,.int .i64 a0_2,.slice A0_3 l0_3.length c0_3],.bool a1,.int .i64 a2,.int .i64 a3,.int .i64 a4] w fun e w'=>∃ v0_ v1_ v3_:Value,e = .returned (.tuple #[.agg #[v0_,v1_,.int .i64 r3,v3_],.int .i64 r5,.int .i64 r6]) ∧ Kd.R (Kd.int .i64) 3 w' w.heap.size (fun k_=>some k_ ≠ (v1_:Value).ownBlock ∧ some k_ ≠ (v3_:Value).ownBlock) v0_ r1 ∧ Kd.R (Kd.int .i64) 3 w' w.heap.size (fun k_=>some k_ ≠ (v0_:Value).ownBlock ∧ some k_ ≠ (v3_:Value).ownBlock) v1_ r2 ∧ Kd.R (Kd.int .i64) 3 w' w.heap.size (fun k_=>some k_ ≠ (v0_:Value).ownBlock ∧ some k_ ≠ (v1_:Value).ownBlock) v3_ r4 ∧ Below w.heap.size w w':=by
 have hu28:=Try.underlying28
 have hu26:=Try.underlying26
 have HR0_0:=Aside0.mk hr0_0
 have HC0_0:=Aside0.mk hc0_0
 clear hr0_0 hc0_0
 have HR0_1:=Aside0.mk hr0_1
 have HC0_1:=Aside0.mk hc0_1
 clear hr0_1 hc0_1
 have HR0_3:=Aside0.mk hr0_3
 have HC0_3:=Aside0.mk hc0_3
 clear hr0_3 hc0_3
 have HB:=Az (Below.refl w.heap.size w)
 have H:((impl_ownModel.f l0_0 l0_1 a0_2 l0_3).bind fun bt481=>((impl_ModelOk.f k l0_0 l0_1 a0_2 l0_3).bind fun t492=>(if t492 = true then ((impl_Aligned.f a2 a3).bind fun t493=>(if t493 = true then (if a1 = true then ((impl_isNum.f a4 a3).bind fun t494=>(impl_ModelDo.j0 k a1 a2 a3 a4 (!t494) l0_0 l0_1 a0_2 l0_3 bt481.1 bt481.2.1 bt481.2.2.1 bt481.2.2.2)) else (impl_ModelDo.j0 k a1 a2 a3 a4 false l0_0 l0_1 a0_2 l0_3 bt481.1 bt481.2.1 bt481.2.2.1 bt481.2.2.2)) else (impl_ModelDo.j0 k a1 a2 a3 a4 true l0_0 l0_1 a0_2 l0_3 bt481.1 bt481.2.1 bt481.2.2.1 bt481.2.2.2))) else (impl_ModelDo.j0 k a1 a2 a3 a4 true l0_0 l0_1 a0_2 l0_3 bt481.1 bt481.2.1 bt481.2.2.1 bt481.2.2.2)))) = some (r1,r2,r3,r4,r5,r6):=h
 clear h
 replace H:=Option.bind_eq_some_iff.mp H
 obtain ⟨⟨t481,t484,t487,t488⟩,A60,H⟩:=H
 replace H:((impl_ModelOk.f k l0_0 l0_1 a0_2 l0_3).bind fun t492=>(if t492 = true then ((impl_Aligned.f a2 a3).bind fun t493=>(if t493 = true then (if a1 = true then ((impl_isNum.f a4 a3).bind fun t494=>(impl_ModelDo.j0 k a1 a2 a3 a4 (!t494) l0_0 l0_1 a0_2 l0_3 t481 t484 t487 t488)) else (impl_ModelDo.j0 k a1 a2 a3 a4 false l0_0 l0_1 a0_2 l0_3 t481 t484 t487 t488)) else (impl_ModelDo.j0 k a1 a2 a3 a4 true l0_0 l0_1 a0_2 l0_3 t481 t484 t487 t488))) else (impl_ModelDo.j0 k a1 a2 a3 a4 true l0_0 l0_1 a0_2 l0_3 t481 t484 t487 t488))) = some (r1,r2,r3,r4,r5,r6):=H
 have A6:=Aside0.mk A60
 clear A60
 have HC7:=Aside0.mk H
 clear H
 go_enter Try.func15,Try.ntmps15
 go_upto_region 2 with (first | ((with_reducible refine gate_dst (N:=5) rfl ?_);refine box_event ?hg (N:=5) ?hd (cs:=#[.slice A0_0 l0_0.length c0_0,.slice A0_1 l0_1.length c0_1,.int .i64 a0_2,.slice A0_3 l0_3.length c0_3]) (t:=28) ?hr ?_;(case hd=>rfl);(case hg=>rfl);(case hr=>first | (go_simp;done) | (go_simp;rfl));intro gb479 hg w8 hbox hb;have n0_:=Az (below_step (mb HB) hb);have n1_:=Az (hbox);have n2_:=Az ((by rw [hg];exact (below_size (mb HB)):w.heap.size ≤ gb479));have n3_:=Az ((by rw [hg];exact (below_size (mb HB)):w.heap.size ≤ gb479));clear HB;have HB:=n0_;have BK479:=n1_;have GW479:=n2_;have GE479:=n3_;clear n0_ n1_ n2_ n3_;clear hb hbox hg) | ((with_reducible refine gate_dst (N:=10) rfl ?_);refine box_event ?hg (N:=10) ?hd (cs:=#[.slice none 0 0,.slice none 0 0,.int .i64 0,.slice none 0 0]) (t:=28) ?hr ?_;(case hd=>rfl);(case hg=>rfl);(case hr=>first | (go_simp;done) | (go_simp;rfl));intro gb480 hg w9 hbox hb;have n0_:=Az (blk_below (mz BK479) hb);have n1_:=Az (below_step (mb HB) hb);have n2_:=Az (hbox);have n3_:=Az ((by rw [hg];exact (below_size (mb HB)):w.heap.size ≤ gb480));have n4_:=Az ((by rw [hg];exact (below_size (mb HB)):w.heap.size ≤ gb480));have n5_:=Az ((by rw [hg];exact Nat.ne_of_lt (blk_lt (mz BK479)):gb479 ≠ gb480));have n6_:=Az ((by rw [hg];exact Nat.ne_of_gt (blk_lt (mz BK479)):gb480 ≠ gb479));clear BK479 HB;have BK479:=n0_;have HB:=n1_;have BK480:=n2_;have GW480:=n3_;have GE480:=n4_;have NB479_480:=n5_;have NB480_479:=n6_;clear n0_ n1_ n2_ n3_ n4_ n5_ n6_ hb hbox hg;have hnb10:=NB479_480.out;have hnc10:=NB480_479.out;have hcz11_0:=bz0 BK479;have hcz11_1:=bz1 BK479;have hcz11_2:=bz2 BK479;have hcz11_3:=bz3 BK479;have hfz11_0:=bf BK479 0;have hfz11_1:=bf BK479 1;have hfz11_2:=bf BK479 2;have hfz11_3:=bf BK479 3) | ((with_reducible refine gate_callee (f:=49) rfl ?_);refine goesL_ (some 17) rfl rfl Try.func49 (by kernel_rfl) rfl #[.agg #[.slice A0_0 l0_0.length c0_0,.slice A0_1 l0_1.length c0_1,.int .i64 a0_2,.slice A0_3 l0_3.length c0_3]] rfl ml ?_;(with_reducible refine (impl_ownModel.calls _ _ l0_0 _ _ l0_1 a0_2 _ _ l0_3 t481 t484 t487 t488 _ ?side1 ?side2 ?side3 ?side4 ?side5 ?side6 A6.out).mono ?_);(case side1=>exact mc (Kd.C_below HR0_0.out HB.out));(case side2=>exact HC0_0.out);(case side3=>exact mc (Kd.C_below HR0_1.out HB.out));(case side4=>exact HC0_1.out);(case side5=>exact mc (Kd.C_below HR0_3.out HB.out));(case side6=>exact HC0_3.out);rintro e w12 ⟨v482,v485,v489,rfl,ho0,ho1,ho2,hb⟩;refine ⟨_,rfl,?_⟩;have n0_:=Az (Kd.R_lower ho0 (below_size (mb HB)));have n1_:=Az (Kd.R_lower ho1 (below_size (mb HB)));have n2_:=Az (Kd.R_lower ho2 (below_size (mb HB)));have n3_:=Az (blk_below (mz BK479) hb);have n4_:=Az (blk_below (mz BK480) hb);have n5_:=Az (below_step (mb HB) hb);clear BK479 BK480 HB;have HO483:=n0_;have HO486:=n1_;have HO490:=n2_;have BK479:=n3_;have BK480:=n4_;have HB:=n5_;clear n0_ n1_ n2_ n3_ n4_ n5_;(try clear hb);(try clear hb2);(try clear hk);(try clear hi);(try clear ho0);(try clear ho1);(try clear ho2)) | ((with_reducible refine gate_dst (N:=13) rfl ?_);refine box_event ?hg (N:=13) ?hd (cs:=#[.slice none 0 0,.slice none 0 0,.int .i64 0,.slice none 0 0]) (t:=28) ?hr ?_;(case hd=>rfl);(case hg=>rfl);(case hr=>first | (go_simp;done) | (go_simp;rfl));intro gb491 hg w13 hbox hb;have n0_:=Az (Kd.R_below (mr HO483) hb);have n1_:=Az (Kd.R_below (mr HO486) hb);have n2_:=Az (Kd.R_below (mr HO490) hb);have n3_:=Az (blk_below (mz BK479) hb);have n4_:=Az (blk_below (mz BK480) hb);have n5_:=Az (below_step (mb HB) hb);have n6_:=Az (hbox);have n7_:=Az ((by rw [hg];exact (below_size (mb HB)):w.heap.size ≤ gb491));have n8_:=Az ((by rw [hg];exact (below_size (mb HB)):w.heap.size ≤ gb491));have n9_:=Az ((by rw [hg];exact Nat.ne_of_lt (blk_lt (mz BK479)):gb479 ≠ gb491));have n10_:=Az ((by rw [hg];exact Nat.ne_of_gt (blk_lt (mz BK479)):gb491 ≠ gb479));have n11_:=Az ((by rw [hg];exact Nat.ne_of_lt (blk_lt (mz BK480)):gb480 ≠ gb491));have n12_:=Az ((by rw [hg];exact Nat.ne_of_gt (blk_lt (mz BK480)):gb491 ≠ gb480));clear HO483 HO486 HO490 BK479 BK480 HB;have HO483:=n0_;have HO486:=n1_;have HO490:=n2_;have BK479:=n3_;have BK480:=n4_;have HB:=n5_;have BK491:=n6_;have GW491:=n7_;have GE491:=n8_;have NB479_491:=n9_;have NB491_479:=n10_;have NB480_491:=n11_;have NB491_480:=n12_;clear n0_ n1_ n2_ n3_ n4_ n5_ n6_ n7_ n8_ n9_ n10_ n11_ n12_ hb hbox hg;obtain ⟨Ao14,co14,eo14⟩:=Kd.R_slice HO483.out;subst eo14;have hnb15:=NB491_479.out;have hnc15:=NB479_491.out;have hnb16:=NB491_480.out;have hnc16:=NB480_491.out;have hcz17_0:=bz0 BK491;have hcz17_1:=bz1 BK491;have hcz17_2:=bz2 BK491;have hcz17_3:=bz3 BK491;have hfz17_0:=bf BK491 0;have hfz17_1:=bf BK491 1;have hfz17_2:=bf BK491 2;have hfz17_3:=bf BK491 3;obtain ⟨Ao18,co18,eo18⟩:=Kd.R_slice HO486.out;subst eo18;obtain ⟨Ao19,co19,eo19⟩:=Kd.R_slice HO490.out;subst eo19))
 (try simp only [Act.put,List.setIfInBounds_toArray,List.set_cons_zero,List.set_cons_succ])
 go_cut [35] (fun v35 wc=>∃ (kq:Nat) (x35_6:Bool),v35 = .bool x35_6 ∧ Aside0 (impl_ModelDo.j0 kq a1 a2 a3 a4 x35_6 l0_0 l0_1 a0_2 l0_3 t481 t484 t487 t488 = some (r1,r2,r3,r4,r5,r6)) ∧ Aside0 (kq ≤ k) ∧ Aside0 (Kd.R (Kd.int .i64) 3 wc w.heap.size (fun k_=>some k_ ≠ ((.slice Ao18 t484.length co18):Value).ownBlock ∧ some k_ ≠ ((.slice Ao19 t488.length co19):Value).ownBlock) (.slice Ao14 t481.length co14) t481) ∧ Aside0 (Kd.R (Kd.int .i64) 3 wc w.heap.size (fun k_=>some k_ ≠ ((.slice Ao14 t481.length co14):Value).ownBlock ∧ some k_ ≠ ((.slice Ao19 t488.length co19):Value).ownBlock) (.slice Ao18 t484.length co18) t484) ∧ Aside0 (Kd.R (Kd.int .i64) 3 wc w.heap.size (fun k_=>some k_ ≠ ((.slice Ao14 t481.length co14):Value).ownBlock ∧ some k_ ≠ ((.slice Ao18 t484.length co18):Value).ownBlock) (.slice Ao19 t488.length co19) t488) ∧ Aside0 (wc.heap[gb479]? = some (.cells #[(.slice A0_0 l0_0.length c0_0),(.slice A0_1 l0_1.length c0_1),.int .i64 a0_2,(.slice A0_3 l0_3.length c0_3)] 28 (0,0))) ∧ Aside0 (wc.heap[gb480]? = some (.cells #[(.slice none 0 0),(.slice none 0 0),.int .i64 0,(.slice none 0 0)] 28 (0,0))) ∧ Aside0 (wc.heap[gb491]? = some (.cells #[(.slice Ao14 t481.length co14),(.slice Ao18 t484.length co18),.int .i64 t487,(.slice Ao19 t488.length co19)] 28 (0,0))) ∧ Aside0 (Below w.heap.size w wc))
 case first =>
  have H:=HC7.out
  clear HC7
  replace H:=Option.bind_eq_some_iff.mp H
  obtain ⟨t492,A200,H⟩:=H
  replace H:(if t492 = true then ((impl_Aligned.f a2 a3).bind fun t493=>(if t493 = true then (if a1 = true then ((impl_isNum.f a4 a3).bind fun t494=>(impl_ModelDo.j0 k a1 a2 a3 a4 (!t494) l0_0 l0_1 a0_2 l0_3 t481 t484 t487 t488)) else (impl_ModelDo.j0 k a1 a2 a3 a4 false l0_0 l0_1 a0_2 l0_3 t481 t484 t487 t488)) else (impl_ModelDo.j0 k a1 a2 a3 a4 true l0_0 l0_1 a0_2 l0_3 t481 t484 t487 t488))) else (impl_ModelDo.j0 k a1 a2 a3 a4 true l0_0 l0_1 a0_2 l0_3 t481 t484 t487 t488)) = some (r1,r2,r3,r4,r5,r6):=H
  have A20:=Aside0.mk A200
  clear A200
  by_cases c21:t492 = true
  ·subst c21
   have H1:((impl_Aligned.f a2 a3).bind fun t493=>(if t493 = true then (if a1 = true then ((impl_isNum.f a4 a3).bind fun t494=>(impl_ModelDo.j0 k a1 a2 a3 a4 (!t494) l0_0 l0_1 a0_2 l0_3 t481 t484 t487 t488)) else (impl_ModelDo.j0 k a1 a2 a3 a4 false l0_0 l0_1 a0_2 l0_3 t481 t484 t487 t488)) else (impl_ModelDo.j0 k a1 a2 a3 a4 true l0_0 l0_1 a0_2 l0_3 t481 t484 t487 t488))) = some (r1,r2,r3,r4,r5,r6):=by rw [if_pos rfl] at H;exact H
   clear H
   have H:=H1
   clear H1
   replace H:=Option.bind_eq_some_iff.mp H
   obtain ⟨t493,A220,H⟩:=H
   replace H:(if t493 = true then (if a1 = true then ((impl_isNum.f a4 a3).bind fun t494=>(impl_ModelDo.j0 k a1 a2 a3 a4 (!t494) l0_0 l0_1 a0_2 l0_3 t481 t484 t487 t488)) else (impl_ModelDo.j0 k a1 a2 a3 a4 false l0_0 l0_1 a0_2 l0_3 t481 t484 t487 t488)) else (impl_ModelDo.j0 k a1 a2 a3 a4 true l0_0 l0_1 a0_2 l0_3 t481 t484 t487 t488)) = some (r1,r2,r3,r4,r5,r6):=H
   have A22:=Aside0.mk A220
   clear A220
   by_cases c23:t493 = true
   ·subst c23
    have H1:(if a1 = true then ((impl_isNum.f a4 a3).bind fun t494=>(impl_ModelDo.j0 k a1 a2 a3 a4 (!t494) l0_0 l0_1 a0_2 l0_3 t481 t484 t487 t488)) else (impl_ModelDo.j0 k a1 a2 a3 a4 false l0_0 l0_1 a0_2 l0_3 t481 t484 t487 t488)) = some (r1,r2,r3,r4,r5,r6):=by rw [if_pos rfl] at H;exact H
    clear H
    have H:=H1
    clear H1
    by_cases c24:a1 = true
    ·subst c24
     have H1:((impl_isNum.f a4 a3).bind fun t494=>(impl_ModelDo.j0 k true a2 a3 a4 (!t494) l0_0 l0_1 a0_2 l0_3 t481 t484 t487 t488)) = some (r1,r2,r3,r4,r5,r6):=by rw [if_pos rfl] at H;exact H
     clear H
     have H:=H1
     clear H1
     replace H:=Option.bind_eq_some_iff.mp H
     obtain ⟨t494,A250,H⟩:=H
     replace H:(impl_ModelDo.j0 k true a2 a3 a4 (!t494) l0_0 l0_1 a0_2 l0_3 t481 t484 t487 t488) = some (r1,r2,r3,r4,r5,r6):=H
     have A25:=Aside0.mk A250
     clear A250
     have H':=Aside0.mk H
     clear H
     have hnb26:=NB479_480.out
     have hnc26:=NB480_479.out
     have hnb27:=NB479_491.out
     have hnc27:=NB491_479.out
     have hcz28_0:=bz0 BK479
     have hcz28_1:=bz1 BK479
     have hcz28_2:=bz2 BK479
     have hcz28_3:=bz3 BK479
     have hfz28_0:=bf BK479 0
     have hfz28_1:=bf BK479 1
     have hfz28_2:=bf BK479 2
     have hfz28_3:=bf BK479 3
     go_wp2_with (first | ((with_reducible refine gate_callee (f:=18) rfl ?_);refine goesL_ (some 19) rfl rfl Try.func18 (by kernel_rfl) rfl #[.agg #[.slice A0_0 l0_0.length c0_0,.slice A0_1 l0_1.length c0_1,.int .i64 a0_2,.slice A0_3 l0_3.length c0_3]] rfl ml ?_;(with_reducible refine (impl_ModelOk.calls k _ _ l0_0 _ _ l0_1 a0_2 _ _ l0_3 true _ ?side1 ?side2 ?side3 ?side4 ?side5 ?side6 A20.out).mono ?_);(case side1=>exact Kd.C_below HR0_0.out (mb HB));(case side2=>exact HC0_0.out);(case side3=>exact Kd.C_below HR0_1.out (mb HB));(case side4=>exact HC0_1.out);(case side5=>exact Kd.C_below HR0_3.out (mb HB));(case side6=>exact HC0_3.out);rintro e w29 ⟨rfl,hb⟩;refine ⟨_,rfl,?_⟩;have n0_:=Az (Kd.R_below (by (with_reducible repeat (first | apply Kd.R_alloc | apply Kd.R_drewN | apply Kd.R_drew));exact (Kd.R_mono (Kd.R_far (Kd.R_far (Kd.R_far (Kd.R_far (Kd.R_types HO483.out BK491.out (by decide)) (fun _ hk=>hk.2) _) (fun _ hk=>hk.2) _) (fun _ hk=>hk.2) _) (fun _ hk=>hk.2) _) (fun _ h_=>h_.1))) hb);have n1_:=Az (Kd.R_below (by (with_reducible repeat (first | apply Kd.R_alloc | apply Kd.R_drewN | apply Kd.R_drew));exact (Kd.R_mono (Kd.R_far (Kd.R_far (Kd.R_far (Kd.R_far (Kd.R_types HO486.out BK491.out (by decide)) (fun _ hk=>hk.2) _) (fun _ hk=>hk.2) _) (fun _ hk=>hk.2) _) (fun _ hk=>hk.2) _) (fun _ h_=>h_.1))) hb);have n2_:=Az (Kd.R_below (by (with_reducible repeat (first | apply Kd.R_alloc | apply Kd.R_drewN | apply Kd.R_drew));exact (Kd.R_mono (Kd.R_far (Kd.R_far (Kd.R_far (Kd.R_far (Kd.R_types HO490.out BK491.out (by decide)) (fun _ hk=>hk.2) _) (fun _ hk=>hk.2) _) (fun _ hk=>hk.2) _) (fun _ hk=>hk.2) _) (fun _ h_=>h_.1))) hb);have n3_:=Az (blk_below (g:=gb479) (o:=.cells #[.slice A0_0 l0_0.length c0_0,.slice A0_1 l0_1.length c0_1,.int .i64 a0_2,.slice A0_3 l0_3.length c0_3] 28 (0,0)) (by refine ms ?_;refine blk_far ?_ NB479_491.out _;refine ms ?_;refine blk_far ?_ NB479_491.out _;refine ms ?_;refine blk_far ?_ NB479_491.out _;refine ms ?_;refine blk_far ?_ NB479_491.out _;refine ms ?_;exact BK479.out) hb);have n4_:=Az (blk_below (g:=gb480) (o:=.cells #[.slice none 0 0,.slice none 0 0,.int .i64 0,.slice none 0 0] 28 (0,0)) (by refine ms ?_;refine blk_far ?_ NB480_491.out _;refine ms ?_;refine blk_far ?_ NB480_491.out _;refine ms ?_;refine blk_far ?_ NB480_491.out _;refine ms ?_;refine blk_far ?_ NB480_491.out _;refine ms ?_;exact BK480.out) hb);have n5_:=Az (blk_below (g:=gb491) (o:=.cells #[.slice Ao14 t481.length co14,.slice Ao18 t484.length co18,.int .i64 t487,.slice Ao19 t488.length co19] 28 (0,0)) (by refine ms ?_;refine blk_put (cs:=#[.slice Ao14 t481.length co14,.slice Ao18 t484.length co18,.int .i64 t487,.slice none 0 0]) ?_ 3 _ rfl;refine ms ?_;refine blk_put (cs:=#[.slice Ao14 t481.length co14,.slice Ao18 t484.length co18,.int .i64 0,.slice none 0 0]) ?_ 2 _ rfl;refine ms ?_;refine blk_put (cs:=#[.slice Ao14 t481.length co14,.slice none 0 0,.int .i64 0,.slice none 0 0]) ?_ 1 _ rfl;refine ms ?_;refine blk_put (cs:=#[.slice none 0 0,.slice none 0 0,.int .i64 0,.slice none 0 0]) ?_ 0 _ rfl;refine ms ?_;exact BK491.out) hb);have n6_:=Az (below_step (mb HB) hb);clear HO483 HO486 HO490 BK479 BK480 BK491 HB;have HO483:=n0_;have HO486:=n1_;have HO490:=n2_;have BK479:=n3_;have BK480:=n4_;have BK491:=n5_;have HB:=n6_;clear n0_ n1_ n2_ n3_ n4_ n5_ n6_;(try clear hb);(try clear hb2);(try clear hk);(try clear hi)) | (go_at_call 50;(with_reducible refine (impl_Aligned.calls a2 a3 true _ A22.out).mono ?_);rintro e w' ⟨rfl,⟨nd,rfl⟩⟩) | (go_at_call 51;(with_reducible refine (impl_isNum.calls a4 a3 t494 _ A25.out).mono ?_);rintro e w' ⟨rfl,⟨nd,rfl⟩⟩))
     go_meet
     case rel=>exact ⟨_,(!t494),(by first | rfl | (simp;done) | (simp [*];done)),H',⟨by first | omega | exact Nat.le_refl _⟩,⟨mr HO483⟩,⟨mr HO486⟩,⟨mr HO490⟩,⟨mz BK479⟩,⟨mz BK480⟩,⟨mz BK491⟩,⟨mb HB⟩⟩
    ·replace c24:=Bool.eq_false_iff.mpr c24
     subst c24
     have H1:(impl_ModelDo.j0 k false a2 a3 a4 false l0_0 l0_1 a0_2 l0_3 t481 t484 t487 t488) = some (r1,r2,r3,r4,r5,r6):=by rw [if_neg (show ¬ (false = true) by decide)] at H;exact H
     clear H
     have H:=H1
     clear H1
     have H':=Aside0.mk H
     clear H
     have hnb30:=NB479_480.out
     have hnc30:=NB480_479.out
     have hnb31:=NB479_491.out
     have hnc31:=NB491_479.out
     have hcz32_0:=bz0 BK479
     have hcz32_1:=bz1 BK479
     have hcz32_2:=bz2 BK479
     have hcz32_3:=bz3 BK479
     have hfz32_0:=bf BK479 0
     have hfz32_1:=bf BK479 1
     have hfz32_2:=bf BK479 2
     have hfz32_3:=bf BK479 3
     go_wp2_with (first | ((with_reducible refine gate_callee (f:=18) rfl ?_);refine goesL_ (some 19) rfl rfl Try.func18 (by kernel_rfl) rfl #[.agg #[.slice A0_0 l0_0.length c0_0,.slice A0_1 l0_1.length c0_1,.int .i64 a0_2,.slice A0_3 l0_3.length c0_3]] rfl ml ?_;(with_reducible refine (impl_ModelOk.calls k _ _ l0_0 _ _ l0_1 a0_2 _ _ l0_3 true _ ?side1 ?side2 ?side3 ?side4 ?side5 ?side6 A20.out).mono ?_);(case side1=>exact Kd.C_below HR0_0.out (mb HB));(case side2=>exact HC0_0.out);(case side3=>exact Kd.C_below HR0_1.out (mb HB));(case side4=>exact HC0_1.out);(case side5=>exact Kd.C_below HR0_3.out (mb HB));(case side6=>exact HC0_3.out);rintro e w33 ⟨rfl,hb⟩;refine ⟨_,rfl,?_⟩;have n0_:=Az (Kd.R_below (by (with_reducible repeat (first | apply Kd.R_alloc | apply Kd.R_drewN | apply Kd.R_drew));exact (Kd.R_mono (Kd.R_far (Kd.R_far (Kd.R_far (Kd.R_far (Kd.R_types HO483.out BK491.out (by decide)) (fun _ hk=>hk.2) _) (fun _ hk=>hk.2) _) (fun _ hk=>hk.2) _) (fun _ hk=>hk.2) _) (fun _ h_=>h_.1))) hb);have n1_:=Az (Kd.R_below (by (with_reducible repeat (first | apply Kd.R_alloc | apply Kd.R_drewN | apply Kd.R_drew));exact (Kd.R_mono (Kd.R_far (Kd.R_far (Kd.R_far (Kd.R_far (Kd.R_types HO486.out BK491.out (by decide)) (fun _ hk=>hk.2) _) (fun _ hk=>hk.2) _) (fun _ hk=>hk.2) _) (fun _ hk=>hk.2) _) (fun _ h_=>h_.1))) hb);have n2_:=Az (Kd.R_below (by (with_reducible repeat (first | apply Kd.R_alloc | apply Kd.R_drewN | apply Kd.R_drew));exact (Kd.R_mono (Kd.R_far (Kd.R_far (Kd.R_far (Kd.R_far (Kd.R_types HO490.out BK491.out (by decide)) (fun _ hk=>hk.2) _) (fun _ hk=>hk.2) _) (fun _ hk=>hk.2) _) (fun _ hk=>hk.2) _) (fun _ h_=>h_.1))) hb);have n3_:=Az (blk_below (g:=gb479) (o:=.cells #[.slice A0_0 l0_0.length c0_0,.slice A0_1 l0_1.length c0_1,.int .i64 a0_2,.slice A0_3 l0_3.length c0_3] 28 (0,0)) (by refine ms ?_;refine blk_far ?_ NB479_491.out _;refine ms ?_;refine blk_far ?_ NB479_491.out _;refine ms ?_;refine blk_far ?_ NB479_491.out _;refine ms ?_;refine blk_far ?_ NB479_491.out _;refine ms ?_;exact BK479.out) hb);have n4_:=Az (blk_below (g:=gb480) (o:=.cells #[.slice none 0 0,.slice none 0 0,.int .i64 0,.slice none 0 0] 28 (0,0)) (by refine ms ?_;refine blk_far ?_ NB480_491.out _;refine ms ?_;refine blk_far ?_ NB480_491.out _;refine ms ?_;refine blk_far ?_ NB480_491.out _;refine ms ?_;refine blk_far ?_ NB480_491.out _;refine ms ?_;exact BK480.out) hb);have n5_:=Az (blk_below (g:=gb491) (o:=.cells #[.slice Ao14 t481.length co14,.slice Ao18 t484.length co18,.int .i64 t487,.slice Ao19 t488.length co19] 28 (0,0)) (by refine ms ?_;refine blk_put (cs:=#[.slice Ao14 t481.length co14,.slice Ao18 t484.length co18,.int .i64 t487,.slice none 0 0]) ?_ 3 _ rfl;refine ms ?_;refine blk_put (cs:=#[.slice Ao14 t481.length co14,.slice Ao18 t484.length co18,.int .i64 0,.slice none 0 0]) ?_ 2 _ rfl;refine ms ?_;refine blk_put (cs:=#[.slice Ao14 t481.length co14,.slice none 0 0,.int .i64 0,.slice none 0 0]) ?_ 1 _ rfl;refine ms ?_;refine blk_put (cs:=#[.slice none 0 0,.slice none 0 0,.int .i64 0,.slice none 0 0]) ?_ 0 _ rfl;refine ms ?_;exact BK491.out) hb);have n6_:=Az (below_step (mb HB) hb);clear HO483 HO486 HO490 BK479 BK480 BK491 HB;have HO483:=n0_;have HO486:=n1_;have HO490:=n2_;have BK479:=n3_;have BK480:=n4_;have BK491:=n5_;have HB:=n6_;clear n0_ n1_ n2_ n3_ n4_ n5_ n6_;(try clear hb);(try clear hb2);(try clear hk);(try clear hi)) | (go_at_call 50;(with_reducible refine (impl_Aligned.calls a2 a3 true _ A22.out).mono ?_);rintro e w' ⟨rfl,⟨nd,rfl⟩⟩))
     go_meet
     case rel=>exact ⟨_,(false),(by first | rfl | (simp;done) | (simp [*];done)),H',⟨by first | omega | exact Nat.le_refl _⟩,⟨mr HO483⟩,⟨mr HO486⟩,⟨mr HO490⟩,⟨mz BK479⟩,⟨mz BK480⟩,⟨mz BK491⟩,⟨mb HB⟩⟩
   ·replace c23:=Bool.eq_false_iff.mpr c23
    subst c23
    have H1:(impl_ModelDo.j0 k a1 a2 a3 a4 true l0_0 l0_1 a0_2 l0_3 t481 t484 t487 t488) = some (r1,r2,r3,r4,r5,r6):=by rw [if_neg (show ¬ (false = true) by decide)] at H;exact H
    clear H
    have H:=H1
    clear H1
    have H':=Aside0.mk H
    clear H
    have hnb34:=NB479_480.out
    have hnc34:=NB480_479.out
    have hnb35:=NB479_491.out
    have hnc35:=NB491_479.out
    have hcz36_0:=bz0 BK479
    have hcz36_1:=bz1 BK479
    have hcz36_2:=bz2 BK479
    have hcz36_3:=bz3 BK479
    have hfz36_0:=bf BK479 0
    have hfz36_1:=bf BK479 1
    have hfz36_2:=bf BK479 2
    have hfz36_3:=bf BK479 3
    go_wp2_with (first | ((with_reducible refine gate_callee (f:=18) rfl ?_);refine goesL_ (some 19) rfl rfl Try.func18 (by kernel_rfl) rfl #[.agg #[.slice A0_0 l0_0.length c0_0,.slice A0_1 l0_1.length c0_1,.int .i64 a0_2,.slice A0_3 l0_3.length c0_3]] rfl ml ?_;(with_reducible refine (impl_ModelOk.calls k _ _ l0_0 _ _ l0_1 a0_2 _ _ l0_3 true _ ?side1 ?side2 ?side3 ?side4 ?side5 ?side6 A20.out).mono ?_);(case side1=>exact Kd.C_below HR0_0.out (mb HB));(case side2=>exact HC0_0.out);(case side3=>exact Kd.C_below HR0_1.out (mb HB));(case side4=>exact HC0_1.out);(case side5=>exact Kd.C_below HR0_3.out (mb HB));(case side6=>exact HC0_3.out);rintro e w37 ⟨rfl,hb⟩;refine ⟨_,rfl,?_⟩;have n0_:=Az (Kd.R_below (by (with_reducible repeat (first | apply Kd.R_alloc | apply Kd.R_drewN | apply Kd.R_drew));exact (Kd.R_mono (Kd.R_far (Kd.R_far (Kd.R_far (Kd.R_far (Kd.R_types HO483.out BK491.out (by decide)) (fun _ hk=>hk.2) _) (fun _ hk=>hk.2) _) (fun _ hk=>hk.2) _) (fun _ hk=>hk.2) _) (fun _ h_=>h_.1))) hb);have n1_:=Az (Kd.R_below (by (with_reducible repeat (first | apply Kd.R_alloc | apply Kd.R_drewN | apply Kd.R_drew));exact (Kd.R_mono (Kd.R_far (Kd.R_far (Kd.R_far (Kd.R_far (Kd.R_types HO486.out BK491.out (by decide)) (fun _ hk=>hk.2) _) (fun _ hk=>hk.2) _) (fun _ hk=>hk.2) _) (fun _ hk=>hk.2) _) (fun _ h_=>h_.1))) hb);have n2_:=Az (Kd.R_below (by (with_reducible repeat (first | apply Kd.R_alloc | apply Kd.R_drewN | apply Kd.R_drew));exact (Kd.R_mono (Kd.R_far (Kd.R_far (Kd.R_far (Kd.R_far (Kd.R_types HO490.out BK491.out (by decide)) (fun _ hk=>hk.2) _) (fun _ hk=>hk.2) _) (fun _ hk=>hk.2) _) (fun _ hk=>hk.2) _) (fun _ h_=>h_.1))) hb);have n3_:=Az (blk_below (g:=gb479) (o:=.cells #[.slice A0_0 l0_0.length c0_0,.slice A0_1 l0_1.length c0_1,.int .i64 a0_2,.slice A0_3 l0_3.length c0_3] 28 (0,0)) (by refine ms ?_;refine blk_far ?_ NB479_491.out _;refine ms ?_;refine blk_far ?_ NB479_491.out _;refine ms ?_;refine blk_far ?_ NB479_491.out _;refine ms ?_;refine blk_far ?_ NB479_491.out _;refine ms ?_;exact BK479.out) hb);have n4_:=Az (blk_below (g:=gb480) (o:=.cells #[.slice none 0 0,.slice none 0 0,.int .i64 0,.slice none 0 0] 28 (0,0)) (by refine ms ?_;refine blk_far ?_ NB480_491.out _;refine ms ?_;refine blk_far ?_ NB480_491.out _;refine ms ?_;refine blk_far ?_ NB480_491.out _;refine ms ?_;refine blk_far ?_ NB480_491.out _;refine ms ?_;exact BK480.out) hb);have n5_:=Az (blk_below (g:=gb491) (o:=.cells #[.slice Ao14 t481.length co14,.slice Ao18 t484.length co18,.int .i64 t487,.slice Ao19 t488.length co19] 28 (0,0)) (by refine ms ?_;refine blk_put (cs:=#[.slice Ao14 t481.length co14,.slice Ao18 t484.length co18,.int .i64 t487,.slice none 0 0]) ?_ 3 _ rfl;refine ms ?_;refine blk_put (cs:=#[.slice Ao14 t481.length co14,.slice Ao18 t484.length co18,.int .i64 0,.slice none 0 0]) ?_ 2 _ rfl;refine ms ?_;refine blk_put (cs:=#[.slice Ao14 t481.length co14,.slice none 0 0,.int .i64 0,.slice none 0 0]) ?_ 1 _ rfl;refine ms ?_;refine blk_put (cs:=#[.slice none 0 0,.slice none 0 0,.int .i64 0,.slice none 0 0]) ?_ 0 _ rfl;refine ms ?_;exact BK491.out) hb);have n6_:=Az (below_step (mb HB) hb);clear HO483 HO486 HO490 BK479 BK480 BK491 HB;have HO483:=n0_;have HO486:=n1_;have HO490:=n2_;have BK479:=n3_;have BK480:=n4_;have BK491:=n5_;have HB:=n6_;clear n0_ n1_ n2_ n3_ n4_ n5_ n6_;(try clear hb);(try clear hb2);(try clear hk);(try clear hi)) | (go_at_call 50;(with_reducible refine (impl_Aligned.calls a2 a3 false _ A22.out).mono ?_);rintro e w' ⟨rfl,⟨nd,rfl⟩⟩))
    go_meet
    case rel=>exact ⟨_,(true),(by first | rfl | (simp;done) | (simp [*];done)),H',⟨by first | omega | exact Nat.le_refl _⟩,⟨mr HO483⟩,⟨mr HO486⟩,⟨mr HO490⟩,⟨mz BK479⟩,⟨mz BK480⟩,⟨mz BK491⟩,⟨mb HB⟩⟩
  ·replace c21:=Bool.eq_false_iff.mpr c21
   subst c21
   have H1:(impl_ModelDo.j0 k a1 a2 a3 a4 true l0_0 l0_1 a0_2 l0_3 t481 t484 t487 t488) = some (r1,r2,r3,r4,r5,r6):=by rw [if_neg (show ¬ (false = true) by decide)] at H;exact H
   clear H
   have H:=H1
   clear H1
   have H':=Aside0.mk H
   clear H
   have hnb38:=NB479_480.out
   have hnc38:=NB480_479.out
   have hnb39:=NB479_491.out
   have hnc39:=NB491_479.out
   have hcz40_0:=bz0 BK479
   have hcz40_1:=bz1 BK479
   have hcz40_2:=bz2 BK479
   have hcz40_3:=bz3 BK479
   have hfz40_0:=bf BK479 0
   have hfz40_1:=bf BK479 1
   have hfz40_2:=bf BK479 2
   have hfz40_3:=bf BK479 3
   go_wp2_with (first | ((with_reducible refine gate_callee (f:=18) rfl ?_);refine goesL_ (some 19) rfl rfl Try.func18 (by kernel_rfl) rfl #[.agg #[.slice A0_0 l0_0.length c0_0,.slice A0_1 l0_1.length c0_1,.int .i64 a0_2,.slice A0_3 l0_3.length c0_3]] rfl ml ?_;(with_reducible refine (impl_ModelOk.calls k _ _ l0_0 _ _ l0_1 a0_2 _ _ l0_3 false _ ?side1 ?side2 ?side3 ?side4 ?side5 ?side6 A20.out).mono ?_);(case side1=>exact Kd.C_below HR0_0.out (mb HB));(case side2=>exact HC0_0.out);(case side3=>exact Kd.C_below HR0_1.out (mb HB));(case side4=>exact HC0_1.out);(case side5=>exact Kd.C_below HR0_3.out (mb HB));(case side6=>exact HC0_3.out);rintro e w41 ⟨rfl,hb⟩;refine ⟨_,rfl,?_⟩;have n0_:=Az (Kd.R_below (by (with_reducible repeat (first | apply Kd.R_alloc | apply Kd.R_drewN | apply Kd.R_drew));exact (Kd.R_mono (Kd.R_far (Kd.R_far (Kd.R_far (Kd.R_far (Kd.R_types HO483.out BK491.out (by decide)) (fun _ hk=>hk.2) _) (fun _ hk=>hk.2) _) (fun _ hk=>hk.2) _) (fun _ hk=>hk.2) _) (fun _ h_=>h_.1))) hb);have n1_:=Az (Kd.R_below (by (with_reducible repeat (first | apply Kd.R_alloc | apply Kd.R_drewN | apply Kd.R_drew));exact (Kd.R_mono (Kd.R_far (Kd.R_far (Kd.R_far (Kd.R_far (Kd.R_types HO486.out BK491.out (by decide)) (fun _ hk=>hk.2) _) (fun _ hk=>hk.2) _) (fun _ hk=>hk.2) _) (fun _ hk=>hk.2) _) (fun _ h_=>h_.1))) hb);have n2_:=Az (Kd.R_below (by (with_reducible repeat (first | apply Kd.R_alloc | apply Kd.R_drewN | apply Kd.R_drew));exact (Kd.R_mono (Kd.R_far (Kd.R_far (Kd.R_far (Kd.R_far (Kd.R_types HO490.out BK491.out (by decide)) (fun _ hk=>hk.2) _) (fun _ hk=>hk.2) _) (fun _ hk=>hk.2) _) (fun _ hk=>hk.2) _) (fun _ h_=>h_.1))) hb);have n3_:=Az (blk_below (g:=gb479) (o:=.cells #[.slice A0_0 l0_0.length c0_0,.slice A0_1 l0_1.length c0_1,.int .i64 a0_2,.slice A0_3 l0_3.length c0_3] 28 (0,0)) (by refine ms ?_;refine blk_far ?_ NB479_491.out _;refine ms ?_;refine blk_far ?_ NB479_491.out _;refine ms ?_;refine blk_far ?_ NB479_491.out _;refine ms ?_;refine blk_far ?_ NB479_491.out _;refine ms ?_;exact BK479.out) hb);have n4_:=Az (blk_below (g:=gb480) (o:=.cells #[.slice none 0 0,.slice none 0 0,.int .i64 0,.slice none 0 0] 28 (0,0)) (by refine ms ?_;refine blk_far ?_ NB480_491.out _;refine ms ?_;refine blk_far ?_ NB480_491.out _;refine ms ?_;refine blk_far ?_ NB480_491.out _;refine ms ?_;refine blk_far ?_ NB480_491.out _;refine ms ?_;exact BK480.out) hb);have n5_:=Az (blk_below (g:=gb491) (o:=.cells #[.slice Ao14 t481.length co14,.slice Ao18 t484.length co18,.int .i64 t487,.slice Ao19 t488.length co19] 28 (0,0)) (by refine ms ?_;refine blk_put (cs:=#[.slice Ao14 t481.length co14,.slice Ao18 t484.length co18,.int .i64 t487,.slice none 0 0]) ?_ 3 _ rfl;refine ms ?_;refine blk_put (cs:=#[.slice Ao14 t481.length co14,.slice Ao18 t484.length co18,.int .i64 0,.slice none 0 0]) ?_ 2 _ rfl;refine ms ?_;refine blk_put (cs:=#[.slice Ao14 t481.length co14,.slice none 0 0,.int .i64 0,.slice none 0 0]) ?_ 1 _ rfl;refine ms ?_;refine blk_put (cs:=#[.slice none 0 0,.slice none 0 0,.int .i64 0,.slice none 0 0]) ?_ 0 _ rfl;refine ms ?_;exact BK491.out) hb);have n6_:=Az (below_step (mb HB) hb);clear HO483 HO486 HO490 BK479 BK480 BK491 HB;have HO483:=n0_;have HO486:=n1_;have HO490:=n2_;have BK479:=n3_;have BK480:=n4_;have BK491:=n5_;have HB:=n6_;clear n0_ n1_ n2_ n3_ n4_ n5_ n6_;(try clear hb);(try clear hb2);(try clear hk);(try clear hi)))
   go_meet
   case rel=>exact ⟨_,(true),(by first | rfl | (simp;done) | (simp [*];done)),H',⟨by first | omega | exact Nat.le_refl _⟩,⟨mr HO483⟩,⟨mr HO486⟩,⟨mr HO490⟩,⟨mz BK479⟩,⟨mz BK480⟩,⟨mz BK491⟩,⟨mb HB⟩⟩
 case rest =>
  clear HC7
  try clear hcz11_0
  try clear hcz11_1
  try clear hcz11_2
  try clear hcz11_3
  try clear hcz17_0
  try clear hcz17_1
  try clear hcz17_2
  try clear hcz17_3
  try clear hfz11_0
  try clear hfz11_1
  try clear hfz11_2
  try clear hfz11_3
  try clear hfz17_0
  try clear hfz17_1
  try clear hfz17_2
  try clear hfz17_3
  obtain ⟨kq,x35_6,rfl,HA,HJ6,HO_492000,HO_492001,HO_492003,BK479,BK480,BK491,HB⟩:=hcut
  cases kq with
  | zero=>exact absurd HA.out (by simp [impl_ModelDo.j0])
  | succ kj6 =>
   have H:=HA.out
   clear HA
   simp only [impl_ModelDo.j0] at H
   by_cases c42:x35_6 = true
   ·subst c42
    have H1:(some (t481,t484,t487,t488,0,1)) = some (r1,r2,r3,r4,r5,r6):=by rw [if_pos rfl] at H;exact H
    clear H
    have H:=H1
    clear H1
    simp only [Option.some.injEq,Prod.mk.injEq] at H
    obtain ⟨rfl,rfl,rfl,rfl,rfl,rfl⟩:=H
    have hnb43:=NB491_479.out
    have hnc43:=NB479_491.out
    have hnb44:=NB491_480.out
    have hnc44:=NB480_491.out
    have hcz45_0:=bz0 BK491
    have hcz45_1:=bz1 BK491
    have hcz45_2:=bz2 BK491
    have hcz45_3:=bz3 BK491
    have hfz45_0:=bf BK491 0
    have hfz45_1:=bf BK491 1
    have hfz45_2:=bf BK491 2
    have hfz45_3:=bf BK491 3
    have hnb46:=NB480_479.out
    have hnc46:=NB479_480.out
    have hcz47_0:=bz0 BK480
    have hcz47_1:=bz1 BK480
    have hcz47_2:=bz2 BK480
    have hcz47_3:=bz3 BK480
    have hfz47_0:=bf BK480 0
    have hfz47_1:=bf BK480 1
    have hfz47_2:=bf BK480 2
    have hfz47_3:=bf BK480 3
    go_wp2
    refine bodyPost_ret (results_ctt rfl _ _ gb480 28 #[.slice Ao14 t481.length co14,.slice Ao18 t484.length co18,.int .i64 t487,.slice Ao19 t488.length co19] (0,0) _ rfl (by refine ms ?_;refine blk_put (cs:=#[.slice Ao14 t481.length co14,.slice Ao18 t484.length co18,.int .i64 t487,.slice none 0 0]) ?_ 3 _ rfl;refine ms ?_;refine blk_put (cs:=#[.slice Ao14 t481.length co14,.slice Ao18 t484.length co18,.int .i64 0,.slice none 0 0]) ?_ 2 _ rfl;refine ms ?_;refine blk_put (cs:=#[.slice Ao14 t481.length co14,.slice none 0 0,.int .i64 0,.slice none 0 0]) ?_ 1 _ rfl;refine ms ?_;refine blk_put (cs:=#[.slice none 0 0,.slice none 0 0,.int .i64 0,.slice none 0 0]) ?_ 0 _ rfl;refine ms ?_;exact BK480.out) Try.underlying28 rfl (by kernel_rfl)) rfl ?_
    exact ⟨_,_,_,by first | rfl | (simp [errW_none,errW_some] <;> rfl) | (simp [*,errW_none,errW_some] <;> rfl),by (with_reducible repeat (first | apply Kd.R_alloc | apply Kd.R_drewN | apply Kd.R_drew));exact Kd.R_mono (Kd.R_far (Kd.R_far (Kd.R_far (Kd.R_far (Kd.R_types HO_492000.out BK480.out (by decide)) (fun _ hk=>hk.2) _) (fun _ hk=>hk.2) _) (fun _ hk=>hk.2) _) (fun _ hk=>hk.2) _) (fun _ hk=>⟨hk.1.1,hk.1.2⟩),by (with_reducible repeat (first | apply Kd.R_alloc | apply Kd.R_drewN | apply Kd.R_drew));exact Kd.R_mono (Kd.R_far (Kd.R_far (Kd.R_far (Kd.R_far (Kd.R_types HO_492001.out BK480.out (by decide)) (fun _ hk=>hk.2) _) (fun _ hk=>hk.2) _) (fun _ hk=>hk.2) _) (fun _ hk=>hk.2) _) (fun _ hk=>⟨hk.1.1,hk.1.2⟩),by (with_reducible repeat (first | apply Kd.R_alloc | apply Kd.R_drewN | apply Kd.R_drew));exact Kd.R_mono (Kd.R_far (Kd.R_far (Kd.R_far (Kd.R_far (Kd.R_types HO_492003.out BK480.out (by decide)) (fun _ hk=>hk.2) _) (fun _ hk=>hk.2) _) (fun _ hk=>hk.2) _) (fun _ hk=>hk.2) _) (fun _ hk=>⟨hk.1.1,hk.1.2⟩),mb HB⟩
   ·replace c42:=Bool.eq_false_iff.mpr c42
    subst c42
    have H1:((impl_SlaveOf.f kj6 a2).bind fun t495=>(if t495 = 3 then (impl_ModelDo.j1 kj6 a1 a2 a3 a4 false t495 (a3 == 2) l0_0 l0_1 a0_2 l0_3 t481 t484 t487 t488) else (impl_ModelDo.j1 kj6 a1 a2 a3 a4 false t495 false l0_0 l0_1 a0_2 l0_3 t481 t484 t487 t488))) = some (r1,r2,r3,r4,r5,r6):=by rw [if_neg (show ¬ (false = true) by decide)] at H;exact H
    clear H
    have H:=H1
    clear H1
    replace H:=Option.bind_eq_some_iff.mp H
    obtain ⟨t495,A480,H⟩:=H
    replace H:(if t495 = 3 then (impl_ModelDo.j1 kj6 a1 a2 a3 a4 false t495 (a3 == 2) l0_0 l0_1 a0_2 l0_3 t481 t484 t487 t488) else (impl_ModelDo.j1 kj6 a1 a2 a3 a4 false t495 false l0_0 l0_1 a0_2 l0_3 t481 t484 t487 t488)) = some (r1,r2,r3,r4,r5,r6):=H
    have A48:=Aside0.mk A480
    clear A480
    have HC49:=Aside0.mk H
    clear H
    go_upto_region 6 with (first | ((with_reducible refine gate_callee (f:=52) rfl ?_);refine goesL_ (some 38) rfl rfl Try.func52 (by kernel_rfl) rfl #[.int .i64 a2] rfl ml ?_;(with_reducible refine (impl_SlaveOf.calls kj6 a2 t495 _ A48.out).mono ?_);rintro e w' ⟨rfl,⟨nd,rfl⟩⟩;refine ⟨_,rfl,?_⟩))
    (try simp only [Act.put,List.setIfInBounds_toArray,List.set_cons_zero,List.set_cons_succ])
    go_cut [39] (fun v39 wc=>∃ (kq:Nat) (x39_48:Bool),v39 = .bool x39_48 ∧ Aside0 (impl_ModelDo.j1 kq a1 a2 a3 a4 false t495 x39_48 l0_0 l0_1 a0_2 l0_3 t481 t484 t487 t488 = some (r1,r2,r3,r4,r5,r6)) ∧ Aside0 (kq ≤ kj6) ∧ Aside0 (Kd.R (Kd.int .i64) 3 wc w.heap.size (fun k_=>some k_ ≠ ((.slice Ao18 t484.length co18):Value).ownBlock ∧ some k_ ≠ ((.slice Ao19 t488.length co19):Value).ownBlock) (.slice Ao14 t481.length co14) t481) ∧ Aside0 (Kd.R (Kd.int .i64) 3 wc w.heap.size (fun k_=>some k_ ≠ ((.slice Ao14 t481.length co14):Value).ownBlock ∧ some k_ ≠ ((.slice Ao19 t488.length co19):Value).ownBlock) (.slice Ao18 t484.length co18) t484) ∧ Aside0 (Kd.R (Kd.int .i64) 3 wc w.heap.size (fun k_=>some k_ ≠ ((.slice Ao14 t481.length co14):Value).ownBlock ∧ some k_ ≠ ((.slice Ao18 t484.length co18):Value).ownBlock) (.slice Ao19 t488.length co19) t488) ∧ Aside0 (wc.heap[gb479]? = some (.cells #[(.slice A0_0 l0_0.length c0_0),(.slice A0_1 l0_1.length c0_1),.int .i64 a0_2,(.slice A0_3 l0_3.length c0_3)] 28 (0,0))) ∧ Aside0 (wc.heap[gb480]? = some (.cells #[(.slice none 0 0),(.slice none 0 0),.int .i64 0,(.slice none 0 0)] 28 (0,0))) ∧ Aside0 (wc.heap[gb491]? = some (.cells #[(.slice Ao14 t481.length co14),(.slice Ao18 t484.length co18),.int .i64 t487,(.slice Ao19 t488.length co19)] 28 (0,0))) ∧ Aside0 (Below w.heap.size w wc))
    case first =>
     have H:=HC49.out
     clear HC49
     by_cases c50:t495 = 3
     ·rw [if_pos c50] at H
      have c50b0:(t495 == 3) = true:=beq_iff_eq.mpr c50
      have c50b1:(t495 != 3) = false:=bne_eq_false_iff_eq.mpr c50
      clear c50
      (first | rw [c50b0] | (simp only [i64_w,i32_w];rw [c50b0]) | skip)
      have H':=Aside0.mk H
      clear H
      go_wp2
      go_meet
      case rel=>exact ⟨_,((a3 == 2)),(by first | rfl | (simp;done) | (simp [*];done)),H',⟨by have:=HJ6.out;first | omega | exact Nat.le_refl _⟩,⟨mr HO_492000⟩,⟨mr HO_492001⟩,⟨mr HO_492003⟩,⟨mz BK479⟩,⟨mz BK480⟩,⟨mz BK491⟩,⟨mb HB⟩⟩
     ·rw [if_neg c50] at H
      have c50b0:(t495 == 3) = false:=beq_eq_false_iff_ne.mpr c50
      have c50b1:(t495 != 3) = true:=bne_iff_ne.mpr c50
      (first | rw [c50b0] | (simp only [i64_w,i32_w];rw [c50b0]) | skip)
      have H':=Aside0.mk H
      clear H
      go_wp2
      go_meet
      case rel=>exact ⟨_,(false),(by first | rfl | (simp;done) | (simp [*];done)),H',⟨by have:=HJ6.out;first | omega | exact Nat.le_refl _⟩,⟨mr HO_492000⟩,⟨mr HO_492001⟩,⟨mr HO_492003⟩,⟨mz BK479⟩,⟨mz BK480⟩,⟨mz BK491⟩,⟨mb HB⟩⟩
    case rest =>
     clear HC49
     try clear c42
     try clear hcz11_0
     try clear hcz11_1
     try clear hcz11_2
     try clear hcz11_3
     try clear hcz17_0
     try clear hcz17_1
     try clear hcz17_2
     try clear hcz17_3
     try clear hfz11_0
     try clear hfz11_1
     try clear hfz11_2
     try clear hfz11_3
     try clear hfz17_0
     try clear hfz17_1
     try clear hfz17_2
     try clear hfz17_3
     obtain ⟨kq,x39_48,rfl,HA,HJ48,HO_492000,HO_492001,HO_492003,BK479,BK480,BK491,HB⟩:=hcut
     cases kq with
     | zero=>exact absurd HA.out (by simp [impl_ModelDo.j1])
     | succ kj48 =>
      have H:=HA.out
      clear HA
      simp only [impl_ModelDo.j1] at H
      by_cases c51:x39_48 = true
      ·subst c51
       have H1:((impl_DevDo.f kj48 l0_1 a0_2 l0_3 a1 (wrap64 (a2 - 192)) a4).bind fun bt496=>(if bt496.2.2.2.2 = true then (some (t481,bt496.1,bt496.2.1,bt496.2.2.1,bt496.2.2.2.1,0)) else ((impl_ownModel.f l0_0 l0_1 a0_2 l0_3).bind fun bt505=>(some (bt505.1,bt505.2.1,bt505.2.2.1,bt505.2.2.2,0,1))))) = some (r1,r2,r3,r4,r5,r6):=by rw [if_pos rfl] at H;exact H
       clear H
       have H:=H1
       clear H1
       replace H:=Option.bind_eq_some_iff.mp H
       obtain ⟨⟨t496,t499,t500,t503,t504⟩,A520,H⟩:=H
       replace H:(if t504 = true then (some (t481,t496,t499,t500,t503,0)) else ((impl_ownModel.f l0_0 l0_1 a0_2 l0_3).bind fun bt505=>(some (bt505.1,bt505.2.1,bt505.2.2.1,bt505.2.2.2,0,1)))) = some (r1,r2,r3,r4,r5,r6):=H
       have A52:=Aside0.mk A520
       clear A520
       by_cases c53:t504 = true
       ·subst c53
        have H1:(some (t481,t496,t499,t500,t503,0)) = some (r1,r2,r3,r4,r5,r6):=by rw [if_pos rfl] at H;exact H
        clear H
        have H:=H1
        clear H1
        simp only [Option.some.injEq,Prod.mk.injEq] at H
        obtain ⟨rfl,rfl,rfl,rfl,rfl,rfl⟩:=H
        have hnb54:=NB479_480.out
        have hnc54:=NB480_479.out
        have hnb55:=NB479_491.out
        have hnc55:=NB491_479.out
        have hcz56_0:=bz0 BK479
        have hcz56_1:=bz1 BK479
        have hcz56_2:=bz2 BK479
        have hcz56_3:=bz3 BK479
        have hfz56_0:=bf BK479 0
        have hfz56_1:=bf BK479 1
        have hfz56_2:=bf BK479 2
        have hfz56_3:=bf BK479 3
        go_wp2_with (first | ((with_reducible refine gate_callee (f:=41) rfl ?_);refine goesL_ (some 53) rfl rfl Try.func41 (by kernel_rfl) rfl #[.agg #[.slice A0_1 l0_1.length c0_1,.int .i64 a0_2,.slice A0_3 l0_3.length c0_3],.bool a1,.int .i64 (wrap64 (a2 - 192)),.int .i64 a4] rfl ml ?_;(with_reducible refine (impl_DevDo.calls kj48 _ _ l0_1 a0_2 _ _ l0_3 a1 (wrap64 (a2 - 192)) a4 t496 t499 t500 t503 true _ ?side1 ?side2 ?side3 ?side4 A52.out).mono ?_);(case side1=>exact mc (Kd.C_below HR0_1.out HB.out));(case side2=>exact HC0_1.out);(case side3=>exact mc (Kd.C_below HR0_3.out HB.out));(case side4=>exact HC0_3.out);rintro e w57 ⟨v497,v501,rfl,ho0,ho1,hb⟩;refine ⟨_,rfl,?_⟩;have n0_:=Az (Kd.R_mono (Kd.R_told (Kd.R_told (Kd.R_old (mr HO_492000) hb) (Kd.R_base ho0)) (Kd.R_base ho1)) (fun _ h_=>h_.1));have n1_:=Az (Kd.R_mono (Kd.R_told (Kd.R_told (Kd.R_old (mr HO_492001) hb) (Kd.R_base ho0)) (Kd.R_base ho1)) (fun _ h_=>h_.1));have n2_:=Az (Kd.R_mono (Kd.R_told (Kd.R_told (Kd.R_old (mr HO_492003) hb) (Kd.R_base ho0)) (Kd.R_base ho1)) (fun _ h_=>h_.1));have n3_:=Az (Kd.R_lower (Kd.R_new' (Kd.R_new' (Kd.R_new' ho0 (Kd.R_lt (mr HO_492000))) (Kd.R_lt (mr HO_492001))) (Kd.R_lt (mr HO_492003))) (below_size (mb HB)));have n4_:=Az (Kd.R_lower (Kd.R_new' (Kd.R_new' (Kd.R_new' ho1 (Kd.R_lt (mr HO_492000))) (Kd.R_lt (mr HO_492001))) (Kd.R_lt (mr HO_492003))) (below_size (mb HB)));have n5_:=Az (blk_below (mz BK479) hb);have n6_:=Az (blk_below (mz BK480) hb);have n7_:=Az (blk_below (mz BK491) hb);have n8_:=Az (below_step (mb HB) hb);clear HO_492000 HO_492001 HO_492003 BK479 BK480 BK491 HB;have HO_492000:=n0_;have HO_492001:=n1_;have HO_492003:=n2_;have HO498:=n3_;have HO502:=n4_;have BK479:=n5_;have BK480:=n6_;have BK491:=n7_;have HB:=n8_;clear n0_ n1_ n2_ n3_ n4_ n5_ n6_ n7_ n8_;(try clear hb);(try clear hb2);(try clear hk);(try clear hi);(try clear ho0);(try clear ho1);obtain ⟨Ao58,co58,eo58⟩:=Kd.R_slice HO498.out;subst eo58;have hnb59:=NB491_480.out;have hnc59:=NB480_491.out;have hcz60_0:=bz0 BK491;have hcz60_1:=bz1 BK491;have hcz60_2:=bz2 BK491;have hcz60_3:=bz3 BK491;have hfz60_0:=bf BK491 0;have hfz60_1:=bf BK491 1;have hfz60_2:=bf BK491 2;have hfz60_3:=bf BK491 3;obtain ⟨Ao61,co61,eo61⟩:=Kd.R_slice HO502.out;subst eo61;have hcz62_0:=bz0 BK480;have hcz62_1:=bz1 BK480;have hcz62_2:=bz2 BK480;have hcz62_3:=bz3 BK480;have hfz62_0:=bf BK480 0;have hfz62_1:=bf BK480 1;have hfz62_2:=bf BK480 2;have hfz62_3:=bf BK480 3))
        refine bodyPost_ret (results_ctt rfl _ _ gb480 28 #[.slice Ao14 t481.length co14,.slice Ao58 t496.length co58,.int .i64 t499,.slice Ao61 t500.length co61] (0,0) _ rfl (by refine ms ?_;refine blk_put (cs:=#[.slice Ao14 t481.length co14,.slice Ao58 t496.length co58,.int .i64 t499,.slice none 0 0]) ?_ 3 _ rfl;refine ms ?_;refine blk_put (cs:=#[.slice Ao14 t481.length co14,.slice Ao58 t496.length co58,.int .i64 0,.slice none 0 0]) ?_ 2 _ rfl;refine ms ?_;refine blk_put (cs:=#[.slice Ao14 t481.length co14,.slice none 0 0,.int .i64 0,.slice none 0 0]) ?_ 1 _ rfl;refine ms ?_;refine blk_put (cs:=#[.slice none 0 0,.slice none 0 0,.int .i64 0,.slice none 0 0]) ?_ 0 _ rfl;refine ms ?_;refine blk_far ?_ NB480_491.out _;refine ms ?_;refine blk_far ?_ NB480_491.out _;refine ms ?_;refine blk_far ?_ NB480_491.out _;refine ms ?_;exact BK480.out) Try.underlying28 rfl (by kernel_rfl)) rfl ?_
        exact ⟨_,_,_,by first | rfl | (simp [errW_none,errW_some] <;> rfl) | (simp [*,errW_none,errW_some] <;> rfl),by (with_reducible repeat (first | apply Kd.R_alloc | apply Kd.R_drewN | apply Kd.R_drew));exact Kd.R_mono (Kd.R_far (Kd.R_far (Kd.R_far (Kd.R_far (Kd.R_far (Kd.R_far (Kd.R_far (Kd.R_types (Kd.R_types HO_492000.out BK491.out (by decide)) BK480.out (by decide)) (fun _ hk=>hk.1.2) _) (fun _ hk=>hk.1.2) _) (fun _ hk=>hk.1.2) _) (fun _ hk=>hk.2) _) (fun _ hk=>hk.2) _) (fun _ hk=>hk.2) _) (fun _ hk=>hk.2) _) (fun _ hk=>⟨hk.1.1.1.2,hk.1.1.2⟩),by (with_reducible repeat (first | apply Kd.R_alloc | apply Kd.R_drewN | apply Kd.R_drew));exact Kd.R_mono (Kd.R_far (Kd.R_far (Kd.R_far (Kd.R_far (Kd.R_far (Kd.R_far (Kd.R_far (Kd.R_types (Kd.R_types HO498.out BK491.out (by decide)) BK480.out (by decide)) (fun _ hk=>hk.1.2) _) (fun _ hk=>hk.1.2) _) (fun _ hk=>hk.1.2) _) (fun _ hk=>hk.2) _) (fun _ hk=>hk.2) _) (fun _ hk=>hk.2) _) (fun _ hk=>hk.2) _) (fun _ hk=>⟨hk.1.1.1.1.2,hk.1.1.1.1.1⟩),by (with_reducible repeat (first | apply Kd.R_alloc | apply Kd.R_drewN | apply Kd.R_drew));exact Kd.R_mono (Kd.R_far (Kd.R_far (Kd.R_far (Kd.R_far (Kd.R_far (Kd.R_far (Kd.R_far (Kd.R_types (Kd.R_types HO502.out BK491.out (by decide)) BK480.out (by decide)) (fun _ hk=>hk.1.2) _) (fun _ hk=>hk.1.2) _) (fun _ hk=>hk.1.2) _) (fun _ hk=>hk.2) _) (fun _ hk=>hk.2) _) (fun _ hk=>hk.2) _) (fun _ hk=>hk.2) _) (fun _ hk=>⟨hk.1.1.1.1.2,hk.1.1.1.1.1⟩),mb HB⟩
       ·replace c53:=Bool.eq_false_iff.mpr c53
        subst c53
        have H1:((impl_ownModel.f l0_0 l0_1 a0_2 l0_3).bind fun bt505=>(some (bt505.1,bt505.2.1,bt505.2.2.1,bt505.2.2.2,0,1))) = some (r1,r2,r3,r4,r5,r6):=by rw [if_neg (show ¬ (false = true) by decide)] at H;exact H
        clear H
        have H:=H1
        clear H1
        replace H:=Option.bind_eq_some_iff.mp H
        obtain ⟨⟨t505,t508,t511,t512⟩,A630,H⟩:=H
        replace H:(some (t505,t508,t511,t512,0,1)) = some (r1,r2,r3,r4,r5,r6):=H
        have A63:=Aside0.mk A630
        clear A630
        simp only [Option.some.injEq,Prod.mk.injEq] at H
        obtain ⟨rfl,rfl,rfl,rfl,rfl,rfl⟩:=H
        have hnb64:=NB479_480.out
        have hnc64:=NB480_479.out
        have hnb65:=NB479_491.out
        have hnc65:=NB491_479.out
        have hcz66_0:=bz0 BK479
        have hcz66_1:=bz1 BK479
        have hcz66_2:=bz2 BK479
        have hcz66_3:=bz3 BK479
        have hfz66_0:=bf BK479 0
        have hfz66_1:=bf BK479 1
        have hfz66_2:=bf BK479 2
        have hfz66_3:=bf BK479 3
        go_wp2_with (first | ((with_reducible refine gate_callee (f:=41) rfl ?_);refine goesL_ (some 53) rfl rfl Try.func41 (by kernel_rfl) rfl #[.agg #[.slice A0_1 l0_1.length c0_1,.int .i64 a0_2,.slice A0_3 l0_3.length c0_3],.bool a1,.int .i64 (wrap64 (a2 - 192)),.int .i64 a4] rfl ml ?_;(with_reducible refine (impl_DevDo.calls kj48 _ _ l0_1 a0_2 _ _ l0_3 a1 (wrap64 (a2 - 192)) a4 t496 t499 t500 t503 false _ ?side1 ?side2 ?side3 ?side4 A52.out).mono ?_);(case side1=>exact mc (Kd.C_below HR0_1.out HB.out));(case side2=>exact HC0_1.out);(case side3=>exact mc (Kd.C_below HR0_3.out HB.out));(case side4=>exact HC0_3.out);rintro e w67 ⟨v497,v501,rfl,ho0,ho1,hb⟩;refine ⟨_,rfl,?_⟩;have n0_:=Az (Kd.R_mono (Kd.R_told (Kd.R_told (Kd.R_old (mr HO_492000) hb) (Kd.R_base ho0)) (Kd.R_base ho1)) (fun _ h_=>h_.1));have n1_:=Az (Kd.R_mono (Kd.R_told (Kd.R_told (Kd.R_old (mr HO_492001) hb) (Kd.R_base ho0)) (Kd.R_base ho1)) (fun _ h_=>h_.1));have n2_:=Az (Kd.R_mono (Kd.R_told (Kd.R_told (Kd.R_old (mr HO_492003) hb) (Kd.R_base ho0)) (Kd.R_base ho1)) (fun _ h_=>h_.1));have n3_:=Az (Kd.R_lower (Kd.R_new' (Kd.R_new' (Kd.R_new' ho0 (Kd.R_lt (mr HO_492000))) (Kd.R_lt (mr HO_492001))) (Kd.R_lt (mr HO_492003))) (below_size (mb HB)));have n4_:=Az (Kd.R_lower (Kd.R_new' (Kd.R_new' (Kd.R_new' ho1 (Kd.R_lt (mr HO_492000))) (Kd.R_lt (mr HO_492001))) (Kd.R_lt (mr HO_492003))) (below_size (mb HB)));have n5_:=Az (blk_below (mz BK479) hb);have n6_:=Az (blk_below (mz BK480) hb);have n7_:=Az (blk_below (mz BK491) hb);have n8_:=Az (below_step (mb HB) hb);clear HO_492000 HO_492001 HO_492003 BK479 BK480 BK491 HB;have HO_492000:=n0_;have HO_492001:=n1_;have HO_492003:=n2_;have HO498:=n3_;have HO502:=n4_;have BK479:=n5_;have BK480:=n6_;have BK491:=n7_;have HB:=n8_;clear n0_ n1_ n2_ n3_ n4_ n5_ n6_ n7_ n8_;(try clear hb);(try clear hb2);(try clear hk);(try clear hi);(try clear ho0);(try clear ho1);obtain ⟨Ao68,co68,eo68⟩:=Kd.R_slice HO498.out;subst eo68;have hnb69:=NB491_480.out;have hnc69:=NB480_491.out;have hcz70_0:=bz0 BK491;have hcz70_1:=bz1 BK491;have hcz70_2:=bz2 BK491;have hcz70_3:=bz3 BK491;have hfz70_0:=bf BK491 0;have hfz70_1:=bf BK491 1;have hfz70_2:=bf BK491 2;have hfz70_3:=bf BK491 3;obtain ⟨Ao71,co71,eo71⟩:=Kd.R_slice HO502.out;subst eo71;have hcz72_0:=bz0 BK479;have hcz72_1:=bz1 BK479;have hcz72_2:=bz2 BK479;have hcz72_3:=bz3 BK479;have hfz72_0:=bf BK479 0;have hfz72_1:=bf BK479 1;have hfz72_2:=bf BK479 2;have hfz72_3:=bf BK479 3) | ((with_reducible refine gate_callee (f:=49) rfl ?_);refine goesL_ (some 87) rfl rfl Try.func49 (by kernel_rfl) rfl #[.agg #[.slice A0_0 l0_0.length c0_0,.slice A0_1 l0_1.length c0_1,.int .i64 a0_2,.slice A0_3 l0_3.length c0_3]] rfl ml ?_;(with_reducible refine (impl_ownModel.calls _ _ l0_0 _ _ l0_1 a0_2 _ _ l0_3 t505 t508 t511 t512 _ ?side1 ?side2 ?side3 ?side4 ?side5 ?side6 A63.out).mono ?_);(case side1=>exact Kd.C_below HR0_0.out (mb HB));(case side2=>exact HC0_0.out);(case side3=>exact Kd.C_below HR0_1.out (mb HB));(case side4=>exact HC0_1.out);(case side5=>exact Kd.C_below HR0_3.out (mb HB));(case side6=>exact HC0_3.out);rintro e w73 ⟨v506,v509,v513,rfl,ho0,ho1,ho2,hb⟩;refine ⟨_,rfl,?_⟩;have n0_:=Az (Kd.R_mono (Kd.R_told (Kd.R_told (Kd.R_told (Kd.R_old (by (with_reducible repeat (first | apply Kd.R_alloc | apply Kd.R_drewN | apply Kd.R_drew));exact (Kd.R_mono (Kd.R_far (Kd.R_far (Kd.R_far (Kd.R_types HO_492000.out BK491.out (by decide)) (fun _ hk=>hk.2) _) (fun _ hk=>hk.2) _) (fun _ hk=>hk.2) _) (fun _ h_=>h_.1))) hb) (Kd.R_base ho0)) (Kd.R_base ho1)) (Kd.R_base ho2)) (fun _ h_=>h_.1));have n1_:=Az (Kd.R_mono (Kd.R_told (Kd.R_told (Kd.R_told (Kd.R_old (by (with_reducible repeat (first | apply Kd.R_alloc | apply Kd.R_drewN | apply Kd.R_drew));exact (Kd.R_mono (Kd.R_far (Kd.R_far (Kd.R_far (Kd.R_types HO_492001.out BK491.out (by decide)) (fun _ hk=>hk.2) _) (fun _ hk=>hk.2) _) (fun _ hk=>hk.2) _) (fun _ h_=>h_.1))) hb) (Kd.R_base ho0)) (Kd.R_base ho1)) (Kd.R_base ho2)) (fun _ h_=>h_.1));have n2_:=Az (Kd.R_mono (Kd.R_told (Kd.R_told (Kd.R_told (Kd.R_old (by (with_reducible repeat (first | apply Kd.R_alloc | apply Kd.R_drewN | apply Kd.R_drew));exact (Kd.R_mono (Kd.R_far (Kd.R_far (Kd.R_far (Kd.R_types HO_492003.out BK491.out (by decide)) (fun _ hk=>hk.2) _) (fun _ hk=>hk.2) _) (fun _ hk=>hk.2) _) (fun _ h_=>h_.1))) hb) (Kd.R_base ho0)) (Kd.R_base ho1)) (Kd.R_base ho2)) (fun _ h_=>h_.1));have n3_:=Az (Kd.R_mono (Kd.R_told (Kd.R_told (Kd.R_told (Kd.R_old (by (with_reducible repeat (first | apply Kd.R_alloc | apply Kd.R_drewN | apply Kd.R_drew));exact (Kd.R_mono (Kd.R_far (Kd.R_far (Kd.R_far (Kd.R_types HO498.out BK491.out (by decide)) (fun _ hk=>hk.2) _) (fun _ hk=>hk.2) _) (fun _ hk=>hk.2) _) (fun _ h_=>h_.1))) hb) (Kd.R_base ho0)) (Kd.R_base ho1)) (Kd.R_base ho2)) (fun _ h_=>h_.1));have n4_:=Az (Kd.R_mono (Kd.R_told (Kd.R_told (Kd.R_told (Kd.R_old (by (with_reducible repeat (first | apply Kd.R_alloc | apply Kd.R_drewN | apply Kd.R_drew));exact (Kd.R_mono (Kd.R_far (Kd.R_far (Kd.R_far (Kd.R_types HO502.out BK491.out (by decide)) (fun _ hk=>hk.2) _) (fun _ hk=>hk.2) _) (fun _ hk=>hk.2) _) (fun _ h_=>h_.1))) hb) (Kd.R_base ho0)) (Kd.R_base ho1)) (Kd.R_base ho2)) (fun _ h_=>h_.1));have n5_:=Az (Kd.R_lower (Kd.R_new' (Kd.R_new' (Kd.R_new' (Kd.R_new' (Kd.R_new' ho0 (Kd.R_lt (by (with_reducible repeat (first | apply Kd.R_alloc | apply Kd.R_drewN | apply Kd.R_drew));exact (Kd.R_mono (Kd.R_far (Kd.R_far (Kd.R_far (Kd.R_types HO_492000.out BK491.out (by decide)) (fun _ hk=>hk.2) _) (fun _ hk=>hk.2) _) (fun _ hk=>hk.2) _) (fun _ h_=>h_.1))))) (Kd.R_lt (by (with_reducible repeat (first | apply Kd.R_alloc | apply Kd.R_drewN | apply Kd.R_drew));exact (Kd.R_mono (Kd.R_far (Kd.R_far (Kd.R_far (Kd.R_types HO_492001.out BK491.out (by decide)) (fun _ hk=>hk.2) _) (fun _ hk=>hk.2) _) (fun _ hk=>hk.2) _) (fun _ h_=>h_.1))))) (Kd.R_lt (by (with_reducible repeat (first | apply Kd.R_alloc | apply Kd.R_drewN | apply Kd.R_drew));exact (Kd.R_mono (Kd.R_far (Kd.R_far (Kd.R_far (Kd.R_types HO_492003.out BK491.out (by decide)) (fun _ hk=>hk.2) _) (fun _ hk=>hk.2) _) (fun _ hk=>hk.2) _) (fun _ h_=>h_.1))))) (Kd.R_lt (by (with_reducible repeat (first | apply Kd.R_alloc | apply Kd.R_drewN | apply Kd.R_drew));exact (Kd.R_mono (Kd.R_far (Kd.R_far (Kd.R_far (Kd.R_types HO498.out BK491.out (by decide)) (fun _ hk=>hk.2) _) (fun _ hk=>hk.2) _) (fun _ hk=>hk.2) _) (fun _ h_=>h_.1))))) (Kd.R_lt (by (with_reducible repeat (first | apply Kd.R_alloc | apply Kd.R_drewN | apply Kd.R_drew));exact (Kd.R_mono (Kd.R_far (Kd.R_far (Kd.R_far (Kd.R_types HO502.out BK491.out (by decide)) (fun _ hk=>hk.2) _) (fun _ hk=>hk.2) _) (fun _ hk=>hk.2) _) (fun _ h_=>h_.1))))) (below_size (mb HB)));have n6_:=Az (Kd.R_lower (Kd.R_new' (Kd.R_new' (Kd.R_new' (Kd.R_new' (Kd.R_new' ho1 (Kd.R_lt (by (with_reducible repeat (first | apply Kd.R_alloc | apply Kd.R_drewN | apply Kd.R_drew));exact (Kd.R_mono (Kd.R_far (Kd.R_far (Kd.R_far (Kd.R_types HO_492000.out BK491.out (by decide)) (fun _ hk=>hk.2) _) (fun _ hk=>hk.2) _) (fun _ hk=>hk.2) _) (fun _ h_=>h_.1))))) (Kd.R_lt (by (with_reducible repeat (first | apply Kd.R_alloc | apply Kd.R_drewN | apply Kd.R_drew));exact (Kd.R_mono (Kd.R_far (Kd.R_far (Kd.R_far (Kd.R_types HO_492001.out BK491.out (by decide)) (fun _ hk=>hk.2) _) (fun _ hk=>hk.2) _) (fun _ hk=>hk.2) _) (fun _ h_=>h_.1))))) (Kd.R_lt (by (with_reducible repeat (first | apply Kd.R_alloc | apply Kd.R_drewN | apply Kd.R_drew));exact (Kd.R_mono (Kd.R_far (Kd.R_far (Kd.R_far (Kd.R_types HO_492003.out BK491.out (by decide)) (fun _ hk=>hk.2) _) (fun _ hk=>hk.2) _) (fun _ hk=>hk.2) _) (fun _ h_=>h_.1))))) (Kd.R_lt (by (with_reducible repeat (first | apply Kd.R_alloc | apply Kd.R_drewN | apply Kd.R_drew));exact (Kd.R_mono (Kd.R_far (Kd.R_far (Kd.R_far (Kd.R_types HO498.out BK491.out (by decide)) (fun _ hk=>hk.2) _) (fun _ hk=>hk.2) _) (fun _ hk=>hk.2) _) (fun _ h_=>h_.1))))) (Kd.R_lt (by (with_reducible repeat (first | apply Kd.R_alloc | apply Kd.R_drewN | apply Kd.R_drew));exact (Kd.R_mono (Kd.R_far (Kd.R_far (Kd.R_far (Kd.R_types HO502.out BK491.out (by decide)) (fun _ hk=>hk.2) _) (fun _ hk=>hk.2) _) (fun _ hk=>hk.2) _) (fun _ h_=>h_.1))))) (below_size (mb HB)));have n7_:=Az (Kd.R_lower (Kd.R_new' (Kd.R_new' (Kd.R_new' (Kd.R_new' (Kd.R_new' ho2 (Kd.R_lt (by (with_reducible repeat (first | apply Kd.R_alloc | apply Kd.R_drewN | apply Kd.R_drew));exact (Kd.R_mono (Kd.R_far (Kd.R_far (Kd.R_far (Kd.R_types HO_492000.out BK491.out (by decide)) (fun _ hk=>hk.2) _) (fun _ hk=>hk.2) _) (fun _ hk=>hk.2) _) (fun _ h_=>h_.1))))) (Kd.R_lt (by (with_reducible repeat (first | apply Kd.R_alloc | apply Kd.R_drewN | apply Kd.R_drew));exact (Kd.R_mono (Kd.R_far (Kd.R_far (Kd.R_far (Kd.R_types HO_492001.out BK491.out (by decide)) (fun _ hk=>hk.2) _) (fun _ hk=>hk.2) _) (fun _ hk=>hk.2) _) (fun _ h_=>h_.1))))) (Kd.R_lt (by (with_reducible repeat (first | apply Kd.R_alloc | apply Kd.R_drewN | apply Kd.R_drew));exact (Kd.R_mono (Kd.R_far (Kd.R_far (Kd.R_far (Kd.R_types HO_492003.out BK491.out (by decide)) (fun _ hk=>hk.2) _) (fun _ hk=>hk.2) _) (fun _ hk=>hk.2) _) (fun _ h_=>h_.1))))) (Kd.R_lt (by (with_reducible repeat (first | apply Kd.R_alloc | apply Kd.R_drewN | apply Kd.R_drew));exact (Kd.R_mono (Kd.R_far (Kd.R_far (Kd.R_far (Kd.R_types HO498.out BK491.out (by decide)) (fun _ hk=>hk.2) _) (fun _ hk=>hk.2) _) (fun _ hk=>hk.2) _) (fun _ h_=>h_.1))))) (Kd.R_lt (by (with_reducible repeat (first | apply Kd.R_alloc | apply Kd.R_drewN | apply Kd.R_drew));exact (Kd.R_mono (Kd.R_far (Kd.R_far (Kd.R_far (Kd.R_types HO502.out BK491.out (by decide)) (fun _ hk=>hk.2) _) (fun _ hk=>hk.2) _) (fun _ hk=>hk.2) _) (fun _ h_=>h_.1))))) (below_size (mb HB)));have n8_:=Az (blk_below (g:=gb479) (o:=.cells #[.slice A0_0 l0_0.length c0_0,.slice A0_1 l0_1.length c0_1,.int .i64 a0_2,.slice A0_3 l0_3.length c0_3] 28 (0,0)) (by refine ms ?_;refine blk_far ?_ NB479_491.out _;refine ms ?_;refine blk_far ?_ NB479_491.out _;refine ms ?_;refine blk_far ?_ NB479_491.out _;refine ms ?_;exact BK479.out) hb);have n9_:=Az (blk_below (g:=gb480) (o:=.cells #[.slice none 0 0,.slice none 0 0,.int .i64 0,.slice none 0 0] 28 (0,0)) (by refine ms ?_;refine blk_far ?_ NB480_491.out _;refine ms ?_;refine blk_far ?_ NB480_491.out _;refine ms ?_;refine blk_far ?_ NB480_491.out _;refine ms ?_;exact BK480.out) hb);have n10_:=Az (blk_below (g:=gb491) (o:=.cells #[.slice Ao14 t481.length co14,.slice Ao68 t496.length co68,.int .i64 t499,.slice Ao71 t500.length co71] 28 (0,0)) (by refine ms ?_;refine blk_put (cs:=#[.slice Ao14 t481.length co14,.slice Ao68 t496.length co68,.int .i64 t499,.slice Ao19 t488.length co19]) ?_ 3 _ rfl;refine ms ?_;refine blk_put (cs:=#[.slice Ao14 t481.length co14,.slice Ao68 t496.length co68,.int .i64 t487,.slice Ao19 t488.length co19]) ?_ 2 _ rfl;refine ms ?_;refine blk_put (cs:=#[.slice Ao14 t481.length co14,.slice Ao18 t484.length co18,.int .i64 t487,.slice Ao19 t488.length co19]) ?_ 1 _ rfl;refine ms ?_;exact BK491.out) hb);have n11_:=Az (below_step (mb HB) hb);clear HO_492000 HO_492001 HO_492003 HO498 HO502 BK479 BK480 BK491 HB;have HO_492000:=n0_;have HO_492001:=n1_;have HO_492003:=n2_;have HO498:=n3_;have HO502:=n4_;have HO507:=n5_;have HO510:=n6_;have HO514:=n7_;have BK479:=n8_;have BK480:=n9_;have BK491:=n10_;have HB:=n11_;clear n0_ n1_ n2_ n3_ n4_ n5_ n6_ n7_ n8_ n9_ n10_ n11_;(try clear hb);(try clear hb2);(try clear hk);(try clear hi);(try clear ho0);(try clear ho1);(try clear ho2);obtain ⟨Ao74,co74,eo74⟩:=Kd.R_slice HO507.out;subst eo74;have hcz75_0:=bz0 BK480;have hcz75_1:=bz1 BK480;have hcz75_2:=bz2 BK480;have hcz75_3:=bz3 BK480;have hfz75_0:=bf BK480 0;have hfz75_1:=bf BK480 1;have hfz75_2:=bf BK480 2;have hfz75_3:=bf BK480 3;obtain ⟨Ao76,co76,eo76⟩:=Kd.R_slice HO510.out;subst eo76;obtain ⟨Ao77,co77,eo77⟩:=Kd.R_slice HO514.out;subst eo77))
        refine bodyPost_ret (results_ctt rfl _ _ gb480 28 #[.slice Ao74 t505.length co74,.slice Ao76 t508.length co76,.int .i64 t511,.slice Ao77 t512.length co77] (0,0) _ rfl (by refine ms ?_;refine blk_put (cs:=#[.slice Ao74 t505.length co74,.slice Ao76 t508.length co76,.int .i64 t511,.slice none 0 0]) ?_ 3 _ rfl;refine ms ?_;refine blk_put (cs:=#[.slice Ao74 t505.length co74,.slice Ao76 t508.length co76,.int .i64 0,.slice none 0 0]) ?_ 2 _ rfl;refine ms ?_;refine blk_put (cs:=#[.slice Ao74 t505.length co74,.slice none 0 0,.int .i64 0,.slice none 0 0]) ?_ 1 _ rfl;refine ms ?_;refine blk_put (cs:=#[.slice none 0 0,.slice none 0 0,.int .i64 0,.slice none 0 0]) ?_ 0 _ rfl;refine ms ?_;exact BK480.out) Try.underlying28 rfl (by kernel_rfl)) rfl ?_
        exact ⟨_,_,_,by first | rfl | (simp [errW_none,errW_some] <;> rfl) | (simp [*,errW_none,errW_some] <;> rfl),by (with_reducible repeat (first | apply Kd.R_alloc | apply Kd.R_drewN | apply Kd.R_drew));exact Kd.R_mono (Kd.R_far (Kd.R_far (Kd.R_far (Kd.R_far (Kd.R_types HO507.out BK480.out (by decide)) (fun _ hk=>hk.2) _) (fun _ hk=>hk.2) _) (fun _ hk=>hk.2) _) (fun _ hk=>hk.2) _) (fun _ hk=>⟨hk.1.1.1.1.1.1.1,hk.1.1.1.1.1.1.2⟩),by (with_reducible repeat (first | apply Kd.R_alloc | apply Kd.R_drewN | apply Kd.R_drew));exact Kd.R_mono (Kd.R_far (Kd.R_far (Kd.R_far (Kd.R_far (Kd.R_types HO510.out BK480.out (by decide)) (fun _ hk=>hk.2) _) (fun _ hk=>hk.2) _) (fun _ hk=>hk.2) _) (fun _ hk=>hk.2) _) (fun _ hk=>⟨hk.1.1.1.1.1.1.1,hk.1.1.1.1.1.1.2⟩),by (with_reducible repeat (first | apply Kd.R_alloc | apply Kd.R_drewN | apply Kd.R_drew));exact Kd.R_mono (Kd.R_far (Kd.R_far (Kd.R_far (Kd.R_far (Kd.R_types HO514.out BK480.out (by decide)) (fun _ hk=>hk.2) _) (fun _ hk=>hk.2) _) (fun _ hk=>hk.2) _) (fun _ hk=>hk.2) _) (fun _ hk=>⟨hk.1.1.1.1.1.1.1,hk.1.1.1.1.1.1.2⟩),mb HB⟩
      ·replace c51:=Bool.eq_false_iff.mpr c51
       subst c51
       have H1:(if t495 = 1 then (impl_ModelDo.j2 kj48 a1 a2 a3 a4 false true l0_0 l0_1 a0_2 l0_3 t481 t484 t487 t488) else (impl_ModelDo.j2 kj48 a1 a2 a3 a4 false (t495 == 2) l0_0 l0_1 a0_2 l0_3 t481 t484 t487 t488)) = some (r1,r2,r3,r4,r5,r6):=by rw [if_neg (show ¬ (false = true) by decide)] at H;exact H
       clear H
       have H:=H1
       clear H1
       have HC78:=Aside0.mk H
       clear H
       go_upto_region 8 with (fail)
       go_cut [58] (fun v58 wc=>∃ (kq:Nat) (x58_77:Bool),v58 = .bool x58_77 ∧ Aside0 (impl_ModelDo.j2 kq a1 a2 a3 a4 false x58_77 l0_0 l0_1 a0_2 l0_3 t481 t484 t487 t488 = some (r1,r2,r3,r4,r5,r6)) ∧ Aside0 (kq ≤ kj48) ∧ Aside0 (Kd.R (Kd.int .i64) 3 wc w.heap.size (fun k_=>some k_ ≠ ((.slice Ao18 t484.length co18):Value).ownBlock ∧ some k_ ≠ ((.slice Ao19 t488.length co19):Value).ownBlock) (.slice Ao14 t481.length co14) t481) ∧ Aside0 (Kd.R (Kd.int .i64) 3 wc w.heap.size (fun k_=>some k_ ≠ ((.slice Ao14 t481.length co14):Value).ownBlock ∧ some k_ ≠ ((.slice Ao19 t488.length co19):Value).ownBlock) (.slice Ao18 t484.length co18) t484) ∧ Aside0 (Kd.R (Kd.int .i64) 3 wc w.heap.size (fun k_=>some k_ ≠ ((.slice Ao14 t481.length co14):Value).ownBlock ∧ some k_ ≠ ((.slice Ao18 t484.length co18):Value).ownBlock) (.slice Ao19 t488.length co19) t488) ∧ Aside0 (wc.heap[gb479]? = some (.cells #[(.slice A0_0 l0_0.length c0_0),(.slice A0_1 l0_1.length c0_1),.int .i64 a0_2,(.slice A0_3 l0_3.length c0_3)] 28 (0,0))) ∧ Aside0 (wc.heap[gb480]? = some (.cells #[(.slice none 0 0),(.slice none 0 0),.int .i64 0,(.slice none 0 0)] 28 (0,0))) ∧ Aside0 (wc.heap[gb491]? = some (.cells #[(.slice Ao14 t481.length co14),(.slice Ao18 t484.length co18),.int .i64 t487,(.slice Ao19 t488.length co19)] 28 (0,0))) ∧ Aside0 (Below w.heap.size w wc))
       case first =>
        have H:=HC78.out
        clear HC78
        by_cases c79:t495 = 1
        ·rw [if_pos c79] at H
         have c79b0:(t495 == 1) = true:=beq_iff_eq.mpr c79
         have c79b1:(t495 != 1) = false:=bne_eq_false_iff_eq.mpr c79
         clear c79
         (first | rw [c79b0] | (simp only [i64_w,i32_w];rw [c79b0]) | skip)
         have H':=Aside0.mk H
         clear H
         go_wp2
         go_meet
         case rel=>exact ⟨_,(true),(by first | rfl | (simp;done) | (simp [*];done)),H',⟨by have:=HJ6.out;have:=HJ48.out;first | omega | exact Nat.le_refl _⟩,⟨mr HO_492000⟩,⟨mr HO_492001⟩,⟨mr HO_492003⟩,⟨mz BK479⟩,⟨mz BK480⟩,⟨mz BK491⟩,⟨mb HB⟩⟩
        ·rw [if_neg c79] at H
         have c79b0:(t495 == 1) = false:=beq_eq_false_iff_ne.mpr c79
         have c79b1:(t495 != 1) = true:=bne_iff_ne.mpr c79
         (first | rw [c79b0] | (simp only [i64_w,i32_w];rw [c79b0]) | skip)
         have H':=Aside0.mk H
         clear H
         go_wp2
         go_meet
         case rel=>exact ⟨_,((t495 == 2)),(by first | rfl | (simp;done) | (simp [*];done)),H',⟨by have:=HJ6.out;have:=HJ48.out;first | omega | exact Nat.le_refl _⟩,⟨mr HO_492000⟩,⟨mr HO_492001⟩,⟨mr HO_492003⟩,⟨mz BK479⟩,⟨mz BK480⟩,⟨mz BK491⟩,⟨mb HB⟩⟩
       case rest =>
        clear HC78
        try clear c42
        try clear c51
        try clear hcz11_0
        try clear hcz11_1
        try clear hcz11_2
        try clear hcz11_3
        try clear hcz17_0
        try clear hcz17_1
        try clear hcz17_2
        try clear hcz17_3
        try clear hfz11_0
        try clear hfz11_1
        try clear hfz11_2
        try clear hfz11_3
        try clear hfz17_0
        try clear hfz17_1
        try clear hfz17_2
        try clear hfz17_3
        obtain ⟨kq,x58_77,rfl,HA,HJ77,HO_492000,HO_492001,HO_492003,BK479,BK480,BK491,HB⟩:=hcut
        cases kq with
        | zero=>exact absurd HA.out (by simp [impl_ModelDo.j2])
        | succ kj77 =>
         have H:=HA.out
         clear HA
         simp only [impl_ModelDo.j2] at H
         by_cases c80:x58_77 = true
         ·subst c80
          have H1:(if a1 = true then ((impl_PutNum.f kj77 l0_0 a2 a3 a4).bind fun bt515=>(if bt515.2 = true then (some (bt515.1,t484,t487,t488,a4,0)) else ((impl_ownModel.f l0_0 l0_1 a0_2 l0_3).bind fun bt519=>(some (bt519.1,bt519.2.1,bt519.2.2.1,bt519.2.2.2,0,1))))) else ((impl_GetNum.f kj77 l0_0 a2 a3).bind fun bt529=>(if bt529.2 = true then (some (t481,t484,t487,t488,bt529.1,0)) else ((impl_ownModel.f l0_0 l0_1 a0_2 l0_3).bind fun bt531=>(some (bt531.1,bt531.2.1,bt531.2.2.1,bt531.2.2.2,0,1)))))) = some (r1,r2,r3,r4,r5,r6):=by rw [if_pos rfl] at H;exact H
          clear H
          have H:=H1
          clear H1
          by_cases c81:a1 = true
          ·subst c81
           have H1:((impl_PutNum.f kj77 l0_0 a2 a3 a4).bind fun bt515=>(if bt515.2 = true then (some (bt515.1,t484,t487,t488,a4,0)) else ((impl_ownModel.f l0_0 l0_1 a0_2 l0_3).bind fun bt519=>(some (bt519.1,bt519.2.1,bt519.2.2.1,bt519.2.2.2,0,1))))) = some (r1,r2,r3,r4,r5,r6):=by rw [if_pos rfl] at H;exact H
           clear H
           have H:=H1
           clear H1
           replace H:=Option.bind_eq_some_iff.mp H
           obtain ⟨⟨t515,t516⟩,A820,H⟩:=H
           replace H:(if t516 = true then (some (t515,t484,t487,t488,a4,0)) else ((impl_ownModel.f l0_0 l0_1 a0_2 l0_3).bind fun bt519=>(some (bt519.1,bt519.2.1,bt519.2.2.1,bt519.2.2.2,0,1)))) = some (r1,r2,r3,r4,r5,r6):=H
           have A82:=Aside0.mk A820
           clear A820
           by_cases c83:t516 = true
           ·subst c83
            have H1:(some (t515,t484,t487,t488,a4,0)) = some (r1,r2,r3,r4,r5,r6):=by rw [if_pos rfl] at H;exact H
            clear H
            have H:=H1
            clear H1
            simp only [Option.some.injEq,Prod.mk.injEq] at H
            obtain ⟨rfl,rfl,rfl,rfl,rfl,rfl⟩:=H
            have hnb84:=NB479_480.out
            have hnc84:=NB480_479.out
            have hnb85:=NB479_491.out
            have hnc85:=NB491_479.out
            have hcz86_0:=bz0 BK479
            have hcz86_1:=bz1 BK479
            have hcz86_2:=bz2 BK479
            have hcz86_3:=bz3 BK479
            have hfz86_0:=bf BK479 0
            have hfz86_1:=bf BK479 1
            have hfz86_2:=bf BK479 2
            have hfz86_3:=bf BK479 3
            go_wp2_with (first | ((with_reducible refine gate_callee (f:=53) rfl ?_);refine goesL_ (some 72) rfl rfl Try.func53 (by kernel_rfl) rfl #[.slice A0_0 l0_0.length c0_0,.int .i64 a2,.int .i64 a3,.int .i64 a4] rfl ml ?_;(with_reducible refine (impl_PutNum.calls kj77 _ _ l0_0 a2 a3 a4 t515 true _ ?side1 ?side2 A82.out).mono ?_);(case side1=>exact mc (Kd.C_below HR0_0.out HB.out));(case side2=>exact HC0_0.out);rintro e w87 ⟨v517,rfl,ho0,hb⟩;refine ⟨_,rfl,?_⟩;have n0_:=Az (Kd.R_elder' (mr HO_492000) (Kd.R_base ho0) hb);have n1_:=Az (Kd.R_elder' (mr HO_492001) (Kd.R_base ho0) hb);have n2_:=Az (Kd.R_elder' (mr HO_492003) (Kd.R_base ho0) hb);have n3_:=Az (Kd.R_lower (Kd.R_new' (Kd.R_new' (Kd.R_new' ho0 (Kd.R_lt (mr HO_492000))) (Kd.R_lt (mr HO_492001))) (Kd.R_lt (mr HO_492003))) (below_size (mb HB)));have n4_:=Az (blk_below (mz BK479) hb);have n5_:=Az (blk_below (mz BK480) hb);have n6_:=Az (blk_below (mz BK491) hb);have n7_:=Az (below_step (mb HB) hb);clear HO_492000 HO_492001 HO_492003 BK479 BK480 BK491 HB;have HO_492000:=n0_;have HO_492001:=n1_;have HO_492003:=n2_;have HO518:=n3_;have BK479:=n4_;have BK480:=n5_;have BK491:=n6_;have HB:=n7_;clear n0_ n1_ n2_ n3_ n4_ n5_ n6_ n7_;(try clear hb);(try clear hb2);(try clear hk);(try clear hi);(try clear ho0);obtain ⟨Ao88,co88,eo88⟩:=Kd.R_slice HO518.out;subst eo88;have hnb89:=NB491_480.out;have hnc89:=NB480_491.out;have hcz90_0:=bz0 BK491;have hcz90_1:=bz1 BK491;have hcz90_2:=bz2 BK491;have hcz90_3:=bz3 BK491;have hfz90_0:=bf BK491 0;have hfz90_1:=bf BK491 1;have hfz90_2:=bf BK491 2;have hfz90_3:=bf BK491 3;have hcz91_0:=bz0 BK480;have hcz91_1:=bz1 BK480;have hcz91_2:=bz2 BK480;have hcz91_3:=bz3 BK480;have hfz91_0:=bf BK480 0;have hfz91_1:=bf BK480 1;have hfz91_2:=bf BK480 2;have hfz91_3:=bf BK480 3))
            refine bodyPost_ret (results_ctt rfl _ _ gb480 28 #[.slice Ao88 t515.length co88,.slice Ao18 t484.length co18,.int .i64 t487,.slice Ao19 t488.length co19] (0,0) _ rfl (by refine ms ?_;refine blk_put (cs:=#[.slice Ao88 t515.length co88,.slice Ao18 t484.length co18,.int .i64 t487,.slice none 0 0]) ?_ 3 _ rfl;refine ms ?_;refine blk_put (cs:=#[.slice Ao88 t515.length co88,.slice Ao18 t484.length co18,.int .i64 0,.slice none 0 0]) ?_ 2 _ rfl;refine ms ?_;refine blk_put (cs:=#[.slice Ao88 t515.length co88,.slice none 0 0,.int .i64 0,.slice none 0 0]) ?_ 1 _ rfl;refine ms ?_;refine blk_put (cs:=#[.slice none 0 0,.slice none 0 0,.int .i64 0,.slice none 0 0]) ?_ 0 _ rfl;refine ms ?_;refine blk_far ?_ NB480_491.out _;refine ms ?_;exact BK480.out) Try.underlying28 rfl (by kernel_rfl)) rfl ?_
            exact ⟨_,_,_,by first | rfl | (simp [errW_none,errW_some] <;> rfl) | (simp [*,errW_none,errW_some] <;> rfl),by (with_reducible repeat (first | apply Kd.R_alloc | apply Kd.R_drewN | apply Kd.R_drew));exact Kd.R_mono (Kd.R_far (Kd.R_far (Kd.R_far (Kd.R_far (Kd.R_far (Kd.R_types (Kd.R_types HO518.out BK491.out (by decide)) BK480.out (by decide)) (fun _ hk=>hk.1.2) _) (fun _ hk=>hk.2) _) (fun _ hk=>hk.2) _) (fun _ hk=>hk.2) _) (fun _ hk=>hk.2) _) (fun _ hk=>⟨hk.1.1.1.2,hk.1.1.2⟩),by (with_reducible repeat (first | apply Kd.R_alloc | apply Kd.R_drewN | apply Kd.R_drew));exact Kd.R_mono (Kd.R_far (Kd.R_far (Kd.R_far (Kd.R_far (Kd.R_far (Kd.R_types (Kd.R_types HO_492001.out BK491.out (by decide)) BK480.out (by decide)) (fun _ hk=>hk.1.2) _) (fun _ hk=>hk.2) _) (fun _ hk=>hk.2) _) (fun _ hk=>hk.2) _) (fun _ hk=>hk.2) _) (fun _ hk=>⟨hk.1.1.2,hk.1.1.1.2⟩),by (with_reducible repeat (first | apply Kd.R_alloc | apply Kd.R_drewN | apply Kd.R_drew));exact Kd.R_mono (Kd.R_far (Kd.R_far (Kd.R_far (Kd.R_far (Kd.R_far (Kd.R_types (Kd.R_types HO_492003.out BK491.out (by decide)) BK480.out (by decide)) (fun _ hk=>hk.1.2) _) (fun _ hk=>hk.2) _) (fun _ hk=>hk.2) _) (fun _ hk=>hk.2) _) (fun _ hk=>hk.2) _) (fun _ hk=>⟨hk.1.1.2,hk.1.1.1.2⟩),mb HB⟩
           ·replace c83:=Bool.eq_false_iff.mpr c83
            subst c83
            have H1:((impl_ownModel.f l0_0 l0_1 a0_2 l0_3).bind fun bt519=>(some (bt519.1,bt519.2.1,bt519.2.2.1,bt519.2.2.2,0,1))) = some (r1,r2,r3,r4,r5,r6):=by rw [if_neg (show ¬ (false = true) by decide)] at H;exact H
            clear H
            have H:=H1
            clear H1
            replace H:=Option.bind_eq_some_iff.mp H
            obtain ⟨⟨t519,t522,t525,t526⟩,A920,H⟩:=H
            replace H:(some (t519,t522,t525,t526,0,1)) = some (r1,r2,r3,r4,r5,r6):=H
            have A92:=Aside0.mk A920
            clear A920
            simp only [Option.some.injEq,Prod.mk.injEq] at H
            obtain ⟨rfl,rfl,rfl,rfl,rfl,rfl⟩:=H
            have hnb93:=NB479_480.out
            have hnc93:=NB480_479.out
            have hnb94:=NB479_491.out
            have hnc94:=NB491_479.out
            have hcz95_0:=bz0 BK479
            have hcz95_1:=bz1 BK479
            have hcz95_2:=bz2 BK479
            have hcz95_3:=bz3 BK479
            have hfz95_0:=bf BK479 0
            have hfz95_1:=bf BK479 1
            have hfz95_2:=bf BK479 2
            have hfz95_3:=bf BK479 3
            go_wp2_with (first | ((with_reducible refine gate_callee (f:=53) rfl ?_);refine goesL_ (some 72) rfl rfl Try.func53 (by kernel_rfl) rfl #[.slice A0_0 l0_0.length c0_0,.int .i64 a2,.int .i64 a3,.int .i64 a4] rfl ml ?_;(with_reducible refine (impl_PutNum.calls kj77 _ _ l0_0 a2 a3 a4 t515 false _ ?side1 ?side2 A82.out).mono ?_);(case side1=>exact mc (Kd.C_below HR0_0.out HB.out));(case side2=>exact HC0_0.out);rintro e w96 ⟨v517,rfl,ho0,hb⟩;refine ⟨_,rfl,?_⟩;have n0_:=Az (Kd.R_elder' (mr HO_492000) (Kd.R_base ho0) hb);have n1_:=Az (Kd.R_elder' (mr HO_492001) (Kd.R_base ho0) hb);have n2_:=Az (Kd.R_elder' (mr HO_492003) (Kd.R_base ho0) hb);have n3_:=Az (Kd.R_lower (Kd.R_new' (Kd.R_new' (Kd.R_new' ho0 (Kd.R_lt (mr HO_492000))) (Kd.R_lt (mr HO_492001))) (Kd.R_lt (mr HO_492003))) (below_size (mb HB)));have n4_:=Az (blk_below (mz BK479) hb);have n5_:=Az (blk_below (mz BK480) hb);have n6_:=Az (blk_below (mz BK491) hb);have n7_:=Az (below_step (mb HB) hb);clear HO_492000 HO_492001 HO_492003 BK479 BK480 BK491 HB;have HO_492000:=n0_;have HO_492001:=n1_;have HO_492003:=n2_;have HO518:=n3_;have BK479:=n4_;have BK480:=n5_;have BK491:=n6_;have HB:=n7_;clear n0_ n1_ n2_ n3_ n4_ n5_ n6_ n7_;(try clear hb);(try clear hb2);(try clear hk);(try clear hi);(try clear ho0);obtain ⟨Ao97,co97,eo97⟩:=Kd.R_slice HO518.out;subst eo97;have hnb98:=NB491_480.out;have hnc98:=NB480_491.out;have hcz99_0:=bz0 BK491;have hcz99_1:=bz1 BK491;have hcz99_2:=bz2 BK491;have hcz99_3:=bz3 BK491;have hfz99_0:=bf BK491 0;have hfz99_1:=bf BK491 1;have hfz99_2:=bf BK491 2;have hfz99_3:=bf BK491 3;have hcz100_0:=bz0 BK479;have hcz100_1:=bz1 BK479;have hcz100_2:=bz2 BK479;have hcz100_3:=bz3 BK479;have hfz100_0:=bf BK479 0;have hfz100_1:=bf BK479 1;have hfz100_2:=bf BK479 2;have hfz100_3:=bf BK479 3) | ((with_reducible refine gate_callee (f:=49) rfl ?_);refine goesL_ (some 87) rfl rfl Try.func49 (by kernel_rfl) rfl #[.agg #[.slice A0_0 l0_0.length c0_0,.slice A0_1 l0_1.length c0_1,.int .i64 a0_2,.slice A0_3 l0_3.length c0_3]] rfl ml ?_;(with_reducible refine (impl_ownModel.calls _ _ l0_0 _ _ l0_1 a0_2 _ _ l0_3 t519 t522 t525 t526 _ ?side1 ?side2 ?side3 ?side4 ?side5 ?side6 A92.out).mono ?_);(case side1=>exact Kd.C_below HR0_0.out (mb HB));(case side2=>exact HC0_0.out);(case side3=>exact Kd.C_below HR0_1.out (mb HB));(case side4=>exact HC0_1.out);(case side5=>exact Kd.C_below HR0_3.out (mb HB));(case side6=>exact HC0_3.out);rintro e w101 ⟨v520,v523,v527,rfl,ho0,ho1,ho2,hb⟩;refine ⟨_,rfl,?_⟩;have n0_:=Az (Kd.R_mono (Kd.R_told (Kd.R_told (Kd.R_told (Kd.R_old (by (with_reducible repeat (first | apply Kd.R_alloc | apply Kd.R_drewN | apply Kd.R_drew));exact (Kd.R_mono (Kd.R_far (Kd.R_types HO_492000.out BK491.out (by decide)) (fun _ hk=>hk.2) _) (fun _ h_=>h_.1))) hb) (Kd.R_base ho0)) (Kd.R_base ho1)) (Kd.R_base ho2)) (fun _ h_=>h_.1));have n1_:=Az (Kd.R_mono (Kd.R_told (Kd.R_told (Kd.R_told (Kd.R_old (by (with_reducible repeat (first | apply Kd.R_alloc | apply Kd.R_drewN | apply Kd.R_drew));exact (Kd.R_mono (Kd.R_far (Kd.R_types HO_492001.out BK491.out (by decide)) (fun _ hk=>hk.2) _) (fun _ h_=>h_.1))) hb) (Kd.R_base ho0)) (Kd.R_base ho1)) (Kd.R_base ho2)) (fun _ h_=>h_.1));have n2_:=Az (Kd.R_mono (Kd.R_told (Kd.R_told (Kd.R_told (Kd.R_old (by (with_reducible repeat (first | apply Kd.R_alloc | apply Kd.R_drewN | apply Kd.R_drew));exact (Kd.R_mono (Kd.R_far (Kd.R_types HO_492003.out BK491.out (by decide)) (fun _ hk=>hk.2) _) (fun _ h_=>h_.1))) hb) (Kd.R_base ho0)) (Kd.R_base ho1)) (Kd.R_base ho2)) (fun _ h_=>h_.1));have n3_:=Az (Kd.R_mono (Kd.R_told (Kd.R_told (Kd.R_told (Kd.R_old (by (with_reducible repeat (first | apply Kd.R_alloc | apply Kd.R_drewN | apply Kd.R_drew));exact (Kd.R_mono (Kd.R_far (Kd.R_types HO518.out BK491.out (by decide)) (fun _ hk=>hk.2) _) (fun _ h_=>h_.1))) hb) (Kd.R_base ho0)) (Kd.R_base ho1)) (Kd.R_base ho2)) (fun _ h_=>h_.1));have n4_:=Az (Kd.R_lower (Kd.R_new' (Kd.R_new' (Kd.R_new' (Kd.R_new' ho0 (Kd.R_lt (by (with_reducible repeat (first | apply Kd.R_alloc | apply Kd.R_drewN | apply Kd.R_drew));exact (Kd.R_mono (Kd.R_far (Kd.R_types HO_492000.out BK491.out (by decide)) (fun _ hk=>hk.2) _) (fun _ h_=>h_.1))))) (Kd.R_lt (by (with_reducible repeat (first | apply Kd.R_alloc | apply Kd.R_drewN | apply Kd.R_drew));exact (Kd.R_mono (Kd.R_far (Kd.R_types HO_492001.out BK491.out (by decide)) (fun _ hk=>hk.2) _) (fun _ h_=>h_.1))))) (Kd.R_lt (by (with_reducible repeat (first | apply Kd.R_alloc | apply Kd.R_drewN | apply Kd.R_drew));exact (Kd.R_mono (Kd.R_far (Kd.R_types HO_492003.out BK491.out (by decide)) (fun _ hk=>hk.2) _) (fun _ h_=>h_.1))))) (Kd.R_lt (by (with_reducible repeat (first | apply Kd.R_alloc | apply Kd.R_drewN | apply Kd.R_drew));exact (Kd.R_mono (Kd.R_far (Kd.R_types HO518.out BK491.out (by decide)) (fun _ hk=>hk.2) _) (fun _ h_=>h_.1))))) (below_size (mb HB)));have n5_:=Az (Kd.R_lower (Kd.R_new' (Kd.R_new' (Kd.R_new' (Kd.R_new' ho1 (Kd.R_lt (by (with_reducible repeat (first | apply Kd.R_alloc | apply Kd.R_drewN | apply Kd.R_drew));exact (Kd.R_mono (Kd.R_far (Kd.R_types HO_492000.out BK491.out (by decide)) (fun _ hk=>hk.2) _) (fun _ h_=>h_.1))))) (Kd.R_lt (by (with_reducible repeat (first | apply Kd.R_alloc | apply Kd.R_drewN | apply Kd.R_drew));exact (Kd.R_mono (Kd.R_far (Kd.R_types HO_492001.out BK491.out (by decide)) (fun _ hk=>hk.2) _) (fun _ h_=>h_.1))))) (Kd.R_lt (by (with_reducible repeat (first | apply Kd.R_alloc | apply Kd.R_drewN | apply Kd.R_drew));exact (Kd.R_mono (Kd.R_far (Kd.R_types HO_492003.out BK491.out (by decide)) (fun _ hk=>hk.2) _) (fun _ h_=>h_.1))))) (Kd.R_lt (by (with_reducible repeat (first | apply Kd.R_alloc | apply Kd.R_drewN | apply Kd.R_drew));exact (Kd.R_mono (Kd.R_far (Kd.R_types HO518.out BK491.out (by decide)) (fun _ hk=>hk.2) _) (fun _ h_=>h_.1))))) (below_size (mb HB)));have n6_:=Az (Kd.R_lower (Kd.R_new' (Kd.R_new' (Kd.R_new' (Kd.R_new' ho2 (Kd.R_lt (by (with_reducible repeat (first | apply Kd.R_alloc | apply Kd.R_drewN | apply Kd.R_drew));exact (Kd.R_mono (Kd.R_far (Kd.R_types HO_492000.out BK491.out (by decide)) (fun _ hk=>hk.2) _) (fun _ h_=>h_.1))))) (Kd.R_lt (by (with_reducible repeat (first | apply Kd.R_alloc | apply Kd.R_drewN | apply Kd.R_drew));exact (Kd.R_mono (Kd.R_far (Kd.R_types HO_492001.out BK491.out (by decide)) (fun _ hk=>hk.2) _) (fun _ h_=>h_.1))))) (Kd.R_lt (by (with_reducible repeat (first | apply Kd.R_alloc | apply Kd.R_drewN | apply Kd.R_drew));exact (Kd.R_mono (Kd.R_far (Kd.R_types HO_492003.out BK491.out (by decide)) (fun _ hk=>hk.2) _) (fun _ h_=>h_.1))))) (Kd.R_lt (by (with_reducible repeat (first | apply Kd.R_alloc | apply Kd.R_drewN | apply Kd.R_drew));exact (Kd.R_mono (Kd.R_far (Kd.R_types HO518.out BK491.out (by decide)) (fun _ hk=>hk.2) _) (fun _ h_=>h_.1))))) (below_size (mb HB)));have n7_:=Az (blk_below (g:=gb479) (o:=.cells #[.slice A0_0 l0_0.length c0_0,.slice A0_1 l0_1.length c0_1,.int .i64 a0_2,.slice A0_3 l0_3.length c0_3] 28 (0,0)) (by refine ms ?_;refine blk_far ?_ NB479_491.out _;refine ms ?_;exact BK479.out) hb);have n8_:=Az (blk_below (g:=gb480) (o:=.cells #[.slice none 0 0,.slice none 0 0,.int .i64 0,.slice none 0 0] 28 (0,0)) (by refine ms ?_;refine blk_far ?_ NB480_491.out _;refine ms ?_;exact BK480.out) hb);have n9_:=Az (blk_below (g:=gb491) (o:=.cells #[.slice Ao97 t515.length co97,.slice Ao18 t484.length co18,.int .i64 t487,.slice Ao19 t488.length co19] 28 (0,0)) (by refine ms ?_;refine blk_put (cs:=#[.slice Ao14 t481.length co14,.slice Ao18 t484.length co18,.int .i64 t487,.slice Ao19 t488.length co19]) ?_ 0 _ rfl;refine ms ?_;exact BK491.out) hb);have n10_:=Az (below_step (mb HB) hb);clear HO_492000 HO_492001 HO_492003 HO518 BK479 BK480 BK491 HB;have HO_492000:=n0_;have HO_492001:=n1_;have HO_492003:=n2_;have HO518:=n3_;have HO521:=n4_;have HO524:=n5_;have HO528:=n6_;have BK479:=n7_;have BK480:=n8_;have BK491:=n9_;have HB:=n10_;clear n0_ n1_ n2_ n3_ n4_ n5_ n6_ n7_ n8_ n9_ n10_;(try clear hb);(try clear hb2);(try clear hk);(try clear hi);(try clear ho0);(try clear ho1);(try clear ho2);obtain ⟨Ao102,co102,eo102⟩:=Kd.R_slice HO521.out;subst eo102;have hcz103_0:=bz0 BK480;have hcz103_1:=bz1 BK480;have hcz103_2:=bz2 BK480;have hcz103_3:=bz3 BK480;have hfz103_0:=bf BK480 0;have hfz103_1:=bf BK480 1;have hfz103_2:=bf BK480 2;have hfz103_3:=bf BK480 3;obtain ⟨Ao104,co104,eo104⟩:=Kd.R_slice HO524.out;subst eo104;obtain ⟨Ao105,co105,eo105⟩:=Kd.R_slice HO528.out;subst eo105))
            refine bodyPost_ret (results_ctt rfl _ _ gb480 28 #[.slice Ao102 t519.length co102,.slice Ao104 t522.length co104,.int .i64 t525,.slice Ao105 t526.length co105] (0,0) _ rfl (by refine ms ?_;refine blk_put (cs:=#[.slice Ao102 t519.length co102,.slice Ao104 t522.length co104,.int .i64 t525,.slice none 0 0]) ?_ 3 _ rfl;refine ms ?_;refine blk_put (cs:=#[.slice Ao102 t519.length co102,.slice Ao104 t522.length co104,.int .i64 0,.slice none 0 0]) ?_ 2 _ rfl;refine ms ?_;refine blk_put (cs:=#[.slice Ao102 t519.length co102,.slice none 0 0,.int .i64 0,.slice none 0 0]) ?_ 1 _ rfl;refine ms ?_;refine blk_put (cs:=#[.slice none 0 0,.slice none 0 0,.int .i64 0,.slice none 0 0]) ?_ 0 _ rfl;refine ms ?_;exact BK480.out) Try.underlying28 rfl (by kernel_rfl)) rfl ?_
            exact ⟨_,_,_,by first | rfl | (simp [errW_none,errW_some] <;> rfl) | (simp [*,errW_none,errW_some] <;> rfl),by (with_reducible repeat (first | apply Kd.R_alloc | apply Kd.R_drewN | apply Kd.R_drew));exact Kd.R_mono (Kd.R_far (Kd.R_far (Kd.R_far (Kd.R_far (Kd.R_types HO521.out BK480.out (by decide)) (fun _ hk=>hk.2) _) (fun _ hk=>hk.2) _) (fun _ hk=>hk.2) _) (fun _ hk=>hk.2) _) (fun _ hk=>⟨hk.1.1.1.1.1.1,hk.1.1.1.1.1.2⟩),by (with_reducible repeat (first | apply Kd.R_alloc | apply Kd.R_drewN | apply Kd.R_drew));exact Kd.R_mono (Kd.R_far (Kd.R_far (Kd.R_far (Kd.R_far (Kd.R_types HO524.out BK480.out (by decide)) (fun _ hk=>hk.2) _) (fun _ hk=>hk.2) _) (fun _ hk=>hk.2) _) (fun _ hk=>hk.2) _) (fun _ hk=>⟨hk.1.1.1.1.1.1,hk.1.1.1.1.1.2⟩),by (with_reducible repeat (first | apply Kd.R_alloc | apply Kd.R_drewN | apply Kd.R_drew));exact Kd.R_mono (Kd.R_far (Kd.R_far (Kd.R_far (Kd.R_far (Kd.R_types HO528.out BK480.out (by decide)) (fun _ hk=>hk.2) _) (fun _ hk=>hk.2) _) (fun _ hk=>hk.2) _) (fun _ hk=>hk.2) _) (fun _ hk=>⟨hk.1.1.1.1.1.1,hk.1.1.1.1.1.2⟩),mb HB⟩
          ·replace c81:=Bool.eq_false_iff.mpr c81
           subst c81
           have H1:((impl_GetNum.f kj77 l0_0 a2 a3).bind fun bt529=>(if bt529.2 = true then (some (t481,t484,t487,t488,bt529.1,0)) else ((impl_ownModel.f l0_0 l0_1 a0_2 l0_3).bind fun bt531=>(some (bt531.1,bt531.2.1,bt531.2.2.1,bt531.2.2.2,0,1))))) = some (r1,r2,r3,r4,r5,r6):=by rw [if_neg (show ¬ (false = true) by decide)] at H;exact H
           clear H
           have H:=H1
           clear H1
           replace H:=Option.bind_eq_some_iff.mp H
           obtain ⟨⟨t529,t530⟩,A1060,H⟩:=H
           replace H:(if t530 = true then (some (t481,t484,t487,t488,t529,0)) else ((impl_ownModel.f l0_0 l0_1 a0_2 l0_3).bind fun bt531=>(some (bt531.1,bt531.2.1,bt531.2.2.1,bt531.2.2.2,0,1)))) = some (r1,r2,r3,r4,r5,r6):=H
           have A106:=Aside0.mk A1060
           clear A1060
           by_cases c107:t530 = true
           ·subst c107
            have H1:(some (t481,t484,t487,t488,t529,0)) = some (r1,r2,r3,r4,r5,r6):=by rw [if_pos rfl] at H;exact H
            clear H
            have H:=H1
            clear H1
            simp only [Option.some.injEq,Prod.mk.injEq] at H
            obtain ⟨rfl,rfl,rfl,rfl,rfl,rfl⟩:=H
            have hnb108:=NB479_480.out
            have hnc108:=NB480_479.out
            have hnb109:=NB479_491.out
            have hnc109:=NB491_479.out
            have hcz110_0:=bz0 BK479
            have hcz110_1:=bz1 BK479
            have hcz110_2:=bz2 BK479
            have hcz110_3:=bz3 BK479
            have hfz110_0:=bf BK479 0
            have hfz110_1:=bf BK479 1
            have hfz110_2:=bf BK479 2
            have hfz110_3:=bf BK479 3
            go_wp2_with (first | ((with_reducible refine gate_callee (f:=54) rfl ?_);refine goesL_ (some 81) rfl rfl Try.func54 (by kernel_rfl) rfl #[.slice A0_0 l0_0.length c0_0,.int .i64 a2,.int .i64 a3] rfl ml ?_;(with_reducible refine (impl_GetNum.calls kj77 _ _ l0_0 a2 a3 t529 true _ ?side1 ?side2 A106.out).mono ?_);(case side1=>exact mc (Kd.C_below HR0_0.out HB.out));(case side2=>exact HC0_0.out);rintro e w' ⟨rfl,⟨nd,rfl⟩⟩;refine ⟨_,rfl,?_⟩;(try (rw [drewN_self wc];generalize hq_:World.drewN wc _ = wc;have n0_:Aside0 (Kd.R (Kd.int .i64) 3 wc w.heap.size (fun k_=>some k_ ≠ (.slice Ao18 t484.length co18:Value).ownBlock ∧ some k_ ≠ (.slice Ao19 t488.length co19:Value).ownBlock) (.slice Ao14 t481.length co14) t481):=⟨by rw [← hq_];exact (mr HO_492000)⟩;have n1_:Aside0 (Kd.R (Kd.int .i64) 3 wc w.heap.size (fun k_=>some k_ ≠ (.slice Ao14 t481.length co14:Value).ownBlock ∧ some k_ ≠ (.slice Ao19 t488.length co19:Value).ownBlock) (.slice Ao18 t484.length co18) t484):=⟨by rw [← hq_];exact (mr HO_492001)⟩;have n2_:Aside0 (Kd.R (Kd.int .i64) 3 wc w.heap.size (fun k_=>some k_ ≠ (.slice Ao14 t481.length co14:Value).ownBlock ∧ some k_ ≠ (.slice Ao18 t484.length co18:Value).ownBlock) (.slice Ao19 t488.length co19) t488):=⟨by rw [← hq_];exact (mr HO_492003)⟩;have n3_:Aside0 (wc.heap[gb479]? = some (.cells #[.slice A0_0 l0_0.length c0_0,.slice A0_1 l0_1.length c0_1,.int .i64 a0_2,.slice A0_3 l0_3.length c0_3] 28 (0,0))):=⟨by rw [← hq_];exact (mz BK479)⟩;have n4_:Aside0 (wc.heap[gb480]? = some (.cells #[.slice none 0 0,.slice none 0 0,.int .i64 0,.slice none 0 0] 28 (0,0))):=⟨by rw [← hq_];exact (mz BK480)⟩;have n5_:Aside0 (wc.heap[gb491]? = some (.cells #[.slice Ao14 t481.length co14,.slice Ao18 t484.length co18,.int .i64 t487,.slice Ao19 t488.length co19] 28 (0,0))):=⟨by rw [← hq_];exact (mz BK491)⟩;have n6_:Aside0 (Below w.heap.size w wc):=⟨by rw [← hq_];exact (mb HB)⟩;clear HO_492000 HO_492001 HO_492003 BK479 BK480 BK491 HB hq_;have HO_492000:=n0_;have HO_492001:=n1_;have HO_492003:=n2_;have BK479:=n3_;have BK480:=n4_;have BK491:=n5_;have HB:=n6_;clear n0_ n1_ n2_ n3_ n4_ n5_ n6_));have hnb111:=NB491_480.out;have hnc111:=NB480_491.out;have hcz112_0:=bz0 BK491;have hcz112_1:=bz1 BK491;have hcz112_2:=bz2 BK491;have hcz112_3:=bz3 BK491;have hfz112_0:=bf BK491 0;have hfz112_1:=bf BK491 1;have hfz112_2:=bf BK491 2;have hfz112_3:=bf BK491 3;have hcz113_0:=bz0 BK480;have hcz113_1:=bz1 BK480;have hcz113_2:=bz2 BK480;have hcz113_3:=bz3 BK480;have hfz113_0:=bf BK480 0;have hfz113_1:=bf BK480 1;have hfz113_2:=bf BK480 2;have hfz113_3:=bf BK480 3))
            refine bodyPost_ret (results_ctt rfl _ _ gb480 28 #[.slice Ao14 t481.length co14,.slice Ao18 t484.length co18,.int .i64 t487,.slice Ao19 t488.length co19] (0,0) _ rfl (by refine ms ?_;refine blk_put (cs:=#[.slice Ao14 t481.length co14,.slice Ao18 t484.length co18,.int .i64 t487,.slice none 0 0]) ?_ 3 _ rfl;refine ms ?_;refine blk_put (cs:=#[.slice Ao14 t481.length co14,.slice Ao18 t484.length co18,.int .i64 0,.slice none 0 0]) ?_ 2 _ rfl;refine ms ?_;refine blk_put (cs:=#[.slice Ao14 t481.length co14,.slice none 0 0,.int .i64 0,.slice none 0 0]) ?_ 1 _ rfl;refine ms ?_;refine blk_put (cs:=#[.slice none 0 0,.slice none 0 0,.int .i64 0,.slice none 0 0]) ?_ 0 _ rfl;refine ms ?_;exact BK480.out) Try.underlying28 rfl (by kernel_rfl)) rfl ?_
            exact ⟨_,_,_,by first | rfl | (simp [errW_none,errW_some] <;> rfl) | (simp [*,errW_none,errW_some] <;> rfl),by (with_reducible repeat (first | apply Kd.R_alloc | apply Kd.R_drewN | apply Kd.R_drew));exact Kd.R_mono (Kd.R_far (Kd.R_far (Kd.R_far (Kd.R_far (Kd.R_types HO_492000.out BK480.out (by decide)) (fun _ hk=>hk.2) _) (fun _ hk=>hk.2) _) (fun _ hk=>hk.2) _) (fun _ hk=>hk.2) _) (fun _ hk=>⟨hk.1.1,hk.1.2⟩),by (with_reducible repeat (first | apply Kd.R_alloc | apply Kd.R_drewN | apply Kd.R_drew));exact Kd.R_mono (Kd.R_far (Kd.R_far (Kd.R_far (Kd.R_far (Kd.R_types HO_492001.out BK480.out (by decide)) (fun _ hk=>hk.2) _) (fun _ hk=>hk.2) _) (fun _ hk=>hk.2) _) (fun _ hk=>hk.2) _) (fun _ hk=>⟨hk.1.1,hk.1.2⟩),by (with_reducible repeat (first | apply Kd.R_alloc | apply Kd.R_drewN | apply Kd.R_drew));exact Kd.R_mono (Kd.R_far (Kd.R_far (Kd.R_far (Kd.R_far (Kd.R_types HO_492003.out BK480.out (by decide)) (fun _ hk=>hk.2) _) (fun _ hk=>hk.2) _) (fun _ hk=>hk.2) _) (fun _ hk=>hk.2) _) (fun _ hk=>⟨hk.1.1,hk.1.2⟩),mb HB⟩
           ·replace c107:=Bool.eq_false_iff.mpr c107
            subst c107
            have H1:((impl_ownModel.f l0_0 l0_1 a0_2 l0_3).bind fun bt531=>(some (bt531.1,bt531.2.1,bt531.2.2.1,bt531.2.2.2,0,1))) = some (r1,r2,r3,r4,r5,r6):=by rw [if_neg (show ¬ (false = true) by decide)] at H;exact H
            clear H
            have H:=H1
            clear H1
            replace H:=Option.bind_eq_some_iff.mp H
            obtain ⟨⟨t531,t534,t537,t538⟩,A1140,H⟩:=H
            replace H:(some (t531,t534,t537,t538,0,1)) = some (r1,r2,r3,r4,r5,r6):=H
            have A114:=Aside0.mk A1140
            clear A1140
            simp only [Option.some.injEq,Prod.mk.injEq] at H
            obtain ⟨rfl,rfl,rfl,rfl,rfl,rfl⟩:=H
            have hnb115:=NB479_480.out
            have hnc115:=NB480_479.out
            have hnb116:=NB479_491.out
            have hnc116:=NB491_479.out
            have hcz117_0:=bz0 BK479
            have hcz117_1:=bz1 BK479
            have hcz117_2:=bz2 BK479
            have hcz117_3:=bz3 BK479
            have hfz117_0:=bf BK479 0
            have hfz117_1:=bf BK479 1
            have hfz117_2:=bf BK479 2
            have hfz117_3:=bf BK479 3
            go_wp2_with (first | ((with_reducible refine gate_callee (f:=54) rfl ?_);refine goesL_ (some 81) rfl rfl Try.func54 (by kernel_rfl) rfl #[.slice A0_0 l0_0.length c0_0,.int .i64 a2,.int .i64 a3] rfl ml ?_;(with_reducible refine (impl_GetNum.calls kj77 _ _ l0_0 a2 a3 t529 false _ ?side1 ?side2 A106.out).mono ?_);(case side1=>exact mc (Kd.C_below HR0_0.out HB.out));(case side2=>exact HC0_0.out);rintro e w' ⟨rfl,⟨nd,rfl⟩⟩;refine ⟨_,rfl,?_⟩;(try (rw [drewN_self wc];generalize hq_:World.drewN wc _ = wc;have n0_:Aside0 (Kd.R (Kd.int .i64) 3 wc w.heap.size (fun k_=>some k_ ≠ (.slice Ao18 t484.length co18:Value).ownBlock ∧ some k_ ≠ (.slice Ao19 t488.length co19:Value).ownBlock) (.slice Ao14 t481.length co14) t481):=⟨by rw [← hq_];exact (mr HO_492000)⟩;have n1_:Aside0 (Kd.R (Kd.int .i64) 3 wc w.heap.size (fun k_=>some k_ ≠ (.slice Ao14 t481.length co14:Value).ownBlock ∧ some k_ ≠ (.slice Ao19 t488.length co19:Value).ownBlock) (.slice Ao18 t484.length co18) t484):=⟨by rw [← hq_];exact (mr HO_492001)⟩;have n2_:Aside0 (Kd.R (Kd.int .i64) 3 wc w.heap.size (fun k_=>some k_ ≠ (.slice Ao14 t481.length co14:Value).ownBlock ∧ some k_ ≠ (.slice Ao18 t484.length co18:Value).ownBlock) (.slice Ao19 t488.length co19) t488):=⟨by rw [← hq_];exact (mr HO_492003)⟩;have n3_:Aside0 (wc.heap[gb479]? = some (.cells #[.slice A0_0 l0_0.length c0_0,.slice A0_1 l0_1.length c0_1,.int .i64 a0_2,.slice A0_3 l0_3.length c0_3] 28 (0,0))):=⟨by rw [← hq_];exact (mz BK479)⟩;have n4_:Aside0 (wc.heap[gb480]? = some (.cells #[.slice none 0 0,.slice none 0 0,.int .i64 0,.slice none 0 0] 28 (0,0))):=⟨by rw [← hq_];exact (mz BK480)⟩;have n5_:Aside0 (wc.heap[gb491]? = some (.cells #[.slice Ao14 t481.length co14,.slice Ao18 t484.length co18,.int .i64 t487,.slice Ao19 t488.length co19] 28 (0,0))):=⟨by rw [← hq_];exact (mz BK491)⟩;have n6_:Aside0 (Below w.heap.size w wc):=⟨by rw [← hq_];exact (mb HB)⟩;clear HO_492000 HO_492001 HO_492003 BK479 BK480 BK491 HB hq_;have HO_492000:=n0_;have HO_492001:=n1_;have HO_492003:=n2_;have BK479:=n3_;have BK480:=n4_;have BK491:=n5_;have HB:=n6_;clear n0_ n1_ n2_ n3_ n4_ n5_ n6_));have hcz117_0:=bz0 BK479;have hcz117_1:=bz1 BK479;have hcz117_2:=bz2 BK479;have hcz117_3:=bz3 BK479;have hfz117_0:=bf BK479 0;have hfz117_1:=bf BK479 1;have hfz117_2:=bf BK479 2;have hfz117_3:=bf BK479 3) | ((with_reducible refine gate_callee (f:=49) rfl ?_);refine goesL_ (some 87) rfl rfl Try.func49 (by kernel_rfl) rfl #[.agg #[.slice A0_0 l0_0.length c0_0,.slice A0_1 l0_1.length c0_1,.int .i64 a0_2,.slice A0_3 l0_3.length c0_3]] rfl ml ?_;(with_reducible refine (impl_ownModel.calls _ _ l0_0 _ _ l0_1 a0_2 _ _ l0_3 t531 t534 t537 t538 _ ?side1 ?side2 ?side3 ?side4 ?side5 ?side6 A114.out).mono ?_);(case side1=>exact mc (Kd.C_below HR0_0.out HB.out));(case side2=>exact HC0_0.out);(case side3=>exact mc (Kd.C_below HR0_1.out HB.out));(case side4=>exact HC0_1.out);(case side5=>exact mc (Kd.C_below HR0_3.out HB.out));(case side6=>exact HC0_3.out);rintro e w118 ⟨v532,v535,v539,rfl,ho0,ho1,ho2,hb⟩;refine ⟨_,rfl,?_⟩;have n0_:=Az (Kd.R_mono (Kd.R_told (Kd.R_told (Kd.R_told (Kd.R_old (mr HO_492000) hb) (Kd.R_base ho0)) (Kd.R_base ho1)) (Kd.R_base ho2)) (fun _ h_=>h_.1));have n1_:=Az (Kd.R_mono (Kd.R_told (Kd.R_told (Kd.R_told (Kd.R_old (mr HO_492001) hb) (Kd.R_base ho0)) (Kd.R_base ho1)) (Kd.R_base ho2)) (fun _ h_=>h_.1));have n2_:=Az (Kd.R_mono (Kd.R_told (Kd.R_told (Kd.R_told (Kd.R_old (mr HO_492003) hb) (Kd.R_base ho0)) (Kd.R_base ho1)) (Kd.R_base ho2)) (fun _ h_=>h_.1));have n3_:=Az (Kd.R_lower (Kd.R_new' (Kd.R_new' (Kd.R_new' ho0 (Kd.R_lt (mr HO_492000))) (Kd.R_lt (mr HO_492001))) (Kd.R_lt (mr HO_492003))) (below_size (mb HB)));have n4_:=Az (Kd.R_lower (Kd.R_new' (Kd.R_new' (Kd.R_new' ho1 (Kd.R_lt (mr HO_492000))) (Kd.R_lt (mr HO_492001))) (Kd.R_lt (mr HO_492003))) (below_size (mb HB)));have n5_:=Az (Kd.R_lower (Kd.R_new' (Kd.R_new' (Kd.R_new' ho2 (Kd.R_lt (mr HO_492000))) (Kd.R_lt (mr HO_492001))) (Kd.R_lt (mr HO_492003))) (below_size (mb HB)));have n6_:=Az (blk_below (mz BK479) hb);have n7_:=Az (blk_below (mz BK480) hb);have n8_:=Az (blk_below (mz BK491) hb);have n9_:=Az (below_step (mb HB) hb);clear HO_492000 HO_492001 HO_492003 BK479 BK480 BK491 HB;have HO_492000:=n0_;have HO_492001:=n1_;have HO_492003:=n2_;have HO533:=n3_;have HO536:=n4_;have HO540:=n5_;have BK479:=n6_;have BK480:=n7_;have BK491:=n8_;have HB:=n9_;clear n0_ n1_ n2_ n3_ n4_ n5_ n6_ n7_ n8_ n9_;(try clear hb);(try clear hb2);(try clear hk);(try clear hi);(try clear ho0);(try clear ho1);(try clear ho2);obtain ⟨Ao119,co119,eo119⟩:=Kd.R_slice HO533.out;subst eo119;have hnb120:=NB480_491.out;have hnc120:=NB491_480.out;have hcz121_0:=bz0 BK480;have hcz121_1:=bz1 BK480;have hcz121_2:=bz2 BK480;have hcz121_3:=bz3 BK480;have hfz121_0:=bf BK480 0;have hfz121_1:=bf BK480 1;have hfz121_2:=bf BK480 2;have hfz121_3:=bf BK480 3;obtain ⟨Ao122,co122,eo122⟩:=Kd.R_slice HO536.out;subst eo122;obtain ⟨Ao123,co123,eo123⟩:=Kd.R_slice HO540.out;subst eo123))
            refine bodyPost_ret (results_ctt rfl _ _ gb480 28 #[.slice Ao119 t531.length co119,.slice Ao122 t534.length co122,.int .i64 t537,.slice Ao123 t538.length co123] (0,0) _ rfl (by refine ms ?_;refine blk_put (cs:=#[.slice Ao119 t531.length co119,.slice Ao122 t534.length co122,.int .i64 t537,.slice none 0 0]) ?_ 3 _ rfl;refine ms ?_;refine blk_put (cs:=#[.slice Ao119 t531.length co119,.slice Ao122 t534.length co122,.int .i64 0,.slice none 0 0]) ?_ 2 _ rfl;refine ms ?_;refine blk_put (cs:=#[.slice Ao119 t531.length co119,.slice none 0 0,.int .i64 0,.slice none 0 0]) ?_ 1 _ rfl;refine ms ?_;refine blk_put (cs:=#[.slice none 0 0,.slice none 0 0,.int .i64 0,.slice none 0 0]) ?_ 0 _ rfl;refine ms ?_;exact BK480.out) Try.underlying28 rfl (by kernel_rfl)) rfl ?_
            exact ⟨_,_,_,by first | rfl | (simp [errW_none,errW_some] <;> rfl) | (simp [*,errW_none,errW_some] <;> rfl),by (with_reducible repeat (first | apply Kd.R_alloc | apply Kd.R_drewN | apply Kd.R_drew));exact Kd.R_mono (Kd.R_far (Kd.R_far (Kd.R_far (Kd.R_far (Kd.R_types HO533.out BK480.out (by decide)) (fun _ hk=>hk.2) _) (fun _ hk=>hk.2) _) (fun _ hk=>hk.2) _) (fun _ hk=>hk.2) _) (fun _ hk=>⟨hk.1.1.1.1.1,hk.1.1.1.1.2⟩),by (with_reducible repeat (first | apply Kd.R_alloc | apply Kd.R_drewN | apply Kd.R_drew));exact Kd.R_mono (Kd.R_far (Kd.R_far (Kd.R_far (Kd.R_far (Kd.R_types HO536.out BK480.out (by decide)) (fun _ hk=>hk.2) _) (fun _ hk=>hk.2) _) (fun _ hk=>hk.2) _) (fun _ hk=>hk.2) _) (fun _ hk=>⟨hk.1.1.1.1.1,hk.1.1.1.1.2⟩),by (with_reducible repeat (first | apply Kd.R_alloc | apply Kd.R_drewN | apply Kd.R_drew));exact Kd.R_mono (Kd.R_far (Kd.R_far (Kd.R_far (Kd.R_far (Kd.R_types HO540.out BK480.out (by decide)) (fun _ hk=>hk.2) _) (fun _ hk=>hk.2) _) (fun _ hk=>hk.2) _) (fun _ hk=>hk.2) _) (fun _ hk=>⟨hk.1.1.1.1.1,hk.1.1.1.1.2⟩),mb HB⟩
         ·replace c80:=Bool.eq_false_iff.mpr c80
          subst c80
          have H1:(if false = true then (some (t481,t484,t487,t488,a4,0)) else ((impl_ownModel.f l0_0 l0_1 a0_2 l0_3).bind fun bt541=>(some (bt541.1,bt541.2.1,bt541.2.2.1,bt541.2.2.2,0,1)))) = some (r1,r2,r3,r4,r5,r6):=by rw [if_neg (show ¬ (false = true) by decide)] at H;exact H
          clear H
          have H:=H1
          clear H1
          by_cases c124:false = true
          ·exact absurd c124 (by decide)
          ·clear c124
           have H1:((impl_ownModel.f l0_0 l0_1 a0_2 l0_3).bind fun bt541=>(some (bt541.1,bt541.2.1,bt541.2.2.1,bt541.2.2.2,0,1))) = some (r1,r2,r3,r4,r5,r6):=by rw [if_neg (show ¬ (false = true) by decide)] at H;exact H
           clear H
           have H:=H1
           clear H1
           replace H:=Option.bind_eq_some_iff.mp H
           obtain ⟨⟨t541,t544,t547,t548⟩,A1300,H⟩:=H
           replace H:(some (t541,t544,t547,t548,0,1)) = some (r1,r2,r3,r4,r5,r6):=H
           have A130:=Aside0.mk A1300
           clear A1300
           simp only [Option.some.injEq,Prod.mk.injEq] at H
           obtain ⟨rfl,rfl,rfl,rfl,rfl,rfl⟩:=H
           have hnb131:=NB479_480.out
           have hnc131:=NB480_479.out
           have hnb132:=NB479_491.out
           have hnc132:=NB491_479.out
           have hcz133_0:=bz0 BK479
           have hcz133_1:=bz1 BK479
           have hcz133_2:=bz2 BK479
           have hcz133_3:=bz3 BK479
           have hfz133_0:=bf BK479 0
           have hfz133_1:=bf BK479 1
           have hfz133_2:=bf BK479 2
           have hfz133_3:=bf BK479 3
           go_wp2_with (first | ((with_reducible refine gate_callee (f:=49) rfl ?_);refine goesL_ (some 87) rfl rfl Try.func49 (by kernel_rfl) rfl #[.agg #[.slice A0_0 l0_0.length c0_0,.slice A0_1 l0_1.length c0_1,.int .i64 a0_2,.slice A0_3 l0_3.length c0_3]] rfl ml ?_;(with_reducible refine (impl_ownModel.calls _ _ l0_0 _ _ l0_1 a0_2 _ _ l0_3 t541 t544 t547 t548 _ ?side1 ?side2 ?side3 ?side4 ?side5 ?side6 A130.out).mono ?_);(case side1=>exact mc (Kd.C_below HR0_0.out HB.out));(case side2=>exact HC0_0.out);(case side3=>exact mc (Kd.C_below HR0_1.out HB.out));(case side4=>exact HC0_1.out);(case side5=>exact mc (Kd.C_below HR0_3.out HB.out));(case side6=>exact HC0_3.out);rintro e w134 ⟨v542,v545,v549,rfl,ho0,ho1,ho2,hb⟩;refine ⟨_,rfl,?_⟩;have n0_:=Az (Kd.R_mono (Kd.R_told (Kd.R_told (Kd.R_told (Kd.R_old (mr HO_492000) hb) (Kd.R_base ho0)) (Kd.R_base ho1)) (Kd.R_base ho2)) (fun _ h_=>h_.1));have n1_:=Az (Kd.R_mono (Kd.R_told (Kd.R_told (Kd.R_told (Kd.R_old (mr HO_492001) hb) (Kd.R_base ho0)) (Kd.R_base ho1)) (Kd.R_base ho2)) (fun _ h_=>h_.1));have n2_:=Az (Kd.R_mono (Kd.R_told (Kd.R_told (Kd.R_told (Kd.R_old (mr HO_492003) hb) (Kd.R_base ho0)) (Kd.R_base ho1)) (Kd.R_base ho2)) (fun _ h_=>h_.1));have n3_:=Az (Kd.R_lower (Kd.R_new' (Kd.R_new' (Kd.R_new' ho0 (Kd.R_lt (mr HO_492000))) (Kd.R_lt (mr HO_492001))) (Kd.R_lt (mr HO_492003))) (below_size (mb HB)));have n4_:=Az (Kd.R_lower (Kd.R_new' (Kd.R_new' (Kd.R_new' ho1 (Kd.R_lt (mr HO_492000))) (Kd.R_lt (mr HO_492001))) (Kd.R_lt (mr HO_492003))) (below_size (mb HB)));have n5_:=Az (Kd.R_lower (Kd.R_new' (Kd.R_new' (Kd.R_new' ho2 (Kd.R_lt (mr HO_492000))) (Kd.R_lt (mr HO_492001))) (Kd.R_lt (mr HO_492003))) (below_size (mb HB)));have n6_:=Az (blk_below (mz BK479) hb);have n7_:=Az (blk_below (mz BK480) hb);have n8_:=Az (blk_below (mz BK491) hb);have n9_:=Az (below_step (mb HB) hb);clear HO_492000 HO_492001 HO_492003 BK479 BK480 BK491 HB;have HO_492000:=n0_;have HO_492001:=n1_;have HO_492003:=n2_;have HO543:=n3_;have HO546:=n4_;have HO550:=n5_;have BK479:=n6_;have BK480:=n7_;have BK491:=n8_;have HB:=n9_;clear n0_ n1_ n2_ n3_ n4_ n5_ n6_ n7_ n8_ n9_;(try clear hb);(try clear hb2);(try clear hk);(try clear hi);(try clear ho0);(try clear ho1);(try clear ho2);obtain ⟨Ao135,co135,eo135⟩:=Kd.R_slice HO543.out;subst eo135;have hnb136:=NB480_491.out;have hnc136:=NB491_480.out;have hcz137_0:=bz0 BK480;have hcz137_1:=bz1 BK480;have hcz137_2:=bz2 BK480;have hcz137_3:=bz3 BK480;have hfz137_0:=bf BK480 0;have hfz137_1:=bf BK480 1;have hfz137_2:=bf BK480 2;have hfz137_3:=bf BK480 3;obtain ⟨Ao138,co138,eo138⟩:=Kd.R_slice HO546.out;subst eo138;obtain ⟨Ao139,co139,eo139⟩:=Kd.R_slice HO550.out;subst eo139))
           refine bodyPost_ret (results_ctt rfl _ _ gb480 28 #[.slice Ao135 t541.length co135,.slice Ao138 t544.length co138,.int .i64 t547,.slice Ao139 t548.length co139] (0,0) _ rfl (by refine ms ?_;refine blk_put (cs:=#[.slice Ao135 t541.length co135,.slice Ao138 t544.length co138,.int .i64 t547,.slice none 0 0]) ?_ 3 _ rfl;refine ms ?_;refine blk_put (cs:=#[.slice Ao135 t541.length co135,.slice Ao138 t544.length co138,.int .i64 0,.slice none 0 0]) ?_ 2 _ rfl;refine ms ?_;refine blk_put (cs:=#[.slice Ao135 t541.length co135,.slice none 0 0,.int .i64 0,.slice none 0 0]) ?_ 1 _ rfl;refine ms ?_;refine blk_put (cs:=#[.slice none 0 0,.slice none 0 0,.int .i64 0,.slice none 0 0]) ?_ 0 _ rfl;refine ms ?_;exact BK480.out) Try.underlying28 rfl (by kernel_rfl)) rfl ?_
           exact ⟨_,_,_,by first | rfl | (simp [errW_none,errW_some] <;> rfl) | (simp [*,errW_none,errW_some] <;> rfl),by (with_reducible repeat (first | apply Kd.R_alloc | apply Kd.R_drewN | apply Kd.R_drew));exact Kd.R_mono (Kd.R_far (Kd.R_far (Kd.R_far (Kd.R_far (Kd.R_types HO543.out BK480.out (by decide)) (fun _ hk=>hk.2) _) (fun _ hk=>hk.2) _) (fun _ hk=>hk.2) _) (fun _ hk=>hk.2) _) (fun _ hk=>⟨hk.1.1.1.1.1,hk.1.1.1.1.2⟩),by (with_reducible repeat (first | apply Kd.R_alloc | apply Kd.R_drewN | apply Kd.R_drew));exact Kd.R_mono (Kd.R_far (Kd.R_far (Kd.R_far (Kd.R_far (Kd.R_types HO546.out BK480.out (by decide)) (fun _ hk=>hk.2) _) (fun _ hk=>hk.2) _) (fun _ hk=>hk.2) _) (fun _ hk=>hk.2) _) (fun _ hk=>⟨hk.1.1.1.1.1,hk.1.1.1.1.2⟩),by (with_reducible repeat (first | apply Kd.R_alloc | apply Kd.R_drewN | apply Kd.R_drew));exact Kd.R_mono (Kd.R_far (Kd.R_far (Kd.R_far (Kd.R_far (Kd.R_types HO550.out BK480.out (by decide)) (fun _ hk=>hk.2) _) (fun _ hk=>hk.2) _) (fun _ hk=>hk.2) _) (fun _ hk=>hk.2) _) (fun _ hk=>⟨hk.1.1.1.1.1,hk.1.1.1.1.2⟩),mb HB⟩
def spec_l4Bytes.l0:Nat → List Int → Int → Option (Bool)
 | 0,_,_=>none
 | k + 1,x0,x3=>if x3 < (x0.length:Int) then (if 0 ≤ x3 then ((spec_l1In.f (rd x0 x3) 0 255).bind fun t552=>(if t552 = true then (spec_l4Bytes.l0 k x0 (wrap64 (x3 + 1))) else (some false))) else (none)) else (some (decide ((x0.length:Int) ≤ 512)))
def spec_l4Bytes.f (k:Nat) (l0:List Int):Option (Bool):=spec_l4Bytes.l0 k l0 0
set_option maxHeartbeats 8000000 in
set_option maxRecDepth 100000 in
theorem spec_l4Bytes.calls (k:Nat) (A0:Option Addr) (c0:Nat) (l0:List Int) (r:Bool) (w:World) (hr0:Kd.C (Kd.int .i64) w A0 l0.length l0) (hc0:l0.length ≤ c0) (h:spec_l4Bytes.f k l0 = some r) :
  Calls Try.prog 73 #[.slice A0 l0.length c0] w fun e w'=>e = .returned (.bool r) ∧ Drawn0 w w':=by
 have HR0:=Aside0.mk hr0
 have HC0:=Aside0.mk hc0
 clear hr0 hc0
 have H:(spec_l4Bytes.l0 k l0 0) = some r:=h
 clear h
 have H':=Aside0.mk H
 clear H
 go_enter Try.func73,Try.ntmps73
 go_wp2
 go_loopg [3] k (fun kq v3 w'=>∃ (x3_1:Int),v3 = .int .i64 x3_1 ∧ Aside0 (spec_l4Bytes.l0 kq l0 x3_1 = some r) ∧ Aside0 (kq ≤ k) ∧ Drawn0 w w')
 case atStart=>exact ⟨(0),(by first | rfl | (simp;done) | (simp [*];done)),H',⟨Nat.le_refl _⟩,by repeat (first | exact Drawn0.refl _ | apply Drawn0.step)⟩
 case round =>
  clear H'
  obtain ⟨x3_1,rfl,HA,HK1,⟨m1,rfl⟩⟩:=hrel
  cases gk with
  | zero=>exact absurd HA.out (by simp [spec_l4Bytes.l0])
  | succ k1 =>
   have H:=HA.out
   clear HA
   simp only [spec_l4Bytes.l0] at H
   by_cases c2:x3_1 < (l0.length:Int)
   ·rw [if_pos c2] at H
    have c2b0:decide (x3_1 < (l0.length:Int)) = true:=decide_eq_true c2
    clear c2
    by_cases c3:0 ≤ x3_1
    ·rw [if_pos c3] at H
     have c3b0:decide (0 ≤ x3_1) = true:=decide_eq_true c3
     clear c3
     replace H:=Option.bind_eq_some_iff.mp H
     obtain ⟨t552,A40,H⟩:=H
     replace H:(if t552 = true then (spec_l4Bytes.l0 k1 l0 (wrap64 (x3_1 + 1))) else (some false)) = some r:=H
     have A4:=Aside0.mk A40
     clear A40
     by_cases c5:t552 = true
     ·subst c5
      have H1:(spec_l4Bytes.l0 k1 l0 (wrap64 (x3_1 + 1))) = some r:=by rw [if_pos rfl] at H;exact H
      clear H
      have H:=H1
      clear H1
      have H':=Aside0.mk H
      clear H
      have p551:0 ≤ (x3_1:Int):=of_decide_eq_true (by first | (with_reducible assumption) | assumption)
      have q551:x3_1 < (l0.length:Int):=of_decide_eq_true (by first | (with_reducible assumption) | assumption)
      obtain ⟨ad551,e551,hx551_0⟩:=Kd.at_int HR0.out x3_1 p551 q551
      cases e551
      replace p551:=eq_true p551
      replace q551:=eq_true q551
      go_wp2_with (first | ((with_reducible refine gate_callee (f:=57) rfl ?_);refine goesL_ (some 14) rfl rfl Try.func57 (by kernel_rfl) rfl #[.int .i64 (rd l0 x3_1),.int .i64 0,.int .i64 255] rfl ml ?_;(with_reducible refine (spec_l1In.calls (rd l0 x3_1) 0 255 true _ A4.out).mono ?_);rintro e w' ⟨rfl,⟨nd,rfl⟩⟩;refine ⟨_,rfl,?_⟩))
      go_roundg k1
      case measure=>have:=HK1.out;omega
      case rel=>exact ⟨(wrap64 (x3_1 + 1)),(by first | rfl | (simp;done) | (simp [*];done)),H',⟨by have:=HK1.out;omega⟩,by repeat (first | exact Drawn0.refl _ | apply Drawn0.step)⟩
     ·replace c5:=Bool.eq_false_iff.mpr c5
      subst c5
      have H1:(some false) = some r:=by rw [if_neg (show ¬ (false = true) by decide)] at H;exact H
      clear H
      have H:=H1
      clear H1
      obtain rfl:=Option.some.inj H
      have p551:0 ≤ (x3_1:Int):=of_decide_eq_true (by first | (with_reducible assumption) | assumption)
      have q551:x3_1 < (l0.length:Int):=of_decide_eq_true (by first | (with_reducible assumption) | assumption)
      obtain ⟨ad551,e551,hx551_0⟩:=Kd.at_int HR0.out x3_1 p551 q551
      cases e551
      replace p551:=eq_true p551
      replace q551:=eq_true q551
      go_wp2_with (first | ((with_reducible refine gate_callee (f:=57) rfl ?_);refine goesL_ (some 14) rfl rfl Try.func57 (by kernel_rfl) rfl #[.int .i64 (rd l0 x3_1),.int .i64 0,.int .i64 255] rfl ml ?_;(with_reducible refine (spec_l1In.calls (rd l0 x3_1) 0 255 false _ A4.out).mono ?_);rintro e w' ⟨rfl,⟨nd,rfl⟩⟩;refine ⟨_,rfl,?_⟩))
      go_ret
      exact ⟨by first | rfl | (simp;done) | (simp [*];done),by repeat (first | exact Drawn0.refl _ | apply Drawn0.step)⟩
    ·rw [if_neg c3] at H
     exact absurd H (by simp)
   ·rw [if_neg c2] at H
    have c2b0:decide (x3_1 < (l0.length:Int)) = false:=decide_eq_false c2
    clear c2
    obtain rfl:=Option.some.inj H
    go_wp2
    go_ret
    exact ⟨by first | rfl | (simp;done) | (simp [*];done),by repeat (first | exact Drawn0.refl _ | apply Drawn0.step)⟩
def spec_ModelOk.f (k:Nat) (l0_0:List Int) (l0_1:List Int) (a0_2:Int) (l0_3:List Int):Option (Bool):=if (l0_0.length:Int) = 192 then ((spec_l4Bytes.f k l0_0).bind fun t554=>(if t554 = true then ((spec_DevOk.f k l0_1 a0_2 l0_3).bind fun t555=>(some t555)) else (some false))) else (some false)
set_option maxHeartbeats 8000000 in
set_option maxRecDepth 100000 in
theorem spec_ModelOk.calls (k:Nat) (A0_0:Option Addr) (c0_0:Nat) (l0_0:List Int) (A0_1:Option Addr) (c0_1:Nat) (l0_1:List Int) (a0_2:Int) (A0_3:Option Addr) (c0_3:Nat) (l0_3:List Int) (r:Bool) (w:World) (hr0_0:Kd.C (Kd.int .i64) w A0_0 l0_0.length l0_0) (hc0_0:l0_0.length ≤ c0_0) (hr0_1:Kd.C (Kd.int .i64) w A0_1 l0_1.length l0_1) (hc0_1:l0_1.length ≤ c0_1) (hr0_3:Kd.C (Kd.int .i64) w A0_3 l0_3.length l0_3) (hc0_3:l0_3.length ≤ c0_3) (h:spec_ModelOk.f k l0_0 l0_1 a0_2 l0_3 = some r) :
  Calls Try.prog 39 #[.agg #[.slice A0_0 l0_0.length c0_0,.slice A0_1 l0_1.length c0_1,.int .i64 a0_2,.slice A0_3 l0_3.length c0_3]] w fun e w'=>e = .returned (.bool r) ∧ Below w.heap.size w w':=by
 have hu28:=Try.underlying28
 have hu26:=Try.underlying26
 have HR0_0:=Aside0.mk hr0_0
 have HC0_0:=Aside0.mk hc0_0
 clear hr0_0 hc0_0
 have HR0_1:=Aside0.mk hr0_1
 have HC0_1:=Aside0.mk hc0_1
 clear hr0_1 hc0_1
 have HR0_3:=Aside0.mk hr0_3
 have HC0_3:=Aside0.mk hc0_3
 clear hr0_3 hc0_3
 have HB:=Az (Below.refl w.heap.size w)
 have H:(if (l0_0.length:Int) = 192 then ((spec_l4Bytes.f k l0_0).bind fun t554=>(if t554 = true then ((spec_DevOk.f k l0_1 a0_2 l0_3).bind fun t555=>(some t555)) else (some false))) else (some false)) = some r:=h
 clear h
 by_cases c2:(l0_0.length:Int) = 192
 ·rw [if_pos c2] at H
  have c2b0:((l0_0.length:Int) == 192) = true:=beq_iff_eq.mpr c2
  have c2b1:((l0_0.length:Int) != 192) = false:=bne_eq_false_iff_eq.mpr c2
  clear c2
  replace H:=Option.bind_eq_some_iff.mp H
  obtain ⟨t554,A30,H⟩:=H
  replace H:(if t554 = true then ((spec_DevOk.f k l0_1 a0_2 l0_3).bind fun t555=>(some t555)) else (some false)) = some r:=H
  have A3:=Aside0.mk A30
  clear A30
  by_cases c4:t554 = true
  ·subst c4
   have H1:((spec_DevOk.f k l0_1 a0_2 l0_3).bind fun t555=>(some t555)) = some r:=by rw [if_pos rfl] at H;exact H
   clear H
   have H:=H1
   clear H1
   replace H:=Option.bind_eq_some_iff.mp H
   obtain ⟨t555,A50,H⟩:=H
   replace H:(some t555) = some r:=H
   have A5:=Aside0.mk A50
   clear A50
   obtain rfl:=Option.some.inj H
   go_enter Try.func39,Try.ntmps39
   go_wp2_with (first | ((with_reducible refine gate_dst (N:=1) rfl ?_);refine box_event ?hg (N:=1) ?hd (cs:=#[.slice A0_0 l0_0.length c0_0,.slice A0_1 l0_1.length c0_1,.int .i64 a0_2,.slice A0_3 l0_3.length c0_3]) (t:=28) ?hr ?_;(case hd=>rfl);(case hg=>rfl);(case hr=>first | (go_simp;done) | (go_simp;rfl));intro gb553 hg w6 hbox hb;have n0_:=Az (below_step (mb HB) hb);have n1_:=Az (hbox);have n2_:=Az ((by rw [hg];exact (below_size (mb HB)):w.heap.size ≤ gb553));have n3_:=Az ((by rw [hg];exact (below_size (mb HB)):w.heap.size ≤ gb553));clear HB;have HB:=n0_;have BK553:=n1_;have GW553:=n2_;have GE553:=n3_;clear n0_ n1_ n2_ n3_ hb hbox hg;have hcz7_0:=bz0 BK553;have hcz7_1:=bz1 BK553;have hcz7_2:=bz2 BK553;have hcz7_3:=bz3 BK553;have hfz7_0:=bf BK553 0;have hfz7_1:=bf BK553 1;have hfz7_2:=bf BK553 2;have hfz7_3:=bf BK553 3) | (go_at_call 73;(with_reducible refine (spec_l4Bytes.calls k _ _ l0_0 true _ ?side1 ?side2 A3.out).mono ?_);(case side1=>exact mc (Kd.C_below HR0_0.out HB.out));(case side2=>exact HC0_0.out);rintro e w' ⟨rfl,⟨nd,rfl⟩⟩) | (go_at_call 36;(with_reducible refine (spec_DevOk.calls k _ _ l0_1 a0_2 _ _ l0_3 t555 _ ?side1 ?side2 ?side3 ?side4 A5.out).mono ?_);(case side1=>repeat (first | exact (Kd.C_below HR0_1.out (mb HB)) | (with_reducible refine Kd.C_alloc ?_ _) | (with_reducible refine Kd.C_drewN ?_ _) | (with_reducible refine Kd.C_drew ?_)));(case side2=>exact HC0_1.out);(case side3=>repeat (first | exact (Kd.C_below HR0_3.out (mb HB)) | (with_reducible refine Kd.C_alloc ?_ _) | (with_reducible refine Kd.C_drewN ?_ _) | (with_reducible refine Kd.C_drew ?_)));(case side4=>exact HC0_3.out);rintro e w8 ⟨rfl,hb⟩;have n0_:=Az (blk_below (mz BK553) hb);have n1_:=Az (below_step (mb HB) hb);clear BK553 HB;have BK553:=n0_;have HB:=n1_;clear n0_ n1_;(try clear hb);(try clear hb2);(try clear hk);(try clear hi)))
   go_ret
   exact ⟨by first | rfl | (simp [errW_none,errW_some] <;> rfl) | (simp [*,errW_none,errW_some] <;> rfl),mb HB⟩
  ·replace c4:=Bool.eq_false_iff.mpr c4
   subst c4
   have H1:(some false) = some r:=by rw [if_neg (show ¬ (false = true) by decide)] at H;exact H
   clear H
   have H:=H1
   clear H1
   obtain rfl:=Option.some.inj H
   go_enter Try.func39,Try.ntmps39
   go_wp2_with (first | ((with_reducible refine gate_dst (N:=1) rfl ?_);refine box_event ?hg (N:=1) ?hd (cs:=#[.slice A0_0 l0_0.length c0_0,.slice A0_1 l0_1.length c0_1,.int .i64 a0_2,.slice A0_3 l0_3.length c0_3]) (t:=28) ?hr ?_;(case hd=>rfl);(case hg=>rfl);(case hr=>first | (go_simp;done) | (go_simp;rfl));intro gb553 hg w9 hbox hb;have n0_:=Az (below_step (mb HB) hb);have n1_:=Az (hbox);have n2_:=Az ((by rw [hg];exact (below_size (mb HB)):w.heap.size ≤ gb553));have n3_:=Az ((by rw [hg];exact (below_size (mb HB)):w.heap.size ≤ gb553));clear HB;have HB:=n0_;have BK553:=n1_;have GW553:=n2_;have GE553:=n3_;clear n0_ n1_ n2_ n3_ hb hbox hg;have hcz10_0:=bz0 BK553;have hcz10_1:=bz1 BK553;have hcz10_2:=bz2 BK553;have hcz10_3:=bz3 BK553;have hfz10_0:=bf BK553 0;have hfz10_1:=bf BK553 1;have hfz10_2:=bf BK553 2;have hfz10_3:=bf BK553 3) | (go_at_call 73;(with_reducible refine (spec_l4Bytes.calls k _ _ l0_0 false _ ?side1 ?side2 A3.out).mono ?_);(case side1=>exact mc (Kd.C_below HR0_0.out HB.out));(case side2=>exact HC0_0.out);rintro e w' ⟨rfl,⟨nd,rfl⟩⟩))
   go_ret
   exact ⟨by first | rfl | (simp [errW_none,errW_some] <;> rfl) | (simp [*,errW_none,errW_some] <;> rfl),mb HB⟩
 ·rw [if_neg c2] at H
  have c2b0:((l0_0.length:Int) == 192) = false:=beq_eq_false_iff_ne.mpr c2
  have c2b1:((l0_0.length:Int) != 192) = true:=bne_iff_ne.mpr c2
  obtain rfl:=Option.some.inj H
  go_enter Try.func39,Try.ntmps39
  go_wp2_with (first | ((with_reducible refine gate_dst (N:=1) rfl ?_);refine box_event ?hg (N:=1) ?hd (cs:=#[.slice A0_0 l0_0.length c0_0,.slice A0_1 l0_1.length c0_1,.int .i64 a0_2,.slice A0_3 l0_3.length c0_3]) (t:=28) ?hr ?_;(case hd=>rfl);(case hg=>rfl);(case hr=>first | (go_simp;done) | (go_simp;rfl));intro gb553 hg w11 hbox hb;have n0_:=Az (below_step (mb HB) hb);have n1_:=Az (hbox);have n2_:=Az ((by rw [hg];exact (below_size (mb HB)):w.heap.size ≤ gb553));have n3_:=Az ((by rw [hg];exact (below_size (mb HB)):w.heap.size ≤ gb553));clear HB;have HB:=n0_;have BK553:=n1_;have GW553:=n2_;have GE553:=n3_;clear n0_ n1_ n2_ n3_ hb hbox hg;have hcz12_0:=bz0 BK553;have hcz12_1:=bz1 BK553;have hcz12_2:=bz2 BK553;have hcz12_3:=bz3 BK553;have hfz12_0:=bf BK553 0;have hfz12_1:=bf BK553 1;have hfz12_2:=bf BK553 2;have hfz12_3:=bf BK553 3))
  go_ret
  exact ⟨by first | rfl | (simp [errW_none,errW_some] <;> rfl) | (simp [*,errW_none,errW_some] <;> rfl),mb HB⟩
end Go.Proofs.Ythikbgjlcdkoaaa.MFnModels

