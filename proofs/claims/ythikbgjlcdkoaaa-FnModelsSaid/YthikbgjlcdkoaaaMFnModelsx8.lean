-- Written for this claim by a program of the session (wip/mk.py) over the kit's print.
import Derived.Test.YthikbgjlcdkoaaaMFnModelsx0
import Derived.Test.YthikbgjlcdkoaaaMFnModelsx6
import Derived.Test.YthikbgjlcdkoaaaMFnModelsx7
namespace Go.Proofs.Ythikbgjlcdkoaaa.MFnModels
open Go.RowKit Go.Proofs.YthikbgjlcdkoaaaW.PrintWords Go.Proofs.YthikbgjlcdkoaaaW.PrintLast Go.Proofs.YthikbgjlcdkoaaaW.PrintMore
attribute [local go_sem] max2_int min2_int max_two min_two max_three min_three max_four min_four
set_option linter.unusedVariables false
set_option linter.unusedSimpArgs false
mutual
def impl_DevDo.j0:Nat → Bool → Int → Int → Bool → List Int → Int → List Int → List Int → Int → List Int → Option (List Int × Int × List Int × Int × Bool)
 | 0,_,_,_,_,_,_,_,_,_,_=>none
 | k + 1,x1,x2,x3,x24,x435000,x435001,x435002,x444000,x444001,x444002=>if x24 = true then (some (x444000,x444001,x444002,0,false)) else (if x2 = 16 then (impl_DevDo.j1 k x1 x2 x3 x1 x435000 x435001 x435002 x444000 x444001 x444002) else (impl_DevDo.j1 k x1 x2 x3 false x435000 x435001 x435002 x444000 x444001 x444002))
def impl_DevDo.j1:Nat → Bool → Int → Int → Bool → List Int → Int → List Int → List Int → Int → List Int → Option (List Int × Int × List Int × Int × Bool)
 | 0,_,_,_,_,_,_,_,_,_,_=>none
 | k + 1,x1,x2,x3,x32,x435000,x435001,x435002,x444000,x444001,x444002=>if x32 = true then (some (x444000,x3,x444002,x3,true)) else (if x2 = 16 then ((impl_LimitOf.f 2).bind fun t446=>(if t446 = 0 then (none) else (some (x444000,Int.tmod (wrap64 (x435001 + 1)) t446,x444002,x435001,true)))) else (if x2 = 20 then (if x1 = true then (impl_DevDo.j2 k x1 x2 x3 (decide ((x435002.length:Int) < 4)) x435000 x435001 x435002 x444000 x444001 x444002) else (impl_DevDo.j2 k x1 x2 x3 false x435000 x435001 x435002 x444000 x444001 x444002)) else (impl_DevDo.j2 k x1 x2 x3 false x435000 x435001 x435002 x444000 x444001 x444002)))
def impl_DevDo.j2:Nat → Bool → Int → Int → Bool → List Int → Int → List Int → List Int → Int → List Int → Option (List Int × Int × List Int × Int × Bool)
 | 0,_,_,_,_,_,_,_,_,_,_=>none
 | k + 1,x1,x2,x3,x51,x435000,x435001,x435002,x444000,x444001,x444002=>if x51 = true then (if x444002.length < 17592186044416 then (some (x444000,x444001,(x444002 ++ [x3]),x3,true)) else (none)) else (if x2 = 20 then (if x1 = true then (impl_DevDo.j3 k x1 x2 x3 false x435000 x435001 x435002 x444000 x444001 x444002) else (impl_DevDo.j3 k x1 x2 x3 (decide ((x435002.length:Int) > 0)) x435000 x435001 x435002 x444000 x444001 x444002)) else (impl_DevDo.j3 k x1 x2 x3 false x435000 x435001 x435002 x444000 x444001 x444002))
def impl_DevDo.j3:Nat → Bool → Int → Int → Bool → List Int → Int → List Int → List Int → Int → List Int → Option (List Int × Int × List Int × Int × Bool)
 | 0,_,_,_,_,_,_,_,_,_,_=>none
 | k + 1,x1,x2,x3,x69,x435000,x435001,x435002,x444000,x444001,x444002=>if x69 = true then (if 0 < (x435002.length:Int) then (if 1 ≤ (x435002.length:Int) then ((slices_Clone_int_int.f (x435002.drop 1)).bind fun t452=>(some (x444000,x444001,t452,rd x435002 0,true))) else (none)) else (none)) else (if x2 ≥ 16 then (impl_DevDo.j4 k x1 x2 x3 true x435000 x435001 x435002 x444000 x444001 x444002) else (if x2 < 0 then (impl_DevDo.j4 k x1 x2 x3 true x435000 x435001 x435002 x444000 x444001 x444002) else (impl_DevDo.j4 k x1 x2 x3 ((Int.tmod x2 4) != 0) x435000 x435001 x435002 x444000 x444001 x444002)))
def impl_DevDo.j4:Nat → Bool → Int → Int → Bool → List Int → Int → List Int → List Int → Int → List Int → Option (List Int × Int × List Int × Int × Bool)
 | 0,_,_,_,_,_,_,_,_,_,_=>none
 | k + 1,x1,x2,x3,x91,x435000,x435001,x435002,x444000,x444001,x444002=>if x91 = true then (some (x444000,x444001,x444002,0,false)) else (if x1 = true then (if 0 ≤ (wrap64 (Int.tdiv x2 4)) then (if (wrap64 (Int.tdiv x2 4)) < (x444000.length:Int) then (some ((x444000.set ((wrap64 (Int.tdiv x2 4)):Int).toNat x3),x444001,x444002,x3,true)) else (none)) else (none)) else (if 0 ≤ (wrap64 (Int.tdiv x2 4)) then (if (wrap64 (Int.tdiv x2 4)) < (x435000.length:Int) then (some (x444000,x444001,x444002,rd x435000 (wrap64 (Int.tdiv x2 4)),true)) else (none)) else (none)))
end
def impl_DevDo.f (k:Nat) (l0_0:List Int) (a0_1:Int) (l0_2:List Int) (a1:Bool) (a2:Int) (a3:Int):Option (List Int × Int × List Int × Int × Bool):=(impl_ownDev.f l0_0 a0_1 l0_2).bind fun bt436=>((impl_DevOk.f k l0_0 a0_1 l0_2).bind fun t444=>(if t444 = true then (if a1 = true then ((impl_isNum.f a3 2).bind fun t445=>(impl_DevDo.j0 k a1 a2 a3 (!t445) l0_0 a0_1 l0_2 bt436.1 bt436.2.1 bt436.2.2)) else (impl_DevDo.j0 k a1 a2 a3 false l0_0 a0_1 l0_2 bt436.1 bt436.2.1 bt436.2.2)) else (impl_DevDo.j0 k a1 a2 a3 true l0_0 a0_1 l0_2 bt436.1 bt436.2.1 bt436.2.2)))
set_option maxHeartbeats 8000000 in
set_option maxRecDepth 100000 in
theorem impl_DevDo.calls (k:Nat) (A0_0:Option Addr) (c0_0:Nat) (l0_0:List Int) (a0_1:Int) (A0_2:Option Addr) (c0_2:Nat) (l0_2:List Int) (a1:Bool) (a2:Int) (a3:Int) (r1:List Int) (r2:Int) (r3:List Int) (r4:Int) (r5:Bool) (w:World) (hr0_0:Kd.C (Kd.int .i64) w A0_0 l0_0.length l0_0) (hc0_0:l0_0.length ≤ c0_0) (hr0_2:Kd.C (Kd.int .i64) w A0_2 l0_2.length l0_2) (hc0_2:l0_2.length ≤ c0_2) (h:impl_DevDo.f k l0_0 a0_1 l0_2 a1 a2 a3 = some (r1,r2,r3,r4,r5)) :
  Calls Try.prog 41 #[.agg #[.slice A0_0 l0_0.length c0_0,.int .i64 a0_1,.slice A0_2 l0_2.length c0_2],.bool a1,.int .i64 a2,.int .i64 a3] w fun e w'=>∃ v0_ v2_:Value,e = .returned (.tuple #[.agg #[v0_,.int .i64 r2,v2_],.int .i64 r4,.bool r5]) ∧ Kd.R (Kd.int .i64) 3 w' w.heap.size (fun k_=>some k_ ≠ (v2_:Value).ownBlock) v0_ r1 ∧ Kd.R (Kd.int .i64) 3 w' w.heap.size (fun k_=>some k_ ≠ (v0_:Value).ownBlock) v2_ r3 ∧ Below w.heap.size w w':=by
 have hu26:=Try.underlying26
 have HR0_0:=Aside0.mk hr0_0
 have HC0_0:=Aside0.mk hc0_0
 clear hr0_0 hc0_0
 have HR0_2:=Aside0.mk hr0_2
 have HC0_2:=Aside0.mk hc0_2
 clear hr0_2 hc0_2
 have HB:=Az (Below.refl w.heap.size w)
 have H:((impl_ownDev.f l0_0 a0_1 l0_2).bind fun bt436=>((impl_DevOk.f k l0_0 a0_1 l0_2).bind fun t444=>(if t444 = true then (if a1 = true then ((impl_isNum.f a3 2).bind fun t445=>(impl_DevDo.j0 k a1 a2 a3 (!t445) l0_0 a0_1 l0_2 bt436.1 bt436.2.1 bt436.2.2)) else (impl_DevDo.j0 k a1 a2 a3 false l0_0 a0_1 l0_2 bt436.1 bt436.2.1 bt436.2.2)) else (impl_DevDo.j0 k a1 a2 a3 true l0_0 a0_1 l0_2 bt436.1 bt436.2.1 bt436.2.2)))) = some (r1,r2,r3,r4,r5):=h
 clear h
 replace H:=Option.bind_eq_some_iff.mp H
 obtain ⟨⟨t436,t439,t440⟩,A50,H⟩:=H
 replace H:((impl_DevOk.f k l0_0 a0_1 l0_2).bind fun t444=>(if t444 = true then (if a1 = true then ((impl_isNum.f a3 2).bind fun t445=>(impl_DevDo.j0 k a1 a2 a3 (!t445) l0_0 a0_1 l0_2 t436 t439 t440)) else (impl_DevDo.j0 k a1 a2 a3 false l0_0 a0_1 l0_2 t436 t439 t440)) else (impl_DevDo.j0 k a1 a2 a3 true l0_0 a0_1 l0_2 t436 t439 t440))) = some (r1,r2,r3,r4,r5):=H
 have A5:=Aside0.mk A50
 clear A50
 have HC6:=Aside0.mk H
 clear H
 go_enter Try.func41,Try.ntmps41
 go_upto_region 2 with (first | ((with_reducible refine gate_dst (N:=4) rfl ?_);(try (refine gate_guard (by rfl) ?_;dsimp only));refine box_event ?hg (N:=4) ?hd (cs:=#[.slice A0_0 l0_0.length c0_0,.int .i64 a0_1,.slice A0_2 l0_2.length c0_2]) (t:=26) ?hr ?_;(case hd=>rfl);(case hg=>rfl);(case hr=>first | (go_simp;done) | (go_simp;rfl));intro gb434 hg w7 hbox hb;have n0_:=Az (below_step (mb HB) hb);have n1_:=Az (hbox);have n2_:=Az ((by rw [hg];exact (below_size (mb HB)):w.heap.size ≤ gb434));have n3_:=Az ((by rw [hg];exact (below_size (mb HB)):w.heap.size ≤ gb434));clear HB;have HB:=n0_;have BK434:=n1_;have GW434:=n2_;have GE434:=n3_;clear n0_ n1_ n2_ n3_;clear hb hbox hg) | ((with_reducible refine gate_dst (N:=8) rfl ?_);(try (refine gate_guard (by rfl) ?_;dsimp only));refine box_event ?hg (N:=8) ?hd (cs:=#[.slice none 0 0,.int .i64 0,.slice none 0 0]) (t:=26) ?hr ?_;(case hd=>rfl);(case hg=>rfl);(case hr=>first | (go_simp;done) | (go_simp;rfl));intro gb435 hg w8 hbox hb;have n0_:=Az (blk_below (mz BK434) hb);have n1_:=Az (below_step (mb HB) hb);have n2_:=Az (hbox);have n3_:=Az ((by rw [hg];exact (below_size (mb HB)):w.heap.size ≤ gb435));have n4_:=Az ((by rw [hg];exact (below_size (mb HB)):w.heap.size ≤ gb435));have n5_:=Az ((by rw [hg];exact Nat.ne_of_lt (blk_lt (mz BK434)):gb434 ≠ gb435));have n6_:=Az ((by rw [hg];exact Nat.ne_of_gt (blk_lt (mz BK434)):gb435 ≠ gb434));clear BK434 HB;have BK434:=n0_;have HB:=n1_;have BK435:=n2_;have GW435:=n3_;have GE435:=n4_;have NB434_435:=n5_;have NB435_434:=n6_;clear n0_ n1_ n2_ n3_ n4_ n5_ n6_ hb hbox hg;have hnb9:=NB434_435.out;have hnc9:=NB435_434.out;have hcz10_0:=bz0 BK434;have hcz10_1:=bz1 BK434;have hcz10_2:=bz2 BK434;have hfz10_0:=bf BK434 0;have hfz10_1:=bf BK434 1;have hfz10_2:=bf BK434 2) | ((with_reducible refine gate_callee (f:=75) rfl ?_);refine goesL_ (some 13) rfl rfl Try.func75 (by kernel_rfl) rfl #[.agg #[.slice A0_0 l0_0.length c0_0,.int .i64 a0_1,.slice A0_2 l0_2.length c0_2]] rfl ml ?_;(with_reducible refine (impl_ownDev.calls _ _ l0_0 a0_1 _ _ l0_2 t436 t439 t440 _ ?side1 ?side2 ?side3 ?side4 A5.out).mono ?_);(case side1=>exact mc (Kd.C_below HR0_0.out HB.out));(case side2=>exact HC0_0.out);(case side3=>exact mc (Kd.C_below HR0_2.out HB.out));(case side4=>exact HC0_2.out);rintro e w11 ⟨v437,v441,rfl,ho0,ho1,hb⟩;refine ⟨_,rfl,?_⟩;have n0_:=Az (Kd.R_lower ho0 (below_size (mb HB)));have n1_:=Az (Kd.R_lower ho1 (below_size (mb HB)));have n2_:=Az (blk_below (mz BK434) hb);have n3_:=Az (blk_below (mz BK435) hb);have n4_:=Az (below_step (mb HB) hb);clear BK434 BK435 HB;have HO438:=n0_;have HO442:=n1_;have BK434:=n2_;have BK435:=n3_;have HB:=n4_;clear n0_ n1_ n2_ n3_ n4_;(try clear hb);(try clear hb2);(try clear hk);(try clear hi);(try clear ho0);(try clear ho1)) | ((with_reducible refine gate_dst (N:=11) rfl ?_);(try (refine gate_guard (by rfl) ?_;dsimp only));refine box_event ?hg (N:=11) ?hd (cs:=#[.slice none 0 0,.int .i64 0,.slice none 0 0]) (t:=26) ?hr ?_;(case hd=>rfl);(case hg=>rfl);(case hr=>first | (go_simp;done) | (go_simp;rfl));intro gb443 hg w12 hbox hb;have n0_:=Az (Kd.R_below (mr HO438) hb);have n1_:=Az (Kd.R_below (mr HO442) hb);have n2_:=Az (blk_below (mz BK434) hb);have n3_:=Az (blk_below (mz BK435) hb);have n4_:=Az (below_step (mb HB) hb);have n5_:=Az (hbox);have n6_:=Az ((by rw [hg];exact (below_size (mb HB)):w.heap.size ≤ gb443));have n7_:=Az ((by rw [hg];exact (below_size (mb HB)):w.heap.size ≤ gb443));have n8_:=Az ((by rw [hg];exact Nat.ne_of_lt (blk_lt (mz BK434)):gb434 ≠ gb443));have n9_:=Az ((by rw [hg];exact Nat.ne_of_gt (blk_lt (mz BK434)):gb443 ≠ gb434));have n10_:=Az ((by rw [hg];exact Nat.ne_of_lt (blk_lt (mz BK435)):gb435 ≠ gb443));have n11_:=Az ((by rw [hg];exact Nat.ne_of_gt (blk_lt (mz BK435)):gb443 ≠ gb435));clear HO438 HO442 BK434 BK435 HB;have HO438:=n0_;have HO442:=n1_;have BK434:=n2_;have BK435:=n3_;have HB:=n4_;have BK443:=n5_;have GW443:=n6_;have GE443:=n7_;have NB434_443:=n8_;have NB443_434:=n9_;have NB435_443:=n10_;have NB443_435:=n11_;clear n0_ n1_ n2_ n3_ n4_ n5_ n6_ n7_ n8_ n9_ n10_ n11_ hb hbox hg;obtain ⟨Ao13,co13,eo13⟩:=Kd.R_slice HO438.out;subst eo13;have hnb14:=NB443_434.out;have hnc14:=NB434_443.out;have hnb15:=NB443_435.out;have hnc15:=NB435_443.out;have hcz16_0:=bz0 BK443;have hcz16_1:=bz1 BK443;have hcz16_2:=bz2 BK443;have hfz16_0:=bf BK443 0;have hfz16_1:=bf BK443 1;have hfz16_2:=bf BK443 2;obtain ⟨Ao17,co17,eo17⟩:=Kd.R_slice HO442.out;subst eo17))
 (try simp only [Act.put,List.setIfInBounds_toArray,List.set_cons_zero,List.set_cons_succ])
 go_cut [24] (fun v24 wc=>∃ (kq:Nat) (x24_5:Bool),v24 = .bool x24_5 ∧ Aside0 (impl_DevDo.j0 kq a1 a2 a3 x24_5 l0_0 a0_1 l0_2 t436 t439 t440 = some (r1,r2,r3,r4,r5)) ∧ Aside0 (kq ≤ k) ∧ Aside0 (Kd.R (Kd.int .i64) 3 wc w.heap.size (fun k_=>some k_ ≠ ((.slice Ao17 t440.length co17):Value).ownBlock) (.slice Ao13 t436.length co13) t436) ∧ Aside0 (Kd.R (Kd.int .i64) 3 wc w.heap.size (fun k_=>some k_ ≠ ((.slice Ao13 t436.length co13):Value).ownBlock) (.slice Ao17 t440.length co17) t440) ∧ Aside0 (wc.heap[gb434]? = some (.cells #[(.slice A0_0 l0_0.length c0_0),.int .i64 a0_1,(.slice A0_2 l0_2.length c0_2)] 26 (0,0))) ∧ Aside0 (wc.heap[gb435]? = some (.cells #[(.slice none 0 0),.int .i64 0,(.slice none 0 0)] 26 (0,0))) ∧ Aside0 (wc.heap[gb443]? = some (.cells #[(.slice Ao13 t436.length co13),.int .i64 t439,(.slice Ao17 t440.length co17)] 26 (0,0))) ∧ Aside0 (Below w.heap.size w wc))
 case first =>
  have H:=HC6.out
  clear HC6
  replace H:=Option.bind_eq_some_iff.mp H
  obtain ⟨t444,A180,H⟩:=H
  replace H:(if t444 = true then (if a1 = true then ((impl_isNum.f a3 2).bind fun t445=>(impl_DevDo.j0 k a1 a2 a3 (!t445) l0_0 a0_1 l0_2 t436 t439 t440)) else (impl_DevDo.j0 k a1 a2 a3 false l0_0 a0_1 l0_2 t436 t439 t440)) else (impl_DevDo.j0 k a1 a2 a3 true l0_0 a0_1 l0_2 t436 t439 t440)) = some (r1,r2,r3,r4,r5):=H
  have A18:=Aside0.mk A180
  clear A180
  by_cases c19:t444 = true
  ·subst c19
   have H1:(if a1 = true then ((impl_isNum.f a3 2).bind fun t445=>(impl_DevDo.j0 k a1 a2 a3 (!t445) l0_0 a0_1 l0_2 t436 t439 t440)) else (impl_DevDo.j0 k a1 a2 a3 false l0_0 a0_1 l0_2 t436 t439 t440)) = some (r1,r2,r3,r4,r5):=by rw [if_pos rfl] at H;exact H
   clear H
   have H:=H1
   clear H1
   by_cases c20:a1 = true
   ·subst c20
    have H1:((impl_isNum.f a3 2).bind fun t445=>(impl_DevDo.j0 k true a2 a3 (!t445) l0_0 a0_1 l0_2 t436 t439 t440)) = some (r1,r2,r3,r4,r5):=by rw [if_pos rfl] at H;exact H
    clear H
    have H:=H1
    clear H1
    replace H:=Option.bind_eq_some_iff.mp H
    obtain ⟨t445,A210,H⟩:=H
    replace H:(impl_DevDo.j0 k true a2 a3 (!t445) l0_0 a0_1 l0_2 t436 t439 t440) = some (r1,r2,r3,r4,r5):=H
    have A21:=Aside0.mk A210
    clear A210
    have H':=Aside0.mk H
    clear H
    have hnb22:=NB434_435.out
    have hnc22:=NB435_434.out
    have hnb23:=NB434_443.out
    have hnc23:=NB443_434.out
    have hcz24_0:=bz0 BK434
    have hcz24_1:=bz1 BK434
    have hcz24_2:=bz2 BK434
    have hfz24_0:=bf BK434 0
    have hfz24_1:=bf BK434 1
    have hfz24_2:=bf BK434 2
    go_wp2_with (first | ((with_reducible refine gate_callee (f:=37) rfl ?_);refine goesL_ (some 15) rfl rfl Try.func37 (by kernel_rfl) rfl #[.agg #[.slice A0_0 l0_0.length c0_0,.int .i64 a0_1,.slice A0_2 l0_2.length c0_2]] rfl ml ?_;(with_reducible refine (impl_DevOk.calls k _ _ l0_0 a0_1 _ _ l0_2 true _ ?side1 ?side2 ?side3 ?side4 A18.out).mono ?_);(case side1=>exact Kd.C_below HR0_0.out (mb HB));(case side2=>exact HC0_0.out);(case side3=>exact Kd.C_below HR0_2.out (mb HB));(case side4=>exact HC0_2.out);rintro e w25 ⟨rfl,hb⟩;refine ⟨_,rfl,?_⟩;have n0_:=Az (Kd.R_below (by (with_reducible repeat (first | apply Kd.R_alloc | apply Kd.R_drewN | apply Kd.R_drew));exact (Kd.R_mono (Kd.R_far (Kd.R_far (Kd.R_far (Kd.R_types HO438.out BK443.out (by decide)) (fun _ hk=>hk.2) _) (fun _ hk=>hk.2) _) (fun _ hk=>hk.2) _) (fun _ h_=>h_.1))) hb);have n1_:=Az (Kd.R_below (by (with_reducible repeat (first | apply Kd.R_alloc | apply Kd.R_drewN | apply Kd.R_drew));exact (Kd.R_mono (Kd.R_far (Kd.R_far (Kd.R_far (Kd.R_types HO442.out BK443.out (by decide)) (fun _ hk=>hk.2) _) (fun _ hk=>hk.2) _) (fun _ hk=>hk.2) _) (fun _ h_=>h_.1))) hb);have n2_:=Az (blk_below (g:=gb434) (o:=.cells #[.slice A0_0 l0_0.length c0_0,.int .i64 a0_1,.slice A0_2 l0_2.length c0_2] 26 (0,0)) (by refine ms ?_;refine blk_far ?_ NB434_443.out _;refine ms ?_;refine blk_far ?_ NB434_443.out _;refine ms ?_;refine blk_far ?_ NB434_443.out _;refine ms ?_;exact BK434.out) hb);have n3_:=Az (blk_below (g:=gb435) (o:=.cells #[.slice none 0 0,.int .i64 0,.slice none 0 0] 26 (0,0)) (by refine ms ?_;refine blk_far ?_ NB435_443.out _;refine ms ?_;refine blk_far ?_ NB435_443.out _;refine ms ?_;refine blk_far ?_ NB435_443.out _;refine ms ?_;exact BK435.out) hb);have n4_:=Az (blk_below (g:=gb443) (o:=.cells #[.slice Ao13 t436.length co13,.int .i64 t439,.slice Ao17 t440.length co17] 26 (0,0)) (by refine ms ?_;refine blk_put (cs:=#[.slice Ao13 t436.length co13,.int .i64 t439,.slice none 0 0]) ?_ 2 _ rfl;refine ms ?_;refine blk_put (cs:=#[.slice Ao13 t436.length co13,.int .i64 0,.slice none 0 0]) ?_ 1 _ rfl;refine ms ?_;refine blk_put (cs:=#[.slice none 0 0,.int .i64 0,.slice none 0 0]) ?_ 0 _ rfl;refine ms ?_;exact BK443.out) hb);have n5_:=Az (below_step (mb HB) hb);clear HO438 HO442 BK434 BK435 BK443 HB;have HO438:=n0_;have HO442:=n1_;have BK434:=n2_;have BK435:=n3_;have BK443:=n4_;have HB:=n5_;clear n0_ n1_ n2_ n3_ n4_ n5_;(try clear hb);(try clear hb2);(try clear hk);(try clear hi)) | (go_at_call 51;(with_reducible refine (impl_isNum.calls a3 2 t445 _ A21.out).mono ?_);rintro e w' ⟨rfl,⟨nd,rfl⟩⟩))
    go_meet
    case rel=>exact ⟨_,(!t445),(by first | rfl | (simp;done) | (simp [*];done)),H',⟨by first | omega | exact Nat.le_refl _⟩,⟨mr HO438⟩,⟨mr HO442⟩,⟨mz BK434⟩,⟨mz BK435⟩,⟨mz BK443⟩,⟨mb HB⟩⟩
   ·replace c20:=Bool.eq_false_iff.mpr c20
    subst c20
    have H1:(impl_DevDo.j0 k false a2 a3 false l0_0 a0_1 l0_2 t436 t439 t440) = some (r1,r2,r3,r4,r5):=by rw [if_neg (show ¬ (false = true) by decide)] at H;exact H
    clear H
    have H:=H1
    clear H1
    have H':=Aside0.mk H
    clear H
    have hnb26:=NB434_435.out
    have hnc26:=NB435_434.out
    have hnb27:=NB434_443.out
    have hnc27:=NB443_434.out
    have hcz28_0:=bz0 BK434
    have hcz28_1:=bz1 BK434
    have hcz28_2:=bz2 BK434
    have hfz28_0:=bf BK434 0
    have hfz28_1:=bf BK434 1
    have hfz28_2:=bf BK434 2
    go_wp2_with (first | ((with_reducible refine gate_callee (f:=37) rfl ?_);refine goesL_ (some 15) rfl rfl Try.func37 (by kernel_rfl) rfl #[.agg #[.slice A0_0 l0_0.length c0_0,.int .i64 a0_1,.slice A0_2 l0_2.length c0_2]] rfl ml ?_;(with_reducible refine (impl_DevOk.calls k _ _ l0_0 a0_1 _ _ l0_2 true _ ?side1 ?side2 ?side3 ?side4 A18.out).mono ?_);(case side1=>exact Kd.C_below HR0_0.out (mb HB));(case side2=>exact HC0_0.out);(case side3=>exact Kd.C_below HR0_2.out (mb HB));(case side4=>exact HC0_2.out);rintro e w29 ⟨rfl,hb⟩;refine ⟨_,rfl,?_⟩;have n0_:=Az (Kd.R_below (by (with_reducible repeat (first | apply Kd.R_alloc | apply Kd.R_drewN | apply Kd.R_drew));exact (Kd.R_mono (Kd.R_far (Kd.R_far (Kd.R_far (Kd.R_types HO438.out BK443.out (by decide)) (fun _ hk=>hk.2) _) (fun _ hk=>hk.2) _) (fun _ hk=>hk.2) _) (fun _ h_=>h_.1))) hb);have n1_:=Az (Kd.R_below (by (with_reducible repeat (first | apply Kd.R_alloc | apply Kd.R_drewN | apply Kd.R_drew));exact (Kd.R_mono (Kd.R_far (Kd.R_far (Kd.R_far (Kd.R_types HO442.out BK443.out (by decide)) (fun _ hk=>hk.2) _) (fun _ hk=>hk.2) _) (fun _ hk=>hk.2) _) (fun _ h_=>h_.1))) hb);have n2_:=Az (blk_below (g:=gb434) (o:=.cells #[.slice A0_0 l0_0.length c0_0,.int .i64 a0_1,.slice A0_2 l0_2.length c0_2] 26 (0,0)) (by refine ms ?_;refine blk_far ?_ NB434_443.out _;refine ms ?_;refine blk_far ?_ NB434_443.out _;refine ms ?_;refine blk_far ?_ NB434_443.out _;refine ms ?_;exact BK434.out) hb);have n3_:=Az (blk_below (g:=gb435) (o:=.cells #[.slice none 0 0,.int .i64 0,.slice none 0 0] 26 (0,0)) (by refine ms ?_;refine blk_far ?_ NB435_443.out _;refine ms ?_;refine blk_far ?_ NB435_443.out _;refine ms ?_;refine blk_far ?_ NB435_443.out _;refine ms ?_;exact BK435.out) hb);have n4_:=Az (blk_below (g:=gb443) (o:=.cells #[.slice Ao13 t436.length co13,.int .i64 t439,.slice Ao17 t440.length co17] 26 (0,0)) (by refine ms ?_;refine blk_put (cs:=#[.slice Ao13 t436.length co13,.int .i64 t439,.slice none 0 0]) ?_ 2 _ rfl;refine ms ?_;refine blk_put (cs:=#[.slice Ao13 t436.length co13,.int .i64 0,.slice none 0 0]) ?_ 1 _ rfl;refine ms ?_;refine blk_put (cs:=#[.slice none 0 0,.int .i64 0,.slice none 0 0]) ?_ 0 _ rfl;refine ms ?_;exact BK443.out) hb);have n5_:=Az (below_step (mb HB) hb);clear HO438 HO442 BK434 BK435 BK443 HB;have HO438:=n0_;have HO442:=n1_;have BK434:=n2_;have BK435:=n3_;have BK443:=n4_;have HB:=n5_;clear n0_ n1_ n2_ n3_ n4_ n5_;(try clear hb);(try clear hb2);(try clear hk);(try clear hi)))
    go_meet
    case rel=>exact ⟨_,(false),(by first | rfl | (simp;done) | (simp [*];done)),H',⟨by first | omega | exact Nat.le_refl _⟩,⟨mr HO438⟩,⟨mr HO442⟩,⟨mz BK434⟩,⟨mz BK435⟩,⟨mz BK443⟩,⟨mb HB⟩⟩
  ·replace c19:=Bool.eq_false_iff.mpr c19
   subst c19
   have H1:(impl_DevDo.j0 k a1 a2 a3 true l0_0 a0_1 l0_2 t436 t439 t440) = some (r1,r2,r3,r4,r5):=by rw [if_neg (show ¬ (false = true) by decide)] at H;exact H
   clear H
   have H:=H1
   clear H1
   have H':=Aside0.mk H
   clear H
   have hnb30:=NB434_435.out
   have hnc30:=NB435_434.out
   have hnb31:=NB434_443.out
   have hnc31:=NB443_434.out
   have hcz32_0:=bz0 BK434
   have hcz32_1:=bz1 BK434
   have hcz32_2:=bz2 BK434
   have hfz32_0:=bf BK434 0
   have hfz32_1:=bf BK434 1
   have hfz32_2:=bf BK434 2
   go_wp2_with (first | ((with_reducible refine gate_callee (f:=37) rfl ?_);refine goesL_ (some 15) rfl rfl Try.func37 (by kernel_rfl) rfl #[.agg #[.slice A0_0 l0_0.length c0_0,.int .i64 a0_1,.slice A0_2 l0_2.length c0_2]] rfl ml ?_;(with_reducible refine (impl_DevOk.calls k _ _ l0_0 a0_1 _ _ l0_2 false _ ?side1 ?side2 ?side3 ?side4 A18.out).mono ?_);(case side1=>exact Kd.C_below HR0_0.out (mb HB));(case side2=>exact HC0_0.out);(case side3=>exact Kd.C_below HR0_2.out (mb HB));(case side4=>exact HC0_2.out);rintro e w33 ⟨rfl,hb⟩;refine ⟨_,rfl,?_⟩;have n0_:=Az (Kd.R_below (by (with_reducible repeat (first | apply Kd.R_alloc | apply Kd.R_drewN | apply Kd.R_drew));exact (Kd.R_mono (Kd.R_far (Kd.R_far (Kd.R_far (Kd.R_types HO438.out BK443.out (by decide)) (fun _ hk=>hk.2) _) (fun _ hk=>hk.2) _) (fun _ hk=>hk.2) _) (fun _ h_=>h_.1))) hb);have n1_:=Az (Kd.R_below (by (with_reducible repeat (first | apply Kd.R_alloc | apply Kd.R_drewN | apply Kd.R_drew));exact (Kd.R_mono (Kd.R_far (Kd.R_far (Kd.R_far (Kd.R_types HO442.out BK443.out (by decide)) (fun _ hk=>hk.2) _) (fun _ hk=>hk.2) _) (fun _ hk=>hk.2) _) (fun _ h_=>h_.1))) hb);have n2_:=Az (blk_below (g:=gb434) (o:=.cells #[.slice A0_0 l0_0.length c0_0,.int .i64 a0_1,.slice A0_2 l0_2.length c0_2] 26 (0,0)) (by refine ms ?_;refine blk_far ?_ NB434_443.out _;refine ms ?_;refine blk_far ?_ NB434_443.out _;refine ms ?_;refine blk_far ?_ NB434_443.out _;refine ms ?_;exact BK434.out) hb);have n3_:=Az (blk_below (g:=gb435) (o:=.cells #[.slice none 0 0,.int .i64 0,.slice none 0 0] 26 (0,0)) (by refine ms ?_;refine blk_far ?_ NB435_443.out _;refine ms ?_;refine blk_far ?_ NB435_443.out _;refine ms ?_;refine blk_far ?_ NB435_443.out _;refine ms ?_;exact BK435.out) hb);have n4_:=Az (blk_below (g:=gb443) (o:=.cells #[.slice Ao13 t436.length co13,.int .i64 t439,.slice Ao17 t440.length co17] 26 (0,0)) (by refine ms ?_;refine blk_put (cs:=#[.slice Ao13 t436.length co13,.int .i64 t439,.slice none 0 0]) ?_ 2 _ rfl;refine ms ?_;refine blk_put (cs:=#[.slice Ao13 t436.length co13,.int .i64 0,.slice none 0 0]) ?_ 1 _ rfl;refine ms ?_;refine blk_put (cs:=#[.slice none 0 0,.int .i64 0,.slice none 0 0]) ?_ 0 _ rfl;refine ms ?_;exact BK443.out) hb);have n5_:=Az (below_step (mb HB) hb);clear HO438 HO442 BK434 BK435 BK443 HB;have HO438:=n0_;have HO442:=n1_;have BK434:=n2_;have BK435:=n3_;have BK443:=n4_;have HB:=n5_;clear n0_ n1_ n2_ n3_ n4_ n5_;(try clear hb);(try clear hb2);(try clear hk);(try clear hi)))
   go_meet
   case rel=>exact ⟨_,(true),(by first | rfl | (simp;done) | (simp [*];done)),H',⟨by first | omega | exact Nat.le_refl _⟩,⟨mr HO438⟩,⟨mr HO442⟩,⟨mz BK434⟩,⟨mz BK435⟩,⟨mz BK443⟩,⟨mb HB⟩⟩
 case rest =>
  clear HC6
  try clear hcz10_0
  try clear hcz10_1
  try clear hcz10_2
  try clear hcz16_0
  try clear hcz16_1
  try clear hcz16_2
  try clear hfz10_0
  try clear hfz10_1
  try clear hfz10_2
  try clear hfz16_0
  try clear hfz16_1
  try clear hfz16_2
  obtain ⟨kq,x24_5,rfl,HA,HJ5,HO_444000,HO_444002,BK434,BK435,BK443,HB⟩:=hcut
  cases kq with
  | zero=>exact absurd HA.out (by simp [impl_DevDo.j0])
  | succ kj5 =>
   have H:=HA.out
   clear HA
   simp only [impl_DevDo.j0] at H
   by_cases c34:x24_5 = true
   ·subst c34
    have H1:(some (t436,t439,t440,0,false)) = some (r1,r2,r3,r4,r5):=by rw [if_pos rfl] at H;exact H
    clear H
    have H:=H1
    clear H1
    simp only [Option.some.injEq,Prod.mk.injEq] at H
    obtain ⟨rfl,rfl,rfl,rfl,rfl⟩:=H
    have hnb35:=NB443_434.out
    have hnc35:=NB434_443.out
    have hnb36:=NB443_435.out
    have hnc36:=NB435_443.out
    have hcz37_0:=bz0 BK443
    have hcz37_1:=bz1 BK443
    have hcz37_2:=bz2 BK443
    have hfz37_0:=bf BK443 0
    have hfz37_1:=bf BK443 1
    have hfz37_2:=bf BK443 2
    have hnb38:=NB435_434.out
    have hnc38:=NB434_435.out
    have hcz39_0:=bz0 BK435
    have hcz39_1:=bz1 BK435
    have hcz39_2:=bz2 BK435
    have hfz39_0:=bf BK435 0
    have hfz39_1:=bf BK435 1
    have hfz39_2:=bf BK435 2
    go_wp2
    refine bodyPost_ret (results_ctt rfl _ _ gb435 26 #[.slice Ao13 t436.length co13,.int .i64 t439,.slice Ao17 t440.length co17] (0,0) _ rfl (by refine ms ?_;refine blk_put (cs:=#[.slice Ao13 t436.length co13,.int .i64 t439,.slice none 0 0]) ?_ 2 _ rfl;refine ms ?_;refine blk_put (cs:=#[.slice Ao13 t436.length co13,.int .i64 0,.slice none 0 0]) ?_ 1 _ rfl;refine ms ?_;refine blk_put (cs:=#[.slice none 0 0,.int .i64 0,.slice none 0 0]) ?_ 0 _ rfl;refine ms ?_;exact BK435.out) Try.underlying26 rfl (by kernel_rfl)) rfl ?_
    exact ⟨_,_,by first | rfl | (simp [errW_none,errW_some] <;> rfl) | (simp [*,errW_none,errW_some] <;> rfl),by (with_reducible repeat (first | apply Kd.R_alloc | apply Kd.R_drewN | apply Kd.R_drew));exact Kd.R_mono (Kd.R_far (Kd.R_far (Kd.R_far (Kd.R_types HO_444000.out BK435.out (by decide)) (fun _ hk=>hk.2) _) (fun _ hk=>hk.2) _) (fun _ hk=>hk.2) _) (fun _ hk=>hk.1),by (with_reducible repeat (first | apply Kd.R_alloc | apply Kd.R_drewN | apply Kd.R_drew));exact Kd.R_mono (Kd.R_far (Kd.R_far (Kd.R_far (Kd.R_types HO_444002.out BK435.out (by decide)) (fun _ hk=>hk.2) _) (fun _ hk=>hk.2) _) (fun _ hk=>hk.2) _) (fun _ hk=>hk.1),mb HB⟩
   ·replace c34:=Bool.eq_false_iff.mpr c34
    subst c34
    have H1:(if a2 = 16 then (impl_DevDo.j1 kj5 a1 a2 a3 a1 l0_0 a0_1 l0_2 t436 t439 t440) else (impl_DevDo.j1 kj5 a1 a2 a3 false l0_0 a0_1 l0_2 t436 t439 t440)) = some (r1,r2,r3,r4,r5):=by rw [if_neg (show ¬ (false = true) by decide)] at H;exact H
    clear H
    have H:=H1
    clear H1
    have HC40:=Aside0.mk H
    clear H
    go_upto_region 5 with (fail)
    go_cut [32] (fun v32 wc=>∃ (kq:Nat) (x32_39:Bool),v32 = .bool x32_39 ∧ Aside0 (impl_DevDo.j1 kq a1 a2 a3 x32_39 l0_0 a0_1 l0_2 t436 t439 t440 = some (r1,r2,r3,r4,r5)) ∧ Aside0 (kq ≤ kj5) ∧ Aside0 (Kd.R (Kd.int .i64) 3 wc w.heap.size (fun k_=>some k_ ≠ ((.slice Ao17 t440.length co17):Value).ownBlock) (.slice Ao13 t436.length co13) t436) ∧ Aside0 (Kd.R (Kd.int .i64) 3 wc w.heap.size (fun k_=>some k_ ≠ ((.slice Ao13 t436.length co13):Value).ownBlock) (.slice Ao17 t440.length co17) t440) ∧ Aside0 (wc.heap[gb434]? = some (.cells #[(.slice A0_0 l0_0.length c0_0),.int .i64 a0_1,(.slice A0_2 l0_2.length c0_2)] 26 (0,0))) ∧ Aside0 (wc.heap[gb435]? = some (.cells #[(.slice none 0 0),.int .i64 0,(.slice none 0 0)] 26 (0,0))) ∧ Aside0 (wc.heap[gb443]? = some (.cells #[(.slice Ao13 t436.length co13),.int .i64 t439,(.slice Ao17 t440.length co17)] 26 (0,0))) ∧ Aside0 (Below w.heap.size w wc))
    case first =>
     have H:=HC40.out
     clear HC40
     by_cases c41:a2 = 16
     ·rw [if_pos c41] at H
      have c41b0:(a2 == 16) = true:=beq_iff_eq.mpr c41
      have c41b1:(a2 != 16) = false:=bne_eq_false_iff_eq.mpr c41
      clear c41
      (first | rw [c41b0] | (simp only [i64_w,i32_w];rw [c41b0]) | skip)
      have H':=Aside0.mk H
      clear H
      go_wp2
      go_meet
      case rel=>exact ⟨_,(a1),(by first | rfl | (simp;done) | (simp [*];done)),H',⟨by have:=HJ5.out;first | omega | exact Nat.le_refl _⟩,⟨mr HO_444000⟩,⟨mr HO_444002⟩,⟨mz BK434⟩,⟨mz BK435⟩,⟨mz BK443⟩,⟨mb HB⟩⟩
     ·rw [if_neg c41] at H
      have c41b0:(a2 == 16) = false:=beq_eq_false_iff_ne.mpr c41
      have c41b1:(a2 != 16) = true:=bne_iff_ne.mpr c41
      (first | rw [c41b0] | (simp only [i64_w,i32_w];rw [c41b0]) | skip)
      have H':=Aside0.mk H
      clear H
      go_wp2
      go_meet
      case rel=>exact ⟨_,(false),(by first | rfl | (simp;done) | (simp [*];done)),H',⟨by have:=HJ5.out;first | omega | exact Nat.le_refl _⟩,⟨mr HO_444000⟩,⟨mr HO_444002⟩,⟨mz BK434⟩,⟨mz BK435⟩,⟨mz BK443⟩,⟨mb HB⟩⟩
    case rest =>
     clear HC40
     try clear c34
     try clear hcz10_0
     try clear hcz10_1
     try clear hcz10_2
     try clear hcz16_0
     try clear hcz16_1
     try clear hcz16_2
     try clear hfz10_0
     try clear hfz10_1
     try clear hfz10_2
     try clear hfz16_0
     try clear hfz16_1
     try clear hfz16_2
     obtain ⟨kq,x32_39,rfl,HA,HJ39,HO_444000,HO_444002,BK434,BK435,BK443,HB⟩:=hcut
     cases kq with
     | zero=>exact absurd HA.out (by simp [impl_DevDo.j1])
     | succ kj39 =>
      have H:=HA.out
      clear HA
      simp only [impl_DevDo.j1] at H
      by_cases c42:x32_39 = true
      ·subst c42
       have H1:(some (t436,a3,t440,a3,true)) = some (r1,r2,r3,r4,r5):=by rw [if_pos rfl] at H;exact H
       clear H
       have H:=H1
       clear H1
       simp only [Option.some.injEq,Prod.mk.injEq] at H
       obtain ⟨rfl,rfl,rfl,rfl,rfl⟩:=H
       have hnb43:=NB443_434.out
       have hnc43:=NB434_443.out
       have hnb44:=NB443_435.out
       have hnc44:=NB435_443.out
       have hcz45_0:=bz0 BK443
       have hcz45_1:=bz1 BK443
       have hcz45_2:=bz2 BK443
       have hfz45_0:=bf BK443 0
       have hfz45_1:=bf BK443 1
       have hfz45_2:=bf BK443 2
       have hnb46:=NB435_434.out
       have hnc46:=NB434_435.out
       have hcz47_0:=bz0 BK435
       have hcz47_1:=bz1 BK435
       have hcz47_2:=bz2 BK435
       have hfz47_0:=bf BK435 0
       have hfz47_1:=bf BK435 1
       have hfz47_2:=bf BK435 2
       go_wp2
       refine bodyPost_ret (results_ctt rfl _ _ gb435 26 #[.slice Ao13 t436.length co13,.int .i64 a3,.slice Ao17 t440.length co17] (0,0) _ rfl (by refine ms ?_;refine blk_put (cs:=#[.slice Ao13 t436.length co13,.int .i64 a3,.slice none 0 0]) ?_ 2 _ rfl;refine ms ?_;refine blk_put (cs:=#[.slice Ao13 t436.length co13,.int .i64 0,.slice none 0 0]) ?_ 1 _ rfl;refine ms ?_;refine blk_put (cs:=#[.slice none 0 0,.int .i64 0,.slice none 0 0]) ?_ 0 _ rfl;refine ms ?_;refine blk_far ?_ NB435_443.out _;refine ms ?_;exact BK435.out) Try.underlying26 rfl (by kernel_rfl)) rfl ?_
       exact ⟨_,_,by first | rfl | (simp [errW_none,errW_some] <;> rfl) | (simp [*,errW_none,errW_some] <;> rfl),by (with_reducible repeat (first | apply Kd.R_alloc | apply Kd.R_drewN | apply Kd.R_drew));exact Kd.R_mono (Kd.R_far (Kd.R_far (Kd.R_far (Kd.R_far (Kd.R_types (Kd.R_types HO_444000.out BK443.out (by decide)) BK435.out (by decide)) (fun _ hk=>hk.1.2) _) (fun _ hk=>hk.2) _) (fun _ hk=>hk.2) _) (fun _ hk=>hk.2) _) (fun _ hk=>hk.1.1),by (with_reducible repeat (first | apply Kd.R_alloc | apply Kd.R_drewN | apply Kd.R_drew));exact Kd.R_mono (Kd.R_far (Kd.R_far (Kd.R_far (Kd.R_far (Kd.R_types (Kd.R_types HO_444002.out BK443.out (by decide)) BK435.out (by decide)) (fun _ hk=>hk.1.2) _) (fun _ hk=>hk.2) _) (fun _ hk=>hk.2) _) (fun _ hk=>hk.2) _) (fun _ hk=>hk.1.1),mb HB⟩
      ·replace c42:=Bool.eq_false_iff.mpr c42
       subst c42
       have H1:(if a2 = 16 then ((impl_LimitOf.f 2).bind fun t446=>(if t446 = 0 then (none) else (some (t436,Int.tmod (wrap64 (a0_1 + 1)) t446,t440,a0_1,true)))) else (if a2 = 20 then (if a1 = true then (impl_DevDo.j2 kj39 a1 a2 a3 (decide ((l0_2.length:Int) < 4)) l0_0 a0_1 l0_2 t436 t439 t440) else (impl_DevDo.j2 kj39 a1 a2 a3 false l0_0 a0_1 l0_2 t436 t439 t440)) else (impl_DevDo.j2 kj39 a1 a2 a3 false l0_0 a0_1 l0_2 t436 t439 t440))) = some (r1,r2,r3,r4,r5):=by rw [if_neg (show ¬ (false = true) by decide)] at H;exact H
       clear H
       have H:=H1
       clear H1
       by_cases c48:a2 = 16
       ·rw [if_pos c48] at H
        have c48b0:(a2 == 16) = true:=beq_iff_eq.mpr c48
        have c48b1:(a2 != 16) = false:=bne_eq_false_iff_eq.mpr c48
        clear c48
        replace H:=Option.bind_eq_some_iff.mp H
        obtain ⟨t446,A490,H⟩:=H
        replace H:(if t446 = 0 then (none) else (some (t436,Int.tmod (wrap64 (a0_1 + 1)) t446,t440,a0_1,true))) = some (r1,r2,r3,r4,r5):=H
        have A49:=Aside0.mk A490
        clear A490
        by_cases c50:t446 = 0
        ·rw [if_pos c50] at H
         exact absurd H (by simp)
        ·rw [if_neg c50] at H
         have c50b0:(t446 == 0) = false:=beq_eq_false_iff_ne.mpr c50
         have c50b1:(t446 != 0) = true:=bne_iff_ne.mpr c50
         simp only [Option.some.injEq,Prod.mk.injEq] at H
         obtain ⟨rfl,rfl,rfl,rfl,rfl⟩:=H
         have hnb51:=NB434_435.out
         have hnc51:=NB435_434.out
         have hnb52:=NB434_443.out
         have hnc52:=NB443_434.out
         have hcz53_0:=bz0 BK434
         have hcz53_1:=bz1 BK434
         have hcz53_2:=bz2 BK434
         have hfz53_0:=bf BK434 0
         have hfz53_1:=bf BK434 1
         have hfz53_2:=bf BK434 2
         try go_wp2
         have n0_:=Az (Kd.R_drew HO_444000.out)
         have n1_:=Az (Kd.R_drew HO_444002.out)
         have n2_:=Az (blk_drew BK434.out)
         have n3_:=Az (blk_drew BK435.out)
         have n4_:=Az (blk_drew BK443.out)
         have n5_:=Az (below_drew1 HB.out)
         clear HO_444000 HO_444002 BK434 BK435 BK443 HB
         have HO_444000:=n0_
         have HO_444002:=n1_
         have BK434:=n2_
         have BK435:=n3_
         have BK443:=n4_
         have HB:=n5_
         clear n0_ n1_ n2_ n3_ n4_ n5_
         refine start_ (n:=7) (S:=fun w'=>w'.cell? ⟨gb434,0,none⟩ = some (.slice A0_0 l0_0.length c0_0) ∧ w'.cell? ⟨gb434,1,none⟩ = some (.int .i64 a0_1) ∧ w'.cell? ⟨gb434,2,none⟩ = some (.slice A0_2 l0_2.length c0_2)) (ds:=[]) #[false,false,false,false,false,false,false] (by kernel_rfl) rfl rfl ⟨(blk_cell BK434.out 0).trans rfl,(blk_cell BK434.out 1).trans rfl,(blk_cell BK434.out 2).trans rfl⟩ (fun hHeld=>?_)
         generalize wc.drew = w54 at HO_444000 HO_444002 BK434 BK435 BK443 HB hHeld ⊢
         refine pure_ (i:=0) (N:=some 45) (v:=?_) (a':=?_) #[true,false,false,false,false,false,false] rfl rfl (by kernel_rfl) (fun _ _ _ h=>h) (Or.inl ⟨by rfl,?_⟩) ?_ ?_
         rotate_left
         ·intro w'
          go_simp
          with_reducible rfl
         rotate_left
         ·simp only [Act.put,List.setIfInBounds_toArray,List.set_cons_zero,List.set_cons_succ,i64_w,i32_w]
          rfl
         refine take_ (i:=1) (N:=some 46) (v:=?_) (a':=?_) #[true,true,false,false,false,false,false] rfl rfl (by kernel_rfl) (fun _ _ _ h=>h) (Or.inl ⟨by rfl,?_⟩) hHeld ?_ ?_
         rotate_left
         ·rintro w' ⟨s0,s1,s2⟩
          go_simp
          with_reducible rfl
         rotate_left
         ·simp only [Act.put,List.setIfInBounds_toArray,List.set_cons_zero,List.set_cons_succ,i64_w,i32_w]
          rfl
         refine pure_ (i:=2) (N:=some 47) (v:=?_) (a':=?_) #[true,true,true,false,false,false,false] rfl rfl (by kernel_rfl) (fun _ _ _ h=>h) (Or.inl ⟨by rfl,?_⟩) ?_ ?_
         rotate_left
         ·intro w'
          go_simp
          with_reducible rfl
         rotate_left
         ·simp only [Act.put,List.setIfInBounds_toArray,List.set_cons_zero,List.set_cons_succ,i64_w,i32_w]
          rfl
         refine one_ (i:=3) (N:=some 48) #[true,true,true,true,false,false,false] rfl rfl (by kernel_rfl) (by decide) (fun K hK=>?_)
         refine goes_ Try.func76 (by kernel_rfl) rfl #[.int .i64 2] (by rfl) rfl rfl ml ?_
         with_reducible refine (impl_LimitOf.calls 2 t446 _ A49.out).mono ?_
         rintro e w' ⟨rfl,⟨nd,rfl⟩⟩
         refine ⟨_,rfl,?_⟩
         refine hK.out _ _ ⟨(blk_cell BK434.out 0).trans rfl,(blk_cell BK434.out 1).trans rfl,(blk_cell BK434.out 2).trans rfl⟩ (fun hHeld=>?_)
         clear hK K
         refine norm_ (a':=?_) ?_ ?_
         rotate_left
         ·show Act.put _ (some 48) _ = _
          simp only [Act.put,List.setIfInBounds_toArray,List.set_cons_zero,List.set_cons_succ,i64_w,i32_w]
          rfl
         refine pure_ (i:=4) (N:=some 49) (v:=?_) (a':=?_) #[true,true,true,true,true,false,false] rfl rfl (by kernel_rfl) (fun _ _ _ h=>h) (Or.inl ⟨by rfl,?_⟩) ?_ ?_
         rotate_left
         ·intro w'
          go_simp
          with_reducible rfl
         rotate_left
         ·simp only [Act.put,List.setIfInBounds_toArray,List.set_cons_zero,List.set_cons_succ,i64_w,i32_w]
          rfl
         refine pure_ (i:=5) (N:=some 50) (v:=?_) (a':=?_) #[true,true,true,true,true,true,false] rfl rfl (by kernel_rfl) (fun _ _ _ h=>h) (Or.inl ⟨by rfl,?_⟩) ?_ ?_
         rotate_left
         ·intro w'
          go_simp
          with_reducible rfl
         rotate_left
         ·simp only [Act.put,List.setIfInBounds_toArray,List.set_cons_zero,List.set_cons_succ,i64_w,i32_w]
          rfl
         refine one_ (i:=6) (N:=none) #[true,true,true,true,true,true,true] rfl rfl (by kernel_rfl) (by decide) (fun K hK=>?_)
         have hs55:w54.cell? ⟨gb443,1,none⟩ = some (.int .i64 t439):=(blk_cell BK443.out 1).trans rfl
         have hfs55:=blk_frozen BK443.out 1
         have hns55_0:=NB434_443.out
         have hns55_1:=NB435_443.out
         have hms55_0:=NB443_434.out
         have hms55_1:=NB443_435.out
         refine skip_ (w1:=?_) (by rfl) rfl ?_ ?_
         rotate_left
         ·go_simp
          rfl
         refine hK.out _ _ ⟨((cell_far (p:=⟨gb443,_,none⟩) NB434_443.out _).trans (hHeld.1)),((cell_far (p:=⟨gb443,_,none⟩) NB434_443.out _).trans (hHeld.2.1)),((cell_far (p:=⟨gb443,_,none⟩) NB434_443.out _).trans (hHeld.2.2))⟩ (fun hHeld=>?_)
         clear hK K
         refine done_ (by kernel_rfl) ?_
         have hnb56:=NB443_435.out
         have hnc56:=NB435_443.out
         have hcz57_0:=bz0 BK443
         have hcz57_1:=bz1 BK443
         have hcz57_2:=bz2 BK443
         have hfz57_0:=bf BK443 0
         have hfz57_1:=bf BK443 1
         have hfz57_2:=bf BK443 2
         have hcz58_0:=bz0 BK435
         have hcz58_1:=bz1 BK435
         have hcz58_2:=bz2 BK435
         have hfz58_0:=bf BK435 0
         have hfz58_1:=bf BK435 1
         have hfz58_2:=bf BK435 2
         try go_wp2
         refine bodyPost_ret (results_ctt rfl _ _ gb435 26 #[.slice Ao13 t436.length co13,.int .i64 (Int.tmod (wrap64 (a0_1 + 1)) t446),.slice Ao17 t440.length co17] (0,0) _ rfl (by refine ms ?_;refine blk_put (cs:=#[.slice Ao13 t436.length co13,.int .i64 (Int.tmod (wrap64 (a0_1 + 1)) t446),.slice none 0 0]) ?_ 2 _ rfl;refine ms ?_;refine blk_put (cs:=#[.slice Ao13 t436.length co13,.int .i64 0,.slice none 0 0]) ?_ 1 _ rfl;refine ms ?_;refine blk_put (cs:=#[.slice none 0 0,.int .i64 0,.slice none 0 0]) ?_ 0 _ rfl;refine ms ?_;refine blk_far ?_ NB435_443.out _;refine ms ?_;exact BK435.out) Try.underlying26 rfl (by kernel_rfl)) rfl ?_
         exact ⟨_,_,by first | rfl | (simp [errW_none,errW_some] <;> rfl) | (simp [*,errW_none,errW_some] <;> rfl),by (with_reducible repeat (first | apply Kd.R_alloc | apply Kd.R_drewN | apply Kd.R_drew));exact Kd.R_mono (Kd.R_far (Kd.R_far (Kd.R_far (Kd.R_far (Kd.R_types (Kd.R_types HO_444000.out BK443.out (by decide)) BK435.out (by decide)) (fun _ hk=>hk.1.2) (.int .i64 (Int.tmod (wrap64 (a0_1 + 1)) t446))) (fun _ hk=>hk.2) _) (fun _ hk=>hk.2) (.int .i64 (Int.tmod (wrap64 (a0_1 + 1)) t446))) (fun _ hk=>hk.2) _) (fun _ hk=>hk.1.1),by (with_reducible repeat (first | apply Kd.R_alloc | apply Kd.R_drewN | apply Kd.R_drew));exact Kd.R_mono (Kd.R_far (Kd.R_far (Kd.R_far (Kd.R_far (Kd.R_types (Kd.R_types HO_444002.out BK443.out (by decide)) BK435.out (by decide)) (fun _ hk=>hk.1.2) (.int .i64 (Int.tmod (wrap64 (a0_1 + 1)) t446))) (fun _ hk=>hk.2) _) (fun _ hk=>hk.2) (.int .i64 (Int.tmod (wrap64 (a0_1 + 1)) t446))) (fun _ hk=>hk.2) _) (fun _ hk=>hk.1.1),mb HB⟩
       ·rw [if_neg c48] at H
        have c48b0:(a2 == 16) = false:=beq_eq_false_iff_ne.mpr c48
        have c48b1:(a2 != 16) = true:=bne_iff_ne.mpr c48
        have HC59:=Aside0.mk H
        clear H
        go_upto_region 10 with (fail)
        go_cut [51] (fun v51 wc=>∃ (kq:Nat) (x51_58:Bool),v51 = .bool x51_58 ∧ Aside0 (impl_DevDo.j2 kq a1 a2 a3 x51_58 l0_0 a0_1 l0_2 t436 t439 t440 = some (r1,r2,r3,r4,r5)) ∧ Aside0 (kq ≤ kj39) ∧ Aside0 (Kd.R (Kd.int .i64) 3 wc w.heap.size (fun k_=>some k_ ≠ ((.slice Ao17 t440.length co17):Value).ownBlock) (.slice Ao13 t436.length co13) t436) ∧ Aside0 (Kd.R (Kd.int .i64) 3 wc w.heap.size (fun k_=>some k_ ≠ ((.slice Ao13 t436.length co13):Value).ownBlock) (.slice Ao17 t440.length co17) t440) ∧ Aside0 (wc.heap[gb434]? = some (.cells #[(.slice A0_0 l0_0.length c0_0),.int .i64 a0_1,(.slice A0_2 l0_2.length c0_2)] 26 (0,0))) ∧ Aside0 (wc.heap[gb435]? = some (.cells #[(.slice none 0 0),.int .i64 0,(.slice none 0 0)] 26 (0,0))) ∧ Aside0 (wc.heap[gb443]? = some (.cells #[(.slice Ao13 t436.length co13),.int .i64 t439,(.slice Ao17 t440.length co17)] 26 (0,0))) ∧ Aside0 (Below w.heap.size w wc))
        case first =>
         have H:=HC59.out
         clear HC59
         by_cases c60:a2 = 20
         ·rw [if_pos c60] at H
          have c60b0:(a2 == 20) = true:=beq_iff_eq.mpr c60
          have c60b1:(a2 != 20) = false:=bne_eq_false_iff_eq.mpr c60
          clear c60
          (first | rw [c60b0] | (simp only [i64_w,i32_w];rw [c60b0]) | skip)
          by_cases c61:a1 = true
          ·subst c61
           have H1:(impl_DevDo.j2 kj39 true a2 a3 (decide ((l0_2.length:Int) < 4)) l0_0 a0_1 l0_2 t436 t439 t440) = some (r1,r2,r3,r4,r5):=by rw [if_pos rfl] at H;exact H
           clear H
           have H:=H1
           clear H1
           have H':=Aside0.mk H
           clear H
           have hnb62:=NB434_435.out
           have hnc62:=NB435_434.out
           have hnb63:=NB434_443.out
           have hnc63:=NB443_434.out
           have hcz64_0:=bz0 BK434
           have hcz64_1:=bz1 BK434
           have hcz64_2:=bz2 BK434
           have hfz64_0:=bf BK434 0
           have hfz64_1:=bf BK434 1
           have hfz64_2:=bf BK434 2
           go_wp2
           go_meet
           case rel=>exact ⟨_,(decide ((l0_2.length:Int) < 4)),(by first | rfl | (simp;done) | (simp [*];done)),H',⟨by have:=HJ5.out;have:=HJ39.out;first | omega | exact Nat.le_refl _⟩,⟨mr HO_444000⟩,⟨mr HO_444002⟩,⟨mz BK434⟩,⟨mz BK435⟩,⟨mz BK443⟩,⟨mb HB⟩⟩
          ·replace c61:=Bool.eq_false_iff.mpr c61
           subst c61
           have H1:(impl_DevDo.j2 kj39 false a2 a3 false l0_0 a0_1 l0_2 t436 t439 t440) = some (r1,r2,r3,r4,r5):=by rw [if_neg (show ¬ (false = true) by decide)] at H;exact H
           clear H
           have H:=H1
           clear H1
           have H':=Aside0.mk H
           clear H
           go_wp2
           go_meet
           case rel=>exact ⟨_,(false),(by first | rfl | (simp;done) | (simp [*];done)),H',⟨by have:=HJ5.out;have:=HJ39.out;first | omega | exact Nat.le_refl _⟩,⟨mr HO_444000⟩,⟨mr HO_444002⟩,⟨mz BK434⟩,⟨mz BK435⟩,⟨mz BK443⟩,⟨mb HB⟩⟩
         ·rw [if_neg c60] at H
          have c60b0:(a2 == 20) = false:=beq_eq_false_iff_ne.mpr c60
          have c60b1:(a2 != 20) = true:=bne_iff_ne.mpr c60
          (first | rw [c60b0] | (simp only [i64_w,i32_w];rw [c60b0]) | skip)
          have H':=Aside0.mk H
          clear H
          go_wp2
          go_meet
          case rel=>exact ⟨_,(false),(by first | rfl | (simp;done) | (simp [*];done)),H',⟨by have:=HJ5.out;have:=HJ39.out;first | omega | exact Nat.le_refl _⟩,⟨mr HO_444000⟩,⟨mr HO_444002⟩,⟨mz BK434⟩,⟨mz BK435⟩,⟨mz BK443⟩,⟨mb HB⟩⟩
        case rest =>
         clear HC59
         try clear c34
         try clear c42
         try clear c48
         try clear c48b0
         try clear c48b1
         try clear hcz10_0
         try clear hcz10_1
         try clear hcz10_2
         try clear hcz16_0
         try clear hcz16_1
         try clear hcz16_2
         try clear hfz10_0
         try clear hfz10_1
         try clear hfz10_2
         try clear hfz16_0
         try clear hfz16_1
         try clear hfz16_2
         obtain ⟨kq,x51_58,rfl,HA,HJ58,HO_444000,HO_444002,BK434,BK435,BK443,HB⟩:=hcut
         cases kq with
         | zero=>exact absurd HA.out (by simp [impl_DevDo.j2])
         | succ kj58 =>
          have H:=HA.out
          clear HA
          simp only [impl_DevDo.j2] at H
          by_cases c65:x51_58 = true
          ·subst c65
           have H1:(if t440.length < 17592186044416 then (some (t436,t439,(t440 ++ [a3]),a3,true)) else (none)) = some (r1,r2,r3,r4,r5):=by rw [if_pos rfl] at H;exact H
           clear H
           have H:=H1
           clear H1
           by_cases c66:t440.length < 17592186044416
           ·rw [if_pos c66] at H
            have LMc66:=Aside0.mk c66
            clear c66
            obtain ⟨y447,hy447⟩:∃ y_:List Int,y_ = (t440 ++ [a3]):=⟨_,rfl⟩
            replace H:(some (t436,t439,y447,a3,true)) = some (r1,r2,r3,r4,r5):=by first | (rw [hy447];with_reducible exact H) | (have H2_:=(Option.bind_some _ _).symm.trans H;rw [hy447];with_reducible exact H2_) | (have H2_:=(Option.bind_some _ _).symm.trans H;with_reducible exact H2_) | with_reducible exact H | (rw [hy447];exact H) | exact H
            have Ny447:=Aside0.mk hy447
            clear hy447
            simp only [Option.some.injEq,Prod.mk.injEq] at H
            obtain ⟨rfl,rfl,rfl,rfl,rfl⟩:=H
            have hnb67:=NB443_434.out
            have hnc67:=NB434_443.out
            have hnb68:=NB443_435.out
            have hnc68:=NB435_443.out
            have hcz69_0:=bz0 BK443
            have hcz69_1:=bz1 BK443
            have hcz69_2:=bz2 BK443
            have hfz69_0:=bf BK443 0
            have hfz69_1:=bf BK443 1
            have hfz69_2:=bf BK443 2
            go_wp2_with (first | ((with_reducible refine gate_builtin (b:=.append) (xs:=#[.tmp 64,.tmp 66]) rfl ?_);(try (refine gate_guard (by rfl) ?_;dsimp only));at_builtin;refine Kd.R_append (Kd.int .i64) (w0:=w) w.heap.size rfl (.tmp 64) (.tmp 66) 24 3 (.int .i64 0) 8 rfl Try.underlying24 info3 rfl (by decide) (by omega) (.slice Ao17 t440.length co17) t440 a3 [.int .i64 a3] (fun k_=>some k_ ≠ (.slice Ao13 t436.length co13:Value).ownBlock) (fun _=>False) rfl rfl ?aP (fun _ hk=>hk.elim) ?aF ?aO ?aB ?aS ?aL ?_;(case aP=>exact rfl);(case aB=>exact (mb HB));(case aF=>exact (fun k_ hk=>Kd.fresh' (Kd.R_lt (mr HO_444000)) k_ hk));(case aO=>exact (mr HO_444002));(case aS=>exact (below_size (mb HB)));(case aL=>have:=LMc66.out;omega);intro v448 w70 ho hb hg hat;rw [← Ny447.out] at ho;have n0_:=Az (Kd.R_after (ok:=(fun _=>True)) (by (with_reducible repeat (first | apply Kd.R_alloc | apply Kd.R_drewN | apply Kd.R_drew));exact Kd.R_mono HO_444000.out (fun _ hk=>⟨trivial,hk⟩)) hg hat);have n1_:=Az (blk_grown (mz BK434) hg (Kd.R_ne HO_444002.out BK434.out (by decide)));have n2_:=Az (blk_grown (mz BK435) hg (Kd.R_ne HO_444002.out BK435.out (by decide)));have n3_:=Az (blk_grown (mz BK443) hg (Kd.R_ne HO_444002.out BK443.out (by decide)));have n4_:=Az (hb);have n5_:=Az (ho);clear HO_444000 BK434 BK435 BK443 HB HO_444002;have HO_444000:=n0_;have BK434:=n1_;have BK435:=n2_;have BK443:=n3_;have HB:=n4_;have HO449:=n5_;clear n0_ n1_ n2_ n3_ n4_ n5_ ho hb hg hat;obtain ⟨Ao71,co71,eo71⟩:=Kd.R_slice HO449.out;subst eo71;have hcz72_0:=bz0 BK443;have hcz72_1:=bz1 BK443;have hcz72_2:=bz2 BK443;have hfz72_0:=bf BK443 0;have hfz72_1:=bf BK443 1;have hfz72_2:=bf BK443 2;have hnb73:=NB435_434.out;have hnc73:=NB434_435.out;have hcz74_0:=bz0 BK435;have hcz74_1:=bz1 BK435;have hcz74_2:=bz2 BK435;have hfz74_0:=bf BK435 0;have hfz74_1:=bf BK435 1;have hfz74_2:=bf BK435 2))
            refine bodyPost_ret (results_ctt rfl _ _ gb435 26 #[.slice Ao13 t436.length co13,.int .i64 t439,.slice Ao71 y447.length co71] (0,0) _ rfl (by refine ms ?_;refine blk_put (cs:=#[.slice Ao13 t436.length co13,.int .i64 t439,.slice none 0 0]) ?_ 2 _ rfl;refine ms ?_;refine blk_put (cs:=#[.slice Ao13 t436.length co13,.int .i64 0,.slice none 0 0]) ?_ 1 _ rfl;refine ms ?_;refine blk_put (cs:=#[.slice none 0 0,.int .i64 0,.slice none 0 0]) ?_ 0 _ rfl;refine ms ?_;refine blk_far ?_ NB435_443.out _;refine ms ?_;exact BK435.out) Try.underlying26 rfl (by kernel_rfl)) rfl ?_
            exact ⟨_,_,by first | rfl | (simp [errW_none,errW_some] <;> rfl) | (simp [*,errW_none,errW_some] <;> rfl),by (with_reducible repeat (first | apply Kd.R_alloc | apply Kd.R_drewN | apply Kd.R_drew));exact Kd.R_mono (Kd.R_far (Kd.R_far (Kd.R_far (Kd.R_far (Kd.R_types (Kd.R_types HO_444000.out BK443.out (by decide)) BK435.out (by decide)) (fun _ hk=>hk.1.2) _) (fun _ hk=>hk.2) _) (fun _ hk=>hk.2) _) (fun _ hk=>hk.2) _) (fun _ hk=>hk.1.1.2),by (with_reducible repeat (first | apply Kd.R_alloc | apply Kd.R_drewN | apply Kd.R_drew));exact Kd.R_mono (Kd.R_far (Kd.R_far (Kd.R_far (Kd.R_far (Kd.R_types (Kd.R_types HO449.out BK443.out (by decide)) BK435.out (by decide)) (fun _ hk=>hk.1.2) _) (fun _ hk=>hk.2) _) (fun _ hk=>hk.2) _) (fun _ hk=>hk.2) _) (fun _ hk=>hk.1.1),mb HB⟩
           ·rw [if_neg c66] at H
            exact absurd H (by simp)
          ·replace c65:=Bool.eq_false_iff.mpr c65
           subst c65
           have H1:(if a2 = 20 then (if a1 = true then (impl_DevDo.j3 kj58 a1 a2 a3 false l0_0 a0_1 l0_2 t436 t439 t440) else (impl_DevDo.j3 kj58 a1 a2 a3 (decide ((l0_2.length:Int) > 0)) l0_0 a0_1 l0_2 t436 t439 t440)) else (impl_DevDo.j3 kj58 a1 a2 a3 false l0_0 a0_1 l0_2 t436 t439 t440)) = some (r1,r2,r3,r4,r5):=by rw [if_neg (show ¬ (false = true) by decide)] at H;exact H
           clear H
           have H:=H1
           clear H1
           have HC75:=Aside0.mk H
           clear H
           go_upto_region 12 with (fail)
           go_cut [69] (fun v69 wc=>∃ (kq:Nat) (x69_74:Bool),v69 = .bool x69_74 ∧ Aside0 (impl_DevDo.j3 kq a1 a2 a3 x69_74 l0_0 a0_1 l0_2 t436 t439 t440 = some (r1,r2,r3,r4,r5)) ∧ Aside0 (kq ≤ kj58) ∧ Aside0 (Kd.R (Kd.int .i64) 3 wc w.heap.size (fun k_=>some k_ ≠ ((.slice Ao17 t440.length co17):Value).ownBlock) (.slice Ao13 t436.length co13) t436) ∧ Aside0 (Kd.R (Kd.int .i64) 3 wc w.heap.size (fun k_=>some k_ ≠ ((.slice Ao13 t436.length co13):Value).ownBlock) (.slice Ao17 t440.length co17) t440) ∧ Aside0 (wc.heap[gb434]? = some (.cells #[(.slice A0_0 l0_0.length c0_0),.int .i64 a0_1,(.slice A0_2 l0_2.length c0_2)] 26 (0,0))) ∧ Aside0 (wc.heap[gb435]? = some (.cells #[(.slice none 0 0),.int .i64 0,(.slice none 0 0)] 26 (0,0))) ∧ Aside0 (wc.heap[gb443]? = some (.cells #[(.slice Ao13 t436.length co13),.int .i64 t439,(.slice Ao17 t440.length co17)] 26 (0,0))) ∧ Aside0 (Below w.heap.size w wc))
           case first =>
            have H:=HC75.out
            clear HC75
            by_cases c76:a2 = 20
            ·rw [if_pos c76] at H
             have c76b0:(a2 == 20) = true:=beq_iff_eq.mpr c76
             have c76b1:(a2 != 20) = false:=bne_eq_false_iff_eq.mpr c76
             clear c76
             (first | rw [c76b0] | (simp only [i64_w,i32_w];rw [c76b0]) | skip)
             by_cases c77:a1 = true
             ·subst c77
              have H1:(impl_DevDo.j3 kj58 true a2 a3 false l0_0 a0_1 l0_2 t436 t439 t440) = some (r1,r2,r3,r4,r5):=by rw [if_pos rfl] at H;exact H
              clear H
              have H:=H1
              clear H1
              have H':=Aside0.mk H
              clear H
              go_wp2
              go_meet
              case rel=>exact ⟨_,(false),(by first | rfl | (simp;done) | (simp [*];done)),H',⟨by have:=HJ5.out;have:=HJ39.out;have:=HJ58.out;first | omega | exact Nat.le_refl _⟩,⟨mr HO_444000⟩,⟨mr HO_444002⟩,⟨mz BK434⟩,⟨mz BK435⟩,⟨mz BK443⟩,⟨mb HB⟩⟩
             ·replace c77:=Bool.eq_false_iff.mpr c77
              subst c77
              have H1:(impl_DevDo.j3 kj58 false a2 a3 (decide ((l0_2.length:Int) > 0)) l0_0 a0_1 l0_2 t436 t439 t440) = some (r1,r2,r3,r4,r5):=by rw [if_neg (show ¬ (false = true) by decide)] at H;exact H
              clear H
              have H:=H1
              clear H1
              have H':=Aside0.mk H
              clear H
              have hnb78:=NB434_435.out
              have hnc78:=NB435_434.out
              have hnb79:=NB434_443.out
              have hnc79:=NB443_434.out
              have hcz80_0:=bz0 BK434
              have hcz80_1:=bz1 BK434
              have hcz80_2:=bz2 BK434
              have hfz80_0:=bf BK434 0
              have hfz80_1:=bf BK434 1
              have hfz80_2:=bf BK434 2
              go_wp2
              go_meet
              case rel=>exact ⟨_,(decide ((l0_2.length:Int) > 0)),(by first | rfl | (simp;done) | (simp [*];done)),H',⟨by have:=HJ5.out;have:=HJ39.out;have:=HJ58.out;first | omega | exact Nat.le_refl _⟩,⟨mr HO_444000⟩,⟨mr HO_444002⟩,⟨mz BK434⟩,⟨mz BK435⟩,⟨mz BK443⟩,⟨mb HB⟩⟩
            ·rw [if_neg c76] at H
             have c76b0:(a2 == 20) = false:=beq_eq_false_iff_ne.mpr c76
             have c76b1:(a2 != 20) = true:=bne_iff_ne.mpr c76
             (first | rw [c76b0] | (simp only [i64_w,i32_w];rw [c76b0]) | skip)
             have H':=Aside0.mk H
             clear H
             go_wp2
             go_meet
             case rel=>exact ⟨_,(false),(by first | rfl | (simp;done) | (simp [*];done)),H',⟨by have:=HJ5.out;have:=HJ39.out;have:=HJ58.out;first | omega | exact Nat.le_refl _⟩,⟨mr HO_444000⟩,⟨mr HO_444002⟩,⟨mz BK434⟩,⟨mz BK435⟩,⟨mz BK443⟩,⟨mb HB⟩⟩
           case rest =>
            clear HC75
            try clear c34
            try clear c42
            try clear c48
            try clear c48b0
            try clear c48b1
            try clear c65
            try clear hcz10_0
            try clear hcz10_1
            try clear hcz10_2
            try clear hcz16_0
            try clear hcz16_1
            try clear hcz16_2
            try clear hfz10_0
            try clear hfz10_1
            try clear hfz10_2
            try clear hfz16_0
            try clear hfz16_1
            try clear hfz16_2
            obtain ⟨kq,x69_74,rfl,HA,HJ74,HO_444000,HO_444002,BK434,BK435,BK443,HB⟩:=hcut
            cases kq with
            | zero=>exact absurd HA.out (by simp [impl_DevDo.j3])
            | succ kj74 =>
             have H:=HA.out
             clear HA
             simp only [impl_DevDo.j3] at H
             by_cases c81:x69_74 = true
             ·subst c81
              have H1:(if 0 < (l0_2.length:Int) then (if 1 ≤ (l0_2.length:Int) then ((slices_Clone_int_int.f (l0_2.drop 1)).bind fun t452=>(some (t436,t439,t452,rd l0_2 0,true))) else (none)) else (none)) = some (r1,r2,r3,r4,r5):=by rw [if_pos rfl] at H;exact H
              clear H
              have H:=H1
              clear H1
              by_cases c82:0 < (l0_2.length:Int)
              ·rw [if_pos c82] at H
               have c82b0:decide (0 < (l0_2.length:Int)) = true:=decide_eq_true c82
               have c82b1:decide (0 < l0_2.length) = true:=decide_eq_true (by omega)
               clear c82
               by_cases c83:1 ≤ (l0_2.length:Int)
               ·rw [if_pos c83] at H
                have c83b0:=eq_true c83
                have c83b1:decide (1 ≤ (l0_2.length:Int)) = true:=decide_eq_true c83
                clear c83
                replace H:=Option.bind_eq_some_iff.mp H
                obtain ⟨t452,A840,H⟩:=H
                replace H:(some (t436,t439,t452,rd l0_2 0,true)) = some (r1,r2,r3,r4,r5):=H
                have A84:=Aside0.mk A840
                clear A840
                simp only [Option.some.injEq,Prod.mk.injEq] at H
                obtain ⟨rfl,rfl,rfl,rfl,rfl⟩:=H
                have hnb85:=NB434_435.out
                have hnc85:=NB435_434.out
                have hnb86:=NB434_443.out
                have hnc86:=NB443_434.out
                have hcz87_0:=bz0 BK434
                have hcz87_1:=bz1 BK434
                have hcz87_2:=bz2 BK434
                have hfz87_0:=bf BK434 0
                have hfz87_1:=bf BK434 1
                have hfz87_2:=bf BK434 2
                have p450:0 ≤ (0:Int):=(by omega)
                have q450:0 < (l0_2.length:Int):=of_decide_eq_true (by first | (with_reducible assumption) | assumption)
                obtain ⟨ad450,e450,hx450_0⟩:=Kd.at_int HR0_2.out 0 p450 q450
                cases e450
                have qi450:(0 < l0_2.length) = True:=eq_true (by omega)
                (try rw [show ((0:Int)).toNat = 0 from rfl] at hx450_0)
                (try rw [Addr.add_zero'] at hx450_0)
                replace hx450_0:=(HB.out.cell (World.block_lt_of_cell? w _ hx450_0)).trans hx450_0
                replace p450:=eq_true p450
                replace q450:=eq_true q450
                obtain ⟨i088,hi088,_,hsz88,_⟩:=info_parts info3
                obtain ⟨A88,hcut88,hA88,hC88⟩:=print_drop_of (P:=Try.prog) (Value.int .i64) 0 24 3 .i64 Try.underlying24 hi088 hsz88 (some ad450) c0_2 l0_2 1 (by omega) (of_decide_eq_true (by first | (with_reducible assumption) | assumption)) HC0_2.out
                have HR451:=Az (Kd.C_of_reads (h1:=fun _=>rfl) (hA88 _ (Kd.reads_of_C HR0_2.out)))
                have HC451:=Aside0.mk hC88
                clear hA88 hC88 hi088 hsz88
                go_wp2_with (first | ((with_reducible refine gate_callee (f:=77) rfl ?_);refine goesL_ (some 89) rfl rfl Try.func77 (by kernel_rfl) rfl #[.slice A88 (l0_2.drop 1).length (c0_2 - 1)] rfl (by (try simp only [List.map_toArray,List.map_cons,List.map_nil]);first | done | (rw [show (l0_2.drop 1).length = (l0_2.length - 1) from List.length_drop] <;> rfl) | rfl | (simp only [List.length_drop,List.length_take];rfl)) ?_;(with_reducible refine (slices_Clone_int_int.calls _ _ (l0_2.drop 1) t452 _ ?side1 ?side2 A84.out).mono ?_);(case side1=>exact mc (Kd.C_below HR451.out HB.out));(case side2=>exact HC451.out);rintro e w89 ⟨v453,rfl,ho0,hb⟩;refine ⟨_,rfl,?_⟩;have n0_:=Az (Kd.R_elder' (mr HO_444000) (Kd.R_base ho0) hb);have n1_:=Az (Kd.R_elder' (mr HO_444002) (Kd.R_base ho0) hb);have n2_:=Az (Kd.R_lower (Kd.R_new' (Kd.R_new' ho0 (Kd.R_lt (mr HO_444000))) (Kd.R_lt (mr HO_444002))) (below_size (mb HB)));have n3_:=Az (blk_below (mz BK434) hb);have n4_:=Az (blk_below (mz BK435) hb);have n5_:=Az (blk_below (mz BK443) hb);have n6_:=Az (below_step (mb HB) hb);clear HO_444000 HO_444002 BK434 BK435 BK443 HB;have HO_444000:=n0_;have HO_444002:=n1_;have HO454:=n2_;have BK434:=n3_;have BK435:=n4_;have BK443:=n5_;have HB:=n6_;clear n0_ n1_ n2_ n3_ n4_ n5_ n6_;(try clear hb);(try clear hb2);(try clear hk);(try clear hi);(try clear ho0);obtain ⟨Ao90,co90,eo90⟩:=Kd.R_slice HO454.out;subst eo90;have hnb91:=NB443_435.out;have hnc91:=NB435_443.out;have hcz92_0:=bz0 BK443;have hcz92_1:=bz1 BK443;have hcz92_2:=bz2 BK443;have hfz92_0:=bf BK443 0;have hfz92_1:=bf BK443 1;have hfz92_2:=bf BK443 2;have hcz93_0:=bz0 BK435;have hcz93_1:=bz1 BK435;have hcz93_2:=bz2 BK435;have hfz93_0:=bf BK435 0;have hfz93_1:=bf BK435 1;have hfz93_2:=bf BK435 2))
                refine bodyPost_ret (results_ctt rfl _ _ gb435 26 #[.slice Ao13 t436.length co13,.int .i64 t439,.slice Ao90 t452.length co90] (0,0) _ rfl (by refine ms ?_;refine blk_put (cs:=#[.slice Ao13 t436.length co13,.int .i64 t439,.slice none 0 0]) ?_ 2 _ rfl;refine ms ?_;refine blk_put (cs:=#[.slice Ao13 t436.length co13,.int .i64 0,.slice none 0 0]) ?_ 1 _ rfl;refine ms ?_;refine blk_put (cs:=#[.slice none 0 0,.int .i64 0,.slice none 0 0]) ?_ 0 _ rfl;refine ms ?_;refine blk_far ?_ NB435_443.out _;refine ms ?_;exact BK435.out) Try.underlying26 rfl (by kernel_rfl)) rfl ?_
                exact ⟨_,_,by first | rfl | (simp [errW_none,errW_some] <;> rfl) | (simp [*,errW_none,errW_some] <;> rfl),by (with_reducible repeat (first | apply Kd.R_alloc | apply Kd.R_drewN | apply Kd.R_drew));exact Kd.R_mono (Kd.R_far (Kd.R_far (Kd.R_far (Kd.R_far (Kd.R_types (Kd.R_types HO_444000.out BK443.out (by decide)) BK435.out (by decide)) (fun _ hk=>hk.1.2) _) (fun _ hk=>hk.2) _) (fun _ hk=>hk.2) _) (fun _ hk=>hk.2) _) (fun _ hk=>hk.1.1.2),by (with_reducible repeat (first | apply Kd.R_alloc | apply Kd.R_drewN | apply Kd.R_drew));exact Kd.R_mono (Kd.R_far (Kd.R_far (Kd.R_far (Kd.R_far (Kd.R_types (Kd.R_types HO454.out BK443.out (by decide)) BK435.out (by decide)) (fun _ hk=>hk.1.2) _) (fun _ hk=>hk.2) _) (fun _ hk=>hk.2) _) (fun _ hk=>hk.2) _) (fun _ hk=>hk.1.1.1.2),mb HB⟩
               ·rw [if_neg c83] at H
                exact absurd H (by simp)
              ·rw [if_neg c82] at H
               exact absurd H (by simp)
             ·replace c81:=Bool.eq_false_iff.mpr c81
              subst c81
              have H1:(if a2 ≥ 16 then (impl_DevDo.j4 kj74 a1 a2 a3 true l0_0 a0_1 l0_2 t436 t439 t440) else (if a2 < 0 then (impl_DevDo.j4 kj74 a1 a2 a3 true l0_0 a0_1 l0_2 t436 t439 t440) else (impl_DevDo.j4 kj74 a1 a2 a3 ((Int.tmod a2 4) != 0) l0_0 a0_1 l0_2 t436 t439 t440))) = some (r1,r2,r3,r4,r5):=by rw [if_neg (show ¬ (false = true) by decide)] at H;exact H
              clear H
              have H:=H1
              clear H1
              have HC94:=Aside0.mk H
              clear H
              go_upto_region 15 with (fail)
              go_cut [91] (fun v91 wc=>∃ (kq:Nat) (x91_93:Bool),v91 = .bool x91_93 ∧ Aside0 (impl_DevDo.j4 kq a1 a2 a3 x91_93 l0_0 a0_1 l0_2 t436 t439 t440 = some (r1,r2,r3,r4,r5)) ∧ Aside0 (kq ≤ kj74) ∧ Aside0 (Kd.R (Kd.int .i64) 3 wc w.heap.size (fun k_=>some k_ ≠ ((.slice Ao17 t440.length co17):Value).ownBlock) (.slice Ao13 t436.length co13) t436) ∧ Aside0 (Kd.R (Kd.int .i64) 3 wc w.heap.size (fun k_=>some k_ ≠ ((.slice Ao13 t436.length co13):Value).ownBlock) (.slice Ao17 t440.length co17) t440) ∧ Aside0 (wc.heap[gb434]? = some (.cells #[(.slice A0_0 l0_0.length c0_0),.int .i64 a0_1,(.slice A0_2 l0_2.length c0_2)] 26 (0,0))) ∧ Aside0 (wc.heap[gb435]? = some (.cells #[(.slice none 0 0),.int .i64 0,(.slice none 0 0)] 26 (0,0))) ∧ Aside0 (wc.heap[gb443]? = some (.cells #[(.slice Ao13 t436.length co13),.int .i64 t439,(.slice Ao17 t440.length co17)] 26 (0,0))) ∧ Aside0 (Below w.heap.size w wc))
              case first =>
               have H:=HC94.out
               clear HC94
               by_cases c95:a2 ≥ 16
               ·rw [if_pos c95] at H
                have c95b0:decide (16 ≤ a2) = true:=decide_eq_true c95
                clear c95
                (first | rw [c95b0] | (simp only [i64_w,i32_w];rw [c95b0]) | skip)
                have H':=Aside0.mk H
                clear H
                go_wp2
                go_meet
                case rel=>exact ⟨_,(true),(by first | rfl | (simp;done) | (simp [*];done)),H',⟨by have:=HJ5.out;have:=HJ39.out;have:=HJ58.out;have:=HJ74.out;first | omega | exact Nat.le_refl _⟩,⟨mr HO_444000⟩,⟨mr HO_444002⟩,⟨mz BK434⟩,⟨mz BK435⟩,⟨mz BK443⟩,⟨mb HB⟩⟩
               ·rw [if_neg c95] at H
                have c95b0:decide (16 ≤ a2) = false:=decide_eq_false c95
                clear c95
                (first | rw [c95b0] | (simp only [i64_w,i32_w];rw [c95b0]) | skip)
                by_cases c96:a2 < 0
                ·rw [if_pos c96] at H
                 have c96b0:decide (a2 < 0) = true:=decide_eq_true c96
                 clear c96
                 have H':=Aside0.mk H
                 clear H
                 go_wp2
                 go_meet
                 case rel=>exact ⟨_,(true),(by first | rfl | (simp;done) | (simp [*];done)),H',⟨by have:=HJ5.out;have:=HJ39.out;have:=HJ58.out;have:=HJ74.out;first | omega | exact Nat.le_refl _⟩,⟨mr HO_444000⟩,⟨mr HO_444002⟩,⟨mz BK434⟩,⟨mz BK435⟩,⟨mz BK443⟩,⟨mb HB⟩⟩
                ·rw [if_neg c96] at H
                 have c96b0:decide (a2 < 0) = false:=decide_eq_false c96
                 clear c96
                 have H':=Aside0.mk H
                 clear H
                 go_wp2
                 go_meet
                 case rel=>exact ⟨_,(((Int.tmod a2 4) != 0)),(by first | rfl | (simp;done) | (simp [*];done)),H',⟨by have:=HJ5.out;have:=HJ39.out;have:=HJ58.out;have:=HJ74.out;first | omega | exact Nat.le_refl _⟩,⟨mr HO_444000⟩,⟨mr HO_444002⟩,⟨mz BK434⟩,⟨mz BK435⟩,⟨mz BK443⟩,⟨mb HB⟩⟩
              case rest =>
               clear HC94
               try clear c34
               try clear c42
               try clear c48
               try clear c48b0
               try clear c48b1
               try clear c65
               try clear c81
               try clear hcz10_0
               try clear hcz10_1
               try clear hcz10_2
               try clear hcz16_0
               try clear hcz16_1
               try clear hcz16_2
               try clear hfz10_0
               try clear hfz10_1
               try clear hfz10_2
               try clear hfz16_0
               try clear hfz16_1
               try clear hfz16_2
               obtain ⟨kq,x91_93,rfl,HA,HJ93,HO_444000,HO_444002,BK434,BK435,BK443,HB⟩:=hcut
               cases kq with
               | zero=>exact absurd HA.out (by simp [impl_DevDo.j4])
               | succ kj93 =>
                have H:=HA.out
                clear HA
                simp only [impl_DevDo.j4] at H
                by_cases c97:x91_93 = true
                ·subst c97
                 have H1:(some (t436,t439,t440,0,false)) = some (r1,r2,r3,r4,r5):=by rw [if_pos rfl] at H;exact H
                 clear H
                 have H:=H1
                 clear H1
                 simp only [Option.some.injEq,Prod.mk.injEq] at H
                 obtain ⟨rfl,rfl,rfl,rfl,rfl⟩:=H
                 have hnb98:=NB443_434.out
                 have hnc98:=NB434_443.out
                 have hnb99:=NB443_435.out
                 have hnc99:=NB435_443.out
                 have hcz100_0:=bz0 BK443
                 have hcz100_1:=bz1 BK443
                 have hcz100_2:=bz2 BK443
                 have hfz100_0:=bf BK443 0
                 have hfz100_1:=bf BK443 1
                 have hfz100_2:=bf BK443 2
                 have hnb101:=NB435_434.out
                 have hnc101:=NB434_435.out
                 have hcz102_0:=bz0 BK435
                 have hcz102_1:=bz1 BK435
                 have hcz102_2:=bz2 BK435
                 have hfz102_0:=bf BK435 0
                 have hfz102_1:=bf BK435 1
                 have hfz102_2:=bf BK435 2
                 go_wp2
                 refine bodyPost_ret (results_ctt rfl _ _ gb435 26 #[.slice Ao13 t436.length co13,.int .i64 t439,.slice Ao17 t440.length co17] (0,0) _ rfl (by refine ms ?_;refine blk_put (cs:=#[.slice Ao13 t436.length co13,.int .i64 t439,.slice none 0 0]) ?_ 2 _ rfl;refine ms ?_;refine blk_put (cs:=#[.slice Ao13 t436.length co13,.int .i64 0,.slice none 0 0]) ?_ 1 _ rfl;refine ms ?_;refine blk_put (cs:=#[.slice none 0 0,.int .i64 0,.slice none 0 0]) ?_ 0 _ rfl;refine ms ?_;exact BK435.out) Try.underlying26 rfl (by kernel_rfl)) rfl ?_
                 exact ⟨_,_,by first | rfl | (simp [errW_none,errW_some] <;> rfl) | (simp [*,errW_none,errW_some] <;> rfl),by (with_reducible repeat (first | apply Kd.R_alloc | apply Kd.R_drewN | apply Kd.R_drew));exact Kd.R_mono (Kd.R_far (Kd.R_far (Kd.R_far (Kd.R_types HO_444000.out BK435.out (by decide)) (fun _ hk=>hk.2) _) (fun _ hk=>hk.2) _) (fun _ hk=>hk.2) _) (fun _ hk=>hk.1),by (with_reducible repeat (first | apply Kd.R_alloc | apply Kd.R_drewN | apply Kd.R_drew));exact Kd.R_mono (Kd.R_far (Kd.R_far (Kd.R_far (Kd.R_types HO_444002.out BK435.out (by decide)) (fun _ hk=>hk.2) _) (fun _ hk=>hk.2) _) (fun _ hk=>hk.2) _) (fun _ hk=>hk.1),mb HB⟩
                ·replace c97:=Bool.eq_false_iff.mpr c97
                 subst c97
                 have H1:(if a1 = true then (if 0 ≤ (wrap64 (Int.tdiv a2 4)) then (if (wrap64 (Int.tdiv a2 4)) < (t436.length:Int) then (some ((t436.set ((wrap64 (Int.tdiv a2 4)):Int).toNat a3),t439,t440,a3,true)) else (none)) else (none)) else (if 0 ≤ (wrap64 (Int.tdiv a2 4)) then (if (wrap64 (Int.tdiv a2 4)) < (l0_0.length:Int) then (some (t436,t439,t440,rd l0_0 (wrap64 (Int.tdiv a2 4)),true)) else (none)) else (none))) = some (r1,r2,r3,r4,r5):=by rw [if_neg (show ¬ (false = true) by decide)] at H;exact H
                 clear H
                 have H:=H1
                 clear H1
                 by_cases c103:a1 = true
                 ·subst c103
                  have H1:(if 0 ≤ (wrap64 (Int.tdiv a2 4)) then (if (wrap64 (Int.tdiv a2 4)) < (t436.length:Int) then (some ((t436.set ((wrap64 (Int.tdiv a2 4)):Int).toNat a3),t439,t440,a3,true)) else (none)) else (none)) = some (r1,r2,r3,r4,r5):=by rw [if_pos rfl] at H;exact H
                  clear H
                  have H:=H1
                  clear H1
                  obtain ⟨ji104,hji104⟩:∃ j_:Int,(wrap64 (Int.tdiv a2 4)) = j_:=⟨_,rfl⟩
                  replace H:(if 0 ≤ (ji104) then (if (ji104) < (t436.length:Int) then (some ((t436.set ((ji104):Int).toNat a3),t439,t440,a3,true)) else (none)) else (none)) = some (r1,r2,r3,r4,r5):=by first | (rw [hji104] at H;exact H) | (simp only [hji104] at H ⊢;exact H)
                  have hji104w:(IntKind.i64.wrap (Int.tdiv a2 4)) = ji104:=(i64_w _).trans hji104
                  by_cases c105:0 ≤ (ji104)
                  ·rw [if_pos c105] at H
                   have c105b0:decide (0 ≤ (ji104)) = true:=decide_eq_true c105
                   clear c105
                   by_cases c106:(ji104) < (t436.length:Int)
                   ·rw [if_pos c106] at H
                    have c106b0:decide ((ji104) < (t436.length:Int)) = true:=decide_eq_true c106
                    clear c106
                    obtain ⟨y455,hy455⟩:∃ y_:List Int,y_ = (t436.set ((ji104):Int).toNat a3):=⟨_,rfl⟩
                    replace H:(some (y455,t439,t440,a3,true)) = some (r1,r2,r3,r4,r5):=by first | (rw [hy455];with_reducible exact H) | (have H2_:=(Option.bind_some _ _).symm.trans H;rw [hy455];with_reducible exact H2_) | (have H2_:=(Option.bind_some _ _).symm.trans H;with_reducible exact H2_) | with_reducible exact H | (rw [hy455];exact H) | exact H
                    have Ny455:=Aside0.mk hy455
                    clear hy455
                    simp only [Option.some.injEq,Prod.mk.injEq] at H
                    obtain ⟨rfl,rfl,rfl,rfl,rfl⟩:=H
                    have hnb108:=NB443_434.out
                    have hnc108:=NB434_443.out
                    have hnb109:=NB443_435.out
                    have hnc109:=NB435_443.out
                    have hcz110_0:=bz0 BK443
                    have hcz110_1:=bz1 BK443
                    have hcz110_2:=bz2 BK443
                    have hfz110_0:=bf BK443 0
                    have hfz110_1:=bf BK443 1
                    have hfz110_2:=bf BK443 2
                    have p107:0 ≤ ((ji104):Int):=of_decide_eq_true (by first | (with_reducible assumption) | assumption)
                    have q107:((ji104):Int) < ((t436.length:Int):Int):=of_decide_eq_true (by first | (with_reducible assumption) | assumption)
                    obtain ⟨go107,co107,eo107,gb107,gl107,cl107,HG107⟩:=Kd.R_form HO_444000.out (by omega)
                    (first | cases eo107 | (injection eo107 with ea_ en_ ec_;(first | subst ea_ | (injection ea_ with ea_;subst ea_));subst ec_;clear en_))
                    have GB107:=Aside0.mk gb107
                    have GG107:=Aside0.mk HG107
                    clear gb107 gl107 HG107
                    obtain ⟨hx107_0,hf107_0⟩:=Kd.R_celln 0 HO_444000.out ((ji104):Int) p107 q107
                    replace p107:=eq_true p107
                    replace q107:=eq_true q107
                    have HP111:=Kd.R_putg HO_444000.out ((ji104):Int) a3
                    go_wp2_with (first | ((with_reducible refine gate_store (t:=3) (p:=111) rfl ?_);refine store_event (t:=3) (p:=111) (v:=?vo_w112) (w1:=(wc.setCell ⟨go107,((ji104):Int).toNat,none⟩ (.int .i64 a3))) ?hg ?ho ?hn ?hr ?_;(case ho=>rfl);(case hg=>rfl);(case hn=>rfl);(case hr=>first | (go_simp;done) | (go_simp;rfl));intro w112 hw;have hg:wc.grownBy w112 (some go107):=(by rw [hw];exact HP111.2);have hp_:Kd.R (Kd.int .i64) 3 w112 w.heap.size (fun k_=>some k_ ≠ (.slice Ao17 t440.length co17:Value).ownBlock) (.slice (some ⟨go107,0,none⟩) t436.length co13) y455:=(by rw [hw,Ny455.out];exact HP111.1);clear HP111;have n0_:=Az (hp_);have n1_:=Az (Kd.R_after (v:=(.slice (some ⟨go107,0,none⟩) t436.length co13)) (v1:=(.slice (some ⟨go107,0,none⟩) t436.length co13)) (ok:=(fun _=>True)) (by (with_reducible repeat (first | apply Kd.R_alloc | apply Kd.R_drewN | apply Kd.R_drew));exact Kd.R_mono HO_444002.out (fun _ hk=>⟨trivial,hk⟩)) hg (.inl rfl));have n2_:=Az (blk_grown (mz BK434) hg (Kd.R_ne HO_444000.out BK434.out (by decide)));have n3_:=Az (blk_grown (mz BK435) hg (Kd.R_ne HO_444000.out BK435.out (by decide)));have n4_:=Az (blk_grown (mz BK443) hg (Kd.R_ne HO_444000.out BK443.out (by decide)));have n5_:=Az ((by rw [hw];exact below_set (HB.out) GB107.out:Below w.heap.size w w112));clear HO_444000 HO_444002 BK434 BK435 BK443 HB;have HO_444000:=n0_;have HO_444002:=n1_;have BK434:=n2_;have BK435:=n3_;have BK443:=n4_;have HB:=n5_;clear n0_ n1_ n2_ n3_ n4_ n5_ hg hw hp_;have hcz113_0:=bz0 BK443;have hcz113_1:=bz1 BK443;have hcz113_2:=bz2 BK443;have hfz113_0:=bf BK443 0;have hfz113_1:=bf BK443 1;have hfz113_2:=bf BK443 2;have hnb114:=NB435_434.out;have hnc114:=NB434_435.out;have hcz115_0:=bz0 BK435;have hcz115_1:=bz1 BK435;have hcz115_2:=bz2 BK435;have hfz115_0:=bf BK435 0;have hfz115_1:=bf BK435 1;have hfz115_2:=bf BK435 2))
                    refine bodyPost_ret (results_ctt rfl _ _ gb435 26 #[.slice (some ⟨go107,0,none⟩) t436.length co13,.int .i64 t439,.slice Ao17 t440.length co17] (0,0) _ rfl (by refine ms ?_;refine blk_put (cs:=#[.slice (some ⟨go107,0,none⟩) t436.length co13,.int .i64 t439,.slice none 0 0]) ?_ 2 _ rfl;refine ms ?_;refine blk_put (cs:=#[.slice (some ⟨go107,0,none⟩) t436.length co13,.int .i64 0,.slice none 0 0]) ?_ 1 _ rfl;refine ms ?_;refine blk_put (cs:=#[.slice none 0 0,.int .i64 0,.slice none 0 0]) ?_ 0 _ rfl;refine ms ?_;exact BK435.out) Try.underlying26 rfl (by kernel_rfl)) rfl ?_
                    exact ⟨_,_,by first | rfl | (simp [errW_none,errW_some] <;> rfl) | (simp only [← hji104];first | rfl | (simp [errW_none,errW_some] <;> rfl)) | (simp [*,errW_none,errW_some] <;> rfl),by (with_reducible repeat (first | apply Kd.R_alloc | apply Kd.R_drewN | apply Kd.R_drew));exact Kd.R_mono (Kd.R_far (Kd.R_far (Kd.R_far (Kd.R_types HO_444000.out BK435.out (by decide)) (fun _ hk=>hk.2) (.slice (some ⟨go107,0,none⟩) t436.length co13)) (fun _ hk=>hk.2) _) (fun _ hk=>hk.2) _) (fun _ hk=>hk.1),by (with_reducible repeat (first | apply Kd.R_alloc | apply Kd.R_drewN | apply Kd.R_drew));exact Kd.R_mono (Kd.R_far (Kd.R_far (Kd.R_far (Kd.R_types HO_444002.out BK435.out (by decide)) (fun _ hk=>hk.2) (.slice (some ⟨go107,0,none⟩) t436.length co13)) (fun _ hk=>hk.2) _) (fun _ hk=>hk.2) _) (fun _ hk=>hk.1.2),mb HB⟩
                   ·rw [if_neg c106] at H
                    exact absurd H (by simp)
                  ·rw [if_neg c105] at H
                   exact absurd H (by simp)
                 ·replace c103:=Bool.eq_false_iff.mpr c103
                  subst c103
                  have H1:(if 0 ≤ (wrap64 (Int.tdiv a2 4)) then (if (wrap64 (Int.tdiv a2 4)) < (l0_0.length:Int) then (some (t436,t439,t440,rd l0_0 (wrap64 (Int.tdiv a2 4)),true)) else (none)) else (none)) = some (r1,r2,r3,r4,r5):=by rw [if_neg (show ¬ (false = true) by decide)] at H;exact H
                  clear H
                  have H:=H1
                  clear H1
                  obtain ⟨ji116,hji116⟩:∃ j_:Int,(wrap64 (Int.tdiv a2 4)) = j_:=⟨_,rfl⟩
                  replace H:(if 0 ≤ (ji116) then (if (ji116) < (l0_0.length:Int) then (some (t436,t439,t440,rd l0_0 (ji116),true)) else (none)) else (none)) = some (r1,r2,r3,r4,r5):=by first | (rw [hji116] at H;exact H) | (simp only [hji116] at H ⊢;exact H)
                  have hji116w:(IntKind.i64.wrap (Int.tdiv a2 4)) = ji116:=(i64_w _).trans hji116
                  by_cases c117:0 ≤ (ji116)
                  ·rw [if_pos c117] at H
                   have c117b0:decide (0 ≤ (ji116)) = true:=decide_eq_true c117
                   clear c117
                   by_cases c118:(ji116) < (l0_0.length:Int)
                   ·rw [if_pos c118] at H
                    have c118b0:decide ((ji116) < (l0_0.length:Int)) = true:=decide_eq_true c118
                    clear c118
                    simp only [Option.some.injEq,Prod.mk.injEq] at H
                    obtain ⟨rfl,rfl,rfl,rfl,rfl⟩:=H
                    have hnb119:=NB434_435.out
                    have hnc119:=NB435_434.out
                    have hnb120:=NB434_443.out
                    have hnc120:=NB443_434.out
                    have hcz121_0:=bz0 BK434
                    have hcz121_1:=bz1 BK434
                    have hcz121_2:=bz2 BK434
                    have hfz121_0:=bf BK434 0
                    have hfz121_1:=bf BK434 1
                    have hfz121_2:=bf BK434 2
                    have p456:0 ≤ ((ji116):Int):=of_decide_eq_true (by first | (with_reducible assumption) | assumption)
                    have q456:(ji116) < (l0_0.length:Int):=of_decide_eq_true (by first | (with_reducible assumption) | assumption)
                    obtain ⟨ad456,e456,hx456_0⟩:=Kd.at_int HR0_0.out (ji116) p456 q456
                    cases e456
                    replace hx456_0:=(HB.out.cell (World.block_lt_of_cell? w _ hx456_0)).trans hx456_0
                    replace p456:=eq_true p456
                    replace q456:=eq_true q456
                    have hnb122:=NB443_435.out
                    have hnc122:=NB435_443.out
                    have hcz123_0:=bz0 BK443
                    have hcz123_1:=bz1 BK443
                    have hcz123_2:=bz2 BK443
                    have hfz123_0:=bf BK443 0
                    have hfz123_1:=bf BK443 1
                    have hfz123_2:=bf BK443 2
                    have hcz124_0:=bz0 BK435
                    have hcz124_1:=bz1 BK435
                    have hcz124_2:=bz2 BK435
                    have hfz124_0:=bf BK435 0
                    have hfz124_1:=bf BK435 1
                    have hfz124_2:=bf BK435 2
                    go_wp2
                    refine bodyPost_ret (results_ctt rfl _ _ gb435 26 #[.slice Ao13 t436.length co13,.int .i64 t439,.slice Ao17 t440.length co17] (0,0) _ rfl (by refine ms ?_;refine blk_put (cs:=#[.slice Ao13 t436.length co13,.int .i64 t439,.slice none 0 0]) ?_ 2 _ rfl;refine ms ?_;refine blk_put (cs:=#[.slice Ao13 t436.length co13,.int .i64 0,.slice none 0 0]) ?_ 1 _ rfl;refine ms ?_;refine blk_put (cs:=#[.slice none 0 0,.int .i64 0,.slice none 0 0]) ?_ 0 _ rfl;refine ms ?_;exact BK435.out) Try.underlying26 rfl (by kernel_rfl)) rfl ?_
                    exact ⟨_,_,by first | rfl | (simp [errW_none,errW_some] <;> rfl) | (simp only [← hji116];first | rfl | (simp [errW_none,errW_some] <;> rfl)) | (simp [*,errW_none,errW_some] <;> rfl),by (with_reducible repeat (first | apply Kd.R_alloc | apply Kd.R_drewN | apply Kd.R_drew));exact Kd.R_mono (Kd.R_far (Kd.R_far (Kd.R_far (Kd.R_types HO_444000.out BK435.out (by decide)) (fun _ hk=>hk.2) _) (fun _ hk=>hk.2) _) (fun _ hk=>hk.2) _) (fun _ hk=>hk.1),by (with_reducible repeat (first | apply Kd.R_alloc | apply Kd.R_drewN | apply Kd.R_drew));exact Kd.R_mono (Kd.R_far (Kd.R_far (Kd.R_far (Kd.R_types HO_444002.out BK435.out (by decide)) (fun _ hk=>hk.2) _) (fun _ hk=>hk.2) _) (fun _ hk=>hk.2) _) (fun _ hk=>hk.1),mb HB⟩
                   ·rw [if_neg c118] at H
                    exact absurd H (by simp)
                  ·rw [if_neg c117] at H
                   exact absurd H (by simp)
end Go.Proofs.Ythikbgjlcdkoaaa.MFnModels

