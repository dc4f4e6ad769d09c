-- Written for this claim by a program of the session (wip/mk.py) over the kit's print.
import Derived.Test.YthikbgjlcdkoaaaMFnModelsx0
import Derived.Test.YthikbgjlcdkoaaaMFnModelsx6
import Derived.Test.YthikbgjlcdkoaaaMFnModelsx7
namespace Go.Proofs.Ythikbgjlcdkoaaa.MFnModels
open Go.RowKit Go.Proofs.YthikbgjlcdkoaaaW.PrintWords Go.Proofs.YthikbgjlcdkoaaaW.PrintLast Go.Proofs.YthikbgjlcdkoaaaW.PrintMore
attribute [local go_sem] max2_int min2_int max_two min_two max_three min_three max_four min_four
set_option linter.unusedVariables false
set_option linter.unusedSimpArgs false
def impl_ownModel.f (l0_0:List Int) (l0_1:List Int) (a0_2:Int) (l0_3:List Int):Option (List Int × List Int × Int × List Int):=(slices_Clone_int_int.f l0_0).bind fun t459=>((impl_ownDev.f l0_1 a0_2 l0_3).bind fun bt462=>(some (t459,bt462.1,bt462.2.1,bt462.2.2)))
def impl_ownModel.T1:Bool × List (List Nat × List Nat):=(true,[([],[]),([0],[0]),([1],[1]),([],[]),([3],[3]),([4,2],[4]),([2,5],[2,5]),([6,5,0,1,2,3,4,5,6],[6])])
def impl_ownModel.B1:List Nat:=[0,1,3,0,8,31,63,127]
theorem impl_ownModel.tab1:rtab .any (opsOf Try.f49 1) = impl_ownModel.T1:=by kernel_rfl
theorem impl_ownModel.bits1:waitsOk impl_ownModel.T1.2 impl_ownModel.B1 = true:=by kernel_rfl
set_option maxHeartbeats 8000000 in
set_option maxRecDepth 100000 in
theorem impl_ownModel.calls (A0_0:Option Addr) (c0_0:Nat) (l0_0:List Int) (A0_1:Option Addr) (c0_1:Nat) (l0_1:List Int) (a0_2:Int) (A0_3:Option Addr) (c0_3:Nat) (l0_3:List Int) (r1:List Int) (r2:List Int) (r3:Int) (r4:List Int) (w:World) (hr0_0:Kd.C (Kd.int .i64) w A0_0 l0_0.length l0_0) (hc0_0:l0_0.length ≤ c0_0) (hr0_1:Kd.C (Kd.int .i64) w A0_1 l0_1.length l0_1) (hc0_1:l0_1.length ≤ c0_1) (hr0_3:Kd.C (Kd.int .i64) w A0_3 l0_3.length l0_3) (hc0_3:l0_3.length ≤ c0_3) (h:impl_ownModel.f l0_0 l0_1 a0_2 l0_3 = some (r1,r2,r3,r4)) :
  Calls Try.prog 49 #[.agg #[.slice A0_0 l0_0.length c0_0,.slice A0_1 l0_1.length c0_1,.int .i64 a0_2,.slice A0_3 l0_3.length c0_3]] w fun e w'=>∃ v0_ v1_ v3_:Value,e = .returned (.agg #[v0_,v1_,.int .i64 r3,v3_]) ∧ Kd.R (Kd.int .i64) 3 w' w.heap.size (fun k_=>some k_ ≠ (v1_:Value).ownBlock ∧ some k_ ≠ (v3_:Value).ownBlock) v0_ r1 ∧ Kd.R (Kd.int .i64) 3 w' w.heap.size (fun k_=>some k_ ≠ (v0_:Value).ownBlock ∧ some k_ ≠ (v3_:Value).ownBlock) v1_ r2 ∧ Kd.R (Kd.int .i64) 3 w' w.heap.size (fun k_=>some k_ ≠ (v0_:Value).ownBlock ∧ some k_ ≠ (v1_:Value).ownBlock) v3_ r4 ∧ Below w.heap.size w w':=by
 have hu28:=Try.underlying28
 have hu26:=Try.underlying26
 have HR0_0:=Aside0.mk hr0_0
 have HC0_0:=Aside0.mk hc0_0
 clear hr0_0 hc0_0
 have HR0_1:=Aside0.mk hr0_1
 have HC0_1:=Aside0.mk hc0_1
 clear hr0_1 hc0_1
 have HR0_3:=Aside0.mk hr0_3
 have HC0_3:=Aside0.mk hc0_3
 clear hr0_3 hc0_3
 have HB:=Az (Below.refl w.heap.size w)
 have H:((slices_Clone_int_int.f l0_0).bind fun t459=>((impl_ownDev.f l0_1 a0_2 l0_3).bind fun bt462=>(some (t459,bt462.1,bt462.2.1,bt462.2.2)))) = some (r1,r2,r3,r4):=h
 clear h
 replace H:=Option.bind_eq_some_iff.mp H
 obtain ⟨t459,A20,H⟩:=H
 replace H:((impl_ownDev.f l0_1 a0_2 l0_3).bind fun bt462=>(some (t459,bt462.1,bt462.2.1,bt462.2.2))) = some (r1,r2,r3,r4):=H
 have A2:=Aside0.mk A20
 clear A20
 replace H:=Option.bind_eq_some_iff.mp H
 obtain ⟨⟨t462,t465,t466⟩,A30,H⟩:=H
 replace H:(some (t459,t462,t465,t466)) = some (r1,r2,r3,r4):=H
 have A3:=Aside0.mk A30
 clear A30
 simp only [Option.some.injEq,Prod.mk.injEq] at H
 obtain ⟨rfl,rfl,rfl,rfl⟩:=H
 go_enter Try.func49,Try.ntmps49
 try go_wp2_with (first | ((with_reducible refine gate_dst (N:=1) rfl ?_);refine box_event ?hg (N:=1) ?hd (cs:=#[.slice A0_0 l0_0.length c0_0,.slice A0_1 l0_1.length c0_1,.int .i64 a0_2,.slice A0_3 l0_3.length c0_3]) (t:=28) ?hr ?_;(case hd=>rfl);(case hg=>rfl);(case hr=>first | (go_simp;done) | (go_simp;rfl));intro gb457 hg w4 hbox hb;have n0_:=Az (below_step (mb HB) hb);have n1_:=Az (hbox);have n2_:=Az ((by rw [hg];exact (below_size (mb HB)):w.heap.size ≤ gb457));have n3_:=Az ((by rw [hg];exact (below_size (mb HB)):w.heap.size ≤ gb457));clear HB;have HB:=n0_;have BK457:=n1_;have GW457:=n2_;have GE457:=n3_;clear n0_ n1_ n2_ n3_;clear hb hbox hg) | ((with_reducible refine gate_dst (N:=2) rfl ?_);refine box_event ?hg (N:=2) ?hd (cs:=#[.slice none 0 0,.slice none 0 0,.int .i64 0,.slice none 0 0]) (t:=28) ?hr ?_;(case hd=>rfl);(case hg=>rfl);(case hr=>first | (go_simp;done) | (go_simp;rfl));intro gb458 hg w5 hbox hb;have n0_:=Az (blk_below (mz BK457) hb);have n1_:=Az (below_step (mb HB) hb);have n2_:=Az (hbox);have n3_:=Az ((by rw [hg];exact (below_size (mb HB)):w.heap.size ≤ gb458));have n4_:=Az ((by rw [hg];exact (below_size (mb HB)):w.heap.size ≤ gb458));have n5_:=Az ((by rw [hg];exact Nat.ne_of_lt (blk_lt (mz BK457)):gb457 ≠ gb458));have n6_:=Az ((by rw [hg];exact Nat.ne_of_gt (blk_lt (mz BK457)):gb458 ≠ gb457));clear BK457 HB;have BK457:=n0_;have HB:=n1_;have BK458:=n2_;have GW458:=n3_;have GE458:=n4_;have NB457_458:=n5_;have NB458_457:=n6_;clear n0_ n1_ n2_ n3_ n4_ n5_ n6_;clear hb hbox hg))
 have n0_:=Az (blk_drew BK457.out)
 have n1_:=Az (blk_drew BK458.out)
 have n2_:=Az (below_drew1 HB.out)
 clear BK457 BK458 HB
 have BK457:=n0_
 have BK458:=n1_
 have HB:=n2_
 clear n0_ n1_ n2_
 refine start_ (n:=8) (S:=fun w'=>w'.cell? ⟨gb457,0,none⟩ = some (.slice A0_0 l0_0.length c0_0) ∧ w'.cell? ⟨gb457,1,none⟩ = some (.slice A0_1 l0_1.length c0_1) ∧ w'.cell? ⟨gb457,2,none⟩ = some (.int .i64 a0_2) ∧ w'.cell? ⟨gb457,3,none⟩ = some (.slice A0_3 l0_3.length c0_3)) (ds:=[]) #[false,false,false,false,false,false,false,false] (by kernel_rfl) rfl rfl ⟨(blk_cell BK457.out 0).trans rfl,(blk_cell BK457.out 1).trans rfl,(blk_cell BK457.out 2).trans rfl,(blk_cell BK457.out 3).trans rfl⟩ (fun hHeld=>?_);refine with_tabW impl_ownModel.tab1 impl_ownModel.bits1 (fun HT_ HW_=>?_)
 generalize w5.drew = w6 at BK457 BK458 HB hHeld ⊢
 refine pure_ (i:=0) (N:=some 3) (v:=?_) (a':=?_) #[true,false,false,false,false,false,false,false] rfl rfl (any_of HT_.out (by kernel_rfl)) (fun _ _ _ h=>h) (Or.inl ⟨by rfl,?_⟩) ?_ ?_
 rotate_left
 ·intro w'
  go_simp
  with_reducible rfl
 rotate_left
 ·simp only [Act.put,List.setIfInBounds_toArray,List.set_cons_zero,List.set_cons_succ,i64_w,i32_w]
  rfl
 refine pure_ (i:=3) (N:=some 6) (v:=?_) (a':=?_) #[true,false,false,true,false,false,false,false] rfl rfl (any_of HT_.out (by kernel_rfl)) (fun _ _ _ h=>h) (Or.inl ⟨by rfl,?_⟩) ?_ ?_
 rotate_left
 ·intro w'
  go_simp
  with_reducible rfl
 rotate_left
 ·simp only [Act.put,List.setIfInBounds_toArray,List.set_cons_zero,List.set_cons_succ,i64_w,i32_w]
  rfl
 refine take_ (i:=1) (N:=some 4) (v:=?_) (a':=?_) #[true,true,false,true,false,false,false,false] rfl rfl (take_ofW HT_.out HW_.out (by kernel_rfl)) (fun _ _ _ h=>h) (Or.inl ⟨by rfl,?_⟩) hHeld ?_ ?_
 rotate_left
 ·rintro w' ⟨s0,s1,s2,s3⟩
  go_simp
  with_reducible rfl
 rotate_left
 ·simp only [Act.put,List.setIfInBounds_toArray,List.set_cons_zero,List.set_cons_succ,i64_w,i32_w]
  rfl
 refine take_ (i:=4) (N:=some 7) (v:=?_) (a':=?_) #[true,true,false,true,true,false,false,false] rfl rfl (take_ofW HT_.out HW_.out (by kernel_rfl)) (fun _ _ _ h=>h) (Or.inl ⟨by rfl,?_⟩) hHeld ?_ ?_
 rotate_left
 ·rintro w' ⟨s0,s1,s2,s3⟩
  go_simp
  with_reducible rfl
 rotate_left
 ·simp only [Act.put,List.setIfInBounds_toArray,List.set_cons_zero,List.set_cons_succ,i64_w,i32_w]
  rfl
 refine one_ (i:=2) (N:=some 5) #[true,true,true,true,true,false,false,false] rfl rfl (one_of HT_.out (by kernel_rfl)) (by decide) (fun K hK=>?_)
 refine goes_ Try.func77 (by kernel_rfl) rfl #[.slice A0_0 l0_0.length c0_0] (by rfl) rfl rfl ml ?_
 with_reducible refine (slices_Clone_int_int.calls _ _ l0_0 t459 _ ?side1 ?side2 A2.out).mono ?_
 (case side1=>exact mc (Kd.C_below HR0_0.out HB.out))
 (case side2=>exact HC0_0.out)
 rintro e w7 ⟨v460,rfl,ho0,hb⟩
 refine ⟨_,rfl,?_⟩
 have n0_:=Az (Kd.R_lower ho0 (below_size (mb HB)))
 have n1_:=Az (blk_below (mz BK457) hb)
 have n2_:=Az (blk_below (mz BK458) hb)
 have n3_:=Az (below_step (mb HB) hb)
 clear BK457 BK458 HB
 have HO461:=n0_
 have BK457:=n1_
 have BK458:=n2_
 have HB:=n3_
 clear n0_ n1_ n2_ n3_
 (try clear hb)
 (try clear hb2)
 (try clear hk)
 (try clear hi)
 (try clear ho0)
 refine hK.out _ _ ⟨(blk_cell BK457.out 0).trans rfl,(blk_cell BK457.out 1).trans rfl,(blk_cell BK457.out 2).trans rfl,(blk_cell BK457.out 3).trans rfl⟩ (fun hHeld=>?_)
 clear hK K
 refine norm_ (a':=?_) ?_ ?_
 rotate_left
 ·show Act.put _ (some 5) _ = _
  simp only [Act.put,List.setIfInBounds_toArray,List.set_cons_zero,List.set_cons_succ,i64_w,i32_w]
  rfl
 refine one_ (i:=5) (N:=some 8) #[true,true,true,true,true,true,false,false] rfl rfl (one_of HT_.out (by kernel_rfl)) (by decide) (fun K hK=>?_)
 refine goes_ Try.func75 (by kernel_rfl) rfl #[.agg #[.slice A0_1 l0_1.length c0_1,.int .i64 a0_2,.slice A0_3 l0_3.length c0_3]] (by rfl) rfl rfl ml ?_
 with_reducible refine (impl_ownDev.calls _ _ l0_1 a0_2 _ _ l0_3 t462 t465 t466 _ ?side1 ?side2 ?side3 ?side4 A3.out).mono ?_
 (case side1=>exact mc (Kd.C_below HR0_1.out HB.out))
 (case side2=>exact HC0_1.out)
 (case side3=>exact mc (Kd.C_below HR0_3.out HB.out))
 (case side4=>exact HC0_3.out)
 rintro e w8 ⟨v463,v467,rfl,ho0,ho1,hb⟩
 refine ⟨_,rfl,?_⟩
 have n0_:=Az (Kd.R_mono (Kd.R_told (Kd.R_told (Kd.R_old (mr HO461) hb) (Kd.R_base ho0)) (Kd.R_base ho1)) (fun _ h_=>h_.1))
 have n1_:=Az (Kd.R_lower (Kd.R_new' ho0 (Kd.R_lt (mr HO461))) (below_size (mb HB)))
 have n2_:=Az (Kd.R_lower (Kd.R_new' ho1 (Kd.R_lt (mr HO461))) (below_size (mb HB)))
 have n3_:=Az (blk_below (mz BK457) hb)
 have n4_:=Az (blk_below (mz BK458) hb)
 have n5_:=Az (below_step (mb HB) hb)
 clear HO461 BK457 BK458 HB
 have HO461:=n0_
 have HO464:=n1_
 have HO468:=n2_
 have BK457:=n3_
 have BK458:=n4_
 have HB:=n5_
 clear n0_ n1_ n2_ n3_ n4_ n5_
 (try clear hb)
 (try clear hb2)
 (try clear hk)
 (try clear hi)
 (try clear ho0)
 (try clear ho1)
 obtain ⟨Ao9,co9,eo9⟩:=Kd.R_slice HO468.out
 (first | subst eo9 | (injection eo9 with f1_ f2_ f3_;have f4_:=f1_.symm;have f5_:=f3_.symm;clear f1_ f2_ f3_;subst f4_;subst f5_))
 obtain ⟨Ao10,co10,eo10⟩:=Kd.R_slice HO464.out
 (first | subst eo10 | (injection eo10 with f1_ f2_ f3_;have f4_:=f1_.symm;have f5_:=f3_.symm;clear f1_ f2_ f3_;subst f4_;subst f5_))
 obtain ⟨Ao11,co11,eo11⟩:=Kd.R_slice HO461.out
 (first | subst eo11 | (injection eo11 with f1_ f2_ f3_;have f4_:=f1_.symm;have f5_:=f3_.symm;clear f1_ f2_ f3_;subst f4_;subst f5_))
 refine hK.out _ _ ⟨(blk_cell BK457.out 0).trans rfl,(blk_cell BK457.out 1).trans rfl,(blk_cell BK457.out 2).trans rfl,(blk_cell BK457.out 3).trans rfl⟩ (fun hHeld=>?_)
 clear hK K
 refine norm_ (a':=?_) ?_ ?_
 rotate_left
 ·show Act.put _ (some 8) _ = _
  simp only [Act.put,List.setIfInBounds_toArray,List.set_cons_zero,List.set_cons_succ,i64_w,i32_w]
  rfl
 refine pure_ (i:=6) (N:=some 9) (v:=?_) (a':=?_) #[true,true,true,true,true,true,true,false] rfl rfl (any_of HT_.out (by kernel_rfl)) (fun _ _ _ h=>h) (Or.inl ⟨by rfl,?_⟩) ?_ ?_
 rotate_left
 ·intro w'
  go_simp
  with_reducible rfl
 rotate_left
 ·simp only [Act.put,List.setIfInBounds_toArray,List.set_cons_zero,List.set_cons_succ,i64_w,i32_w]
  rfl
 refine one_ (i:=7) (N:=none) #[true,true,true,true,true,true,true,true] rfl rfl (one_of HT_.out (by kernel_rfl)) (by decide) (fun K hK=>?_)
 have hs12:w8.cell? ⟨gb458,0,none⟩ = some (.slice none 0 0):=(blk_cell BK458.out 0).trans rfl
 have hfs12:=blk_frozen BK458.out 0
 have hns12_0:=NB457_458.out
 have hms12_0:=NB458_457.out
 have hs13:w8.cell? ⟨gb458,1,none⟩ = some (.slice none 0 0):=(blk_cell BK458.out 1).trans rfl
 have hfs13:=blk_frozen BK458.out 1
 have hns13_0:=NB457_458.out
 have hms13_0:=NB458_457.out
 have hs14:w8.cell? ⟨gb458,2,none⟩ = some (.int .i64 0):=(blk_cell BK458.out 2).trans rfl
 have hfs14:=blk_frozen BK458.out 2
 have hns14_0:=NB457_458.out
 have hms14_0:=NB458_457.out
 have hs15:w8.cell? ⟨gb458,3,none⟩ = some (.slice none 0 0):=(blk_cell BK458.out 3).trans rfl
 have hfs15:=blk_frozen BK458.out 3
 have hns15_0:=NB457_458.out
 have hms15_0:=NB458_457.out
 refine skip_ (w1:=?_) (by rfl) rfl ?_ ?_
 rotate_left
 ·go_simp
  rfl
 refine hK.out _ _ ⟨((cell_far (p:=⟨gb458,_,none⟩) NB457_458.out _).trans (((cell_far (p:=⟨gb458,_,none⟩) NB457_458.out _).trans (((cell_far (p:=⟨gb458,_,none⟩) NB457_458.out _).trans (((cell_far (p:=⟨gb458,_,none⟩) NB457_458.out _).trans (hHeld.1)))))))),((cell_far (p:=⟨gb458,_,none⟩) NB457_458.out _).trans (((cell_far (p:=⟨gb458,_,none⟩) NB457_458.out _).trans (((cell_far (p:=⟨gb458,_,none⟩) NB457_458.out _).trans (((cell_far (p:=⟨gb458,_,none⟩) NB457_458.out _).trans (hHeld.2.1)))))))),((cell_far (p:=⟨gb458,_,none⟩) NB457_458.out _).trans (((cell_far (p:=⟨gb458,_,none⟩) NB457_458.out _).trans (((cell_far (p:=⟨gb458,_,none⟩) NB457_458.out _).trans (((cell_far (p:=⟨gb458,_,none⟩) NB457_458.out _).trans (hHeld.2.2.1)))))))),((cell_far (p:=⟨gb458,_,none⟩) NB457_458.out _).trans (((cell_far (p:=⟨gb458,_,none⟩) NB457_458.out _).trans (((cell_far (p:=⟨gb458,_,none⟩) NB457_458.out _).trans (((cell_far (p:=⟨gb458,_,none⟩) NB457_458.out _).trans (hHeld.2.2.2))))))))⟩ (fun hHeld=>?_)
 clear hK K
 refine done_ (done_of HT_.out (by kernel_rfl)) ?_
 try go_wp2
 refine bodyPost_ret (results_cell_row rfl _ _ gb458 28 #[.slice Ao11 t459.length co11,.slice Ao10 t462.length co10,.int .i64 t465,.slice Ao9 t466.length co9] (0,0) _ rfl (by refine ms ?_;refine blk_put (cs:=#[.slice Ao11 t459.length co11,.slice Ao10 t462.length co10,.int .i64 t465,.slice none 0 0]) ?_ 3 _ rfl;refine ms ?_;refine blk_put (cs:=#[.slice Ao11 t459.length co11,.slice Ao10 t462.length co10,.int .i64 0,.slice none 0 0]) ?_ 2 _ rfl;refine ms ?_;refine blk_put (cs:=#[.slice Ao11 t459.length co11,.slice none 0 0,.int .i64 0,.slice none 0 0]) ?_ 1 _ rfl;refine ms ?_;refine blk_put (cs:=#[.slice none 0 0,.slice none 0 0,.int .i64 0,.slice none 0 0]) ?_ 0 _ rfl;refine ms ?_;exact BK458.out) Try.underlying28 rfl (by kernel_rfl)) rfl ?_
 exact ⟨_,_,_,by first | rfl | (simp [errW_none,errW_some] <;> rfl) | (simp [*,errW_none,errW_some] <;> rfl),by (with_reducible repeat (first | apply Kd.R_alloc | apply Kd.R_drewN | apply Kd.R_drew));exact Kd.R_mono (Kd.R_far (Kd.R_far (Kd.R_far (Kd.R_far (Kd.R_types HO461.out BK458.out (by decide)) (fun _ hk=>hk.2) _) (fun _ hk=>hk.2) _) (fun _ hk=>hk.2) _) (fun _ hk=>hk.2) _) (fun _ hk=>⟨hk.1.1.2,hk.1.2⟩),by (with_reducible repeat (first | apply Kd.R_alloc | apply Kd.R_drewN | apply Kd.R_drew));exact Kd.R_mono (Kd.R_far (Kd.R_far (Kd.R_far (Kd.R_far (Kd.R_types HO464.out BK458.out (by decide)) (fun _ hk=>hk.2) _) (fun _ hk=>hk.2) _) (fun _ hk=>hk.2) _) (fun _ hk=>hk.2) _) (fun _ hk=>⟨hk.1.2,hk.1.1⟩),by (with_reducible repeat (first | apply Kd.R_alloc | apply Kd.R_drewN | apply Kd.R_drew));exact Kd.R_mono (Kd.R_far (Kd.R_far (Kd.R_far (Kd.R_far (Kd.R_types HO468.out BK458.out (by decide)) (fun _ hk=>hk.2) _) (fun _ hk=>hk.2) _) (fun _ hk=>hk.2) _) (fun _ hk=>hk.2) _) (fun _ hk=>⟨hk.1.2,hk.1.1⟩),mb HB⟩
def impl_SlaveOf.j0:Nat → Int → Bool → Option (Int)
 | 0,_,_=>none
 | k + 1,x0,x3=>if x3 = true then (some 0) else (if x0 < 128 then (some 1) else (if x0 < 192 then (some 2) else (some 3)))
def impl_SlaveOf.f (k:Nat) (a0:Int):Option (Int):=if a0 < 0 then (impl_SlaveOf.j0 k a0 true) else (impl_SlaveOf.j0 k a0 (decide (a0 ≥ 224)))
set_option maxHeartbeats 8000000 in
set_option maxRecDepth 100000 in
theorem impl_SlaveOf.calls (k:Nat) (a0:Int) (r:Int) (w:World) (h:impl_SlaveOf.f k a0 = some r) :
  Calls Try.prog 52 #[.int .i64 a0] w fun e w'=>e = .returned (.int .i64 r) ∧ Drawn0 w w':=by
 have H:(if a0 < 0 then (impl_SlaveOf.j0 k a0 true) else (impl_SlaveOf.j0 k a0 (decide (a0 ≥ 224)))) = some r:=h
 clear h
 have HC2:=Aside0.mk H
 clear H
 go_enter Try.func52,Try.ntmps52
 go_upto_region 1 with (fail)
 go_cut [3] (fun v3 wc=>∃ (kq:Nat) (x3_1:Bool),v3 = .bool x3_1 ∧ Aside0 (impl_SlaveOf.j0 kq a0 x3_1 = some r) ∧ Aside0 (kq ≤ k) ∧ Drawn0 w wc)
 case first =>
  have H:=HC2.out
  clear HC2
  by_cases c3:a0 < 0
  ·rw [if_pos c3] at H
   have c3b0:decide (a0 < 0) = true:=decide_eq_true c3
   clear c3
   (first | rw [c3b0] | (simp only [i64_w,i32_w];rw [c3b0]) | skip)
   have H':=Aside0.mk H
   clear H
   go_wp2
   go_meet
   case rel=>exact ⟨_,(true),(by first | rfl | (simp;done) | (simp [*];done)),H',⟨by first | omega | exact Nat.le_refl _⟩,by repeat (first | exact Drawn0.refl _ | apply Drawn0.step)⟩
  ·rw [if_neg c3] at H
   have c3b0:decide (a0 < 0) = false:=decide_eq_false c3
   clear c3
   (first | rw [c3b0] | (simp only [i64_w,i32_w];rw [c3b0]) | skip)
   have H':=Aside0.mk H
   clear H
   go_wp2
   go_meet
   case rel=>exact ⟨_,(decide (a0 ≥ 224)),(by first | rfl | (simp;done) | (simp [*];done)),H',⟨by first | omega | exact Nat.le_refl _⟩,by repeat (first | exact Drawn0.refl _ | apply Drawn0.step)⟩
 case rest =>
  clear HC2
  obtain ⟨kq,x3_1,rfl,HA,HJ1,⟨mc1,rfl⟩⟩:=hcut
  cases kq with
  | zero=>exact absurd HA.out (by simp [impl_SlaveOf.j0])
  | succ kj1 =>
   have H:=HA.out
   clear HA
   simp only [impl_SlaveOf.j0] at H
   by_cases c4:x3_1 = true
   ·subst c4
    have H1:(some 0) = some r:=by rw [if_pos rfl] at H;exact H
    clear H
    have H:=H1
    clear H1
    obtain rfl:=Option.some.inj H
    go_wp2
    go_ret
    exact ⟨by first | rfl | (simp;done) | (simp [*];done),by repeat (first | exact Drawn0.refl _ | apply Drawn0.step)⟩
   ·replace c4:=Bool.eq_false_iff.mpr c4
    subst c4
    have H1:(if a0 < 128 then (some 1) else (if a0 < 192 then (some 2) else (some 3))) = some r:=by rw [if_neg (show ¬ (false = true) by decide)] at H;exact H
    clear H
    have H:=H1
    clear H1
    by_cases c5:a0 < 128
    ·rw [if_pos c5] at H
     have c5b0:decide (a0 < 128) = true:=decide_eq_true c5
     clear c5
     obtain rfl:=Option.some.inj H
     go_wp2
     go_ret
     exact ⟨by first | rfl | (simp;done) | (simp [*];done),by repeat (first | exact Drawn0.refl _ | apply Drawn0.step)⟩
    ·rw [if_neg c5] at H
     have c5b0:decide (a0 < 128) = false:=decide_eq_false c5
     clear c5
     by_cases c6:a0 < 192
     ·rw [if_pos c6] at H
      have c6b0:decide (a0 < 192) = true:=decide_eq_true c6
      clear c6
      obtain rfl:=Option.some.inj H
      go_wp2
      go_ret
      exact ⟨by first | rfl | (simp;done) | (simp [*];done),by repeat (first | exact Drawn0.refl _ | apply Drawn0.step)⟩
     ·rw [if_neg c6] at H
      have c6b0:decide (a0 < 192) = false:=decide_eq_false c6
      clear c6
      obtain rfl:=Option.some.inj H
      go_wp2
      go_ret
      exact ⟨by first | rfl | (simp;done) | (simp [*];done),by repeat (first | exact Drawn0.refl _ | apply Drawn0.step)⟩
mutual
def impl_PutNum.j0:Nat → Int → Int → Int → List Int → Bool → Option (List Int × Bool)
 | 0,_,_,_,_,_=>none
 | k + 1,x1,x2,x3,x10,x24=>if x24 = true then (some (x10,false)) else ((impl_BytesOf.f x2).bind fun t474=>(impl_PutNum.l0 k x1 x3 x10 t474 0))
def impl_PutNum.l0:Nat → Int → Int → List Int → Int → Int → Option (List Int × Bool)
 | 0,_,_,_,_,_=>none
 | k + 1,x1,x3,x10,x27,x28=>if x28 < x27 then (if 0 ≤ (wrap64 (8 * x28)) then (if 0 ≤ (wrap64 (x1 + x28)) then (if (wrap64 (x1 + x28)) < (x10.length:Int) then (impl_PutNum.l0 k x1 x3 (x10.set ((wrap64 (x1 + x28)):Int).toNat (Go.bits .and .i64 (shr .i64 x3 (wrap64 (8 * x28))) 255)) x27 (wrap64 (x28 + 1))) else (none)) else (none)) else (none)) else (some (x10,true))
end
def impl_PutNum.f (k:Nat) (l0:List Int) (a1:Int) (a2:Int) (a3:Int):Option (List Int × Bool):=(slices_Clone_int_int.f l0).bind fun t469=>((impl_fits.f k l0 a1 a2).bind fun t472=>(if t472 = true then ((impl_isNum.f a3 a2).bind fun t473=>(impl_PutNum.j0 k a1 a2 a3 t469 (!t473))) else (impl_PutNum.j0 k a1 a2 a3 t469 true)))
set_option maxHeartbeats 8000000 in
set_option maxRecDepth 100000 in
theorem impl_PutNum.calls (k:Nat) (A0:Option Addr) (c0:Nat) (l0:List Int) (a1:Int) (a2:Int) (a3:Int) (r1:List Int) (r2:Bool) (w:World) (hr0:Kd.C (Kd.int .i64) w A0 l0.length l0) (hc0:l0.length ≤ c0) (h:impl_PutNum.f k l0 a1 a2 a3 = some (r1,r2)) :
  Calls Try.prog 53 #[.slice A0 l0.length c0,.int .i64 a1,.int .i64 a2,.int .i64 a3] w fun e w'=>∃ v0_:Value,e = .returned (.tuple #[v0_,.bool r2]) ∧ Kd.R (Kd.int .i64) 3 w' w.heap.size (fun _=>True) v0_ r1 ∧ Below w.heap.size w w':=by
 have HR0:=Aside0.mk hr0
 have HC0:=Aside0.mk hc0
 clear hr0 hc0
 have HB:=Az (Below.refl w.heap.size w)
 have H:((slices_Clone_int_int.f l0).bind fun t469=>((impl_fits.f k l0 a1 a2).bind fun t472=>(if t472 = true then ((impl_isNum.f a3 a2).bind fun t473=>(impl_PutNum.j0 k a1 a2 a3 t469 (!t473))) else (impl_PutNum.j0 k a1 a2 a3 t469 true)))) = some (r1,r2):=h
 clear h
 replace H:=Option.bind_eq_some_iff.mp H
 obtain ⟨t469,A50,H⟩:=H
 replace H:((impl_fits.f k l0 a1 a2).bind fun t472=>(if t472 = true then ((impl_isNum.f a3 a2).bind fun t473=>(impl_PutNum.j0 k a1 a2 a3 t469 (!t473))) else (impl_PutNum.j0 k a1 a2 a3 t469 true))) = some (r1,r2):=H
 have A5:=Aside0.mk A50
 clear A50
 have HC6:=Aside0.mk H
 clear H
 go_enter Try.func53,Try.ntmps53
 go_upto_region 2 with (first | ((with_reducible refine gate_callee (f:=77) rfl ?_);refine goesL_ (some 13) rfl rfl Try.func77 (by kernel_rfl) rfl #[.slice A0 l0.length c0] rfl ml ?_;(with_reducible refine (slices_Clone_int_int.calls _ _ l0 t469 _ ?side1 ?side2 A5.out).mono ?_);(case side1=>repeat (first | exact HR0.out | (with_reducible refine Kd.C_alloc ?_ _) | (with_reducible refine Kd.C_drewN ?_ _) | (with_reducible refine Kd.C_drew ?_)));(case side2=>exact HC0.out);rintro e w7 ⟨v470,rfl,ho0,hb⟩;refine ⟨_,rfl,?_⟩;have n0_:=Az (Kd.R_lower ho0 (below_size (mb HB)));have n1_:=Az (below_step (mb HB) hb);clear HB;have HO471:=n0_;have HB:=n1_;clear n0_ n1_;(try clear hb);(try clear hb2);(try clear hk);(try clear hi);(try clear ho0)))
 (try simp only [Act.put,List.setIfInBounds_toArray,List.set_cons_zero,List.set_cons_succ])
 go_cut [24] (fun v24 wc=>∃ (kq:Nat) (x24_5:Bool),v24 = .bool x24_5 ∧ Aside0 (impl_PutNum.j0 kq a1 a2 a3 t469 x24_5 = some (r1,r2)) ∧ Aside0 (kq ≤ k) ∧ Aside0 (Kd.R (Kd.int .i64) 3 wc w.heap.size (fun _=>True) v470 t469) ∧ Aside0 (Below w.heap.size w wc))
 case first =>
  have H:=HC6.out
  clear HC6
  replace H:=Option.bind_eq_some_iff.mp H
  obtain ⟨t472,A80,H⟩:=H
  replace H:(if t472 = true then ((impl_isNum.f a3 a2).bind fun t473=>(impl_PutNum.j0 k a1 a2 a3 t469 (!t473))) else (impl_PutNum.j0 k a1 a2 a3 t469 true)) = some (r1,r2):=H
  have A8:=Aside0.mk A80
  clear A80
  by_cases c9:t472 = true
  ·subst c9
   have H1:((impl_isNum.f a3 a2).bind fun t473=>(impl_PutNum.j0 k a1 a2 a3 t469 (!t473))) = some (r1,r2):=by rw [if_pos rfl] at H;exact H
   clear H
   have H:=H1
   clear H1
   replace H:=Option.bind_eq_some_iff.mp H
   obtain ⟨t473,A100,H⟩:=H
   replace H:(impl_PutNum.j0 k a1 a2 a3 t469 (!t473)) = some (r1,r2):=H
   have A10:=Aside0.mk A100
   clear A100
   have H':=Aside0.mk H
   clear H
   go_wp2_with (first | ((with_reducible refine gate_callee (f:=63) rfl ?_);refine goesL_ (some 17) rfl rfl Try.func63 (by kernel_rfl) rfl #[.slice A0 l0.length c0,.int .i64 a1,.int .i64 a2] rfl ml ?_;(with_reducible refine (impl_fits.calls k _ _ l0 a1 a2 true _ ?side1 ?side2 A8.out).mono ?_);(case side1=>exact mc (Kd.C_below HR0.out HB.out));(case side2=>exact HC0.out);rintro e w' ⟨rfl,⟨nd,rfl⟩⟩;refine ⟨_,rfl,?_⟩) | (go_at_call 51;(with_reducible refine (impl_isNum.calls a3 a2 t473 _ A10.out).mono ?_);rintro e w' ⟨rfl,⟨nd,rfl⟩⟩))
   go_meet
   case rel=>exact ⟨_,(!t473),(by first | rfl | (simp;done) | (simp [*];done)),H',⟨by first | omega | exact Nat.le_refl _⟩,⟨mr HO471⟩,⟨mb HB⟩⟩
  ·replace c9:=Bool.eq_false_iff.mpr c9
   subst c9
   have H1:(impl_PutNum.j0 k a1 a2 a3 t469 true) = some (r1,r2):=by rw [if_neg (show ¬ (false = true) by decide)] at H;exact H
   clear H
   have H:=H1
   clear H1
   have H':=Aside0.mk H
   clear H
   go_wp2_with (first | ((with_reducible refine gate_callee (f:=63) rfl ?_);refine goesL_ (some 17) rfl rfl Try.func63 (by kernel_rfl) rfl #[.slice A0 l0.length c0,.int .i64 a1,.int .i64 a2] rfl ml ?_;(with_reducible refine (impl_fits.calls k _ _ l0 a1 a2 false _ ?side1 ?side2 A8.out).mono ?_);(case side1=>exact mc (Kd.C_below HR0.out HB.out));(case side2=>exact HC0.out);rintro e w' ⟨rfl,⟨nd,rfl⟩⟩;refine ⟨_,rfl,?_⟩))
   go_meet
   case rel=>exact ⟨_,(true),(by first | rfl | (simp;done) | (simp [*];done)),H',⟨by first | omega | exact Nat.le_refl _⟩,⟨mr HO471⟩,⟨mb HB⟩⟩
 case rest =>
  clear HC6
  obtain ⟨kq,x24_5,rfl,HA,HJ5,HO_10,HB⟩:=hcut
  cases kq with
  | zero=>exact absurd HA.out (by simp [impl_PutNum.j0])
  | succ kj5 =>
   have H:=HA.out
   clear HA
   simp only [impl_PutNum.j0] at H
   by_cases c11:x24_5 = true
   ·subst c11
    have H1:(some (t469,false)) = some (r1,r2):=by rw [if_pos rfl] at H;exact H
    clear H
    have H:=H1
    clear H1
    simp only [Option.some.injEq,Prod.mk.injEq] at H
    obtain ⟨rfl,rfl⟩:=H
    go_wp2
    go_ret2
    exact ⟨_,by first | rfl | (simp [errW_none,errW_some] <;> rfl) | (simp [*,errW_none,errW_some] <;> rfl),mr HO_10,mb HB⟩
   ·replace c11:=Bool.eq_false_iff.mpr c11
    subst c11
    have H1:((impl_BytesOf.f a2).bind fun t474=>(impl_PutNum.l0 kj5 a1 a3 t469 t474 0)) = some (r1,r2):=by rw [if_neg (show ¬ (false = true) by decide)] at H;exact H
    clear H
    have H:=H1
    clear H1
    replace H:=Option.bind_eq_some_iff.mp H
    obtain ⟨t474,A120,H⟩:=H
    replace H:(impl_PutNum.l0 kj5 a1 a3 t469 t474 0) = some (r1,r2):=H
    have A12:=Aside0.mk A120
    clear A120
    have H':=Aside0.mk H
    clear H
    go_wp2_with (first | ((with_reducible refine gate_callee (f:=82) rfl ?_);refine goesL_ (some 27) rfl rfl Try.func82 (by kernel_rfl) rfl #[.int .i64 a2] rfl ml ?_;(with_reducible refine (impl_BytesOf.calls a2 t474 _ A12.out).mono ?_);rintro e w' ⟨rfl,⟨nd,rfl⟩⟩;refine ⟨_,rfl,?_⟩))
    go_loopg [28] kj5 (fun kq v28 w'=>∃ (x10_2:List Int) (x28_2:Int),v28 = .int .i64 x28_2 ∧ Aside0 (impl_PutNum.l0 kq a1 a3 x10_2 t474 x28_2 = some (r1,r2)) ∧ Aside0 (kq ≤ kj5) ∧ Aside0 (Kd.R (Kd.int .i64) 3 w' w.heap.size (fun _=>True) v470 x10_2) ∧ Aside0 (Below w.heap.size w w'))
    case atStart=>exact ⟨(t469),(0),(by first | rfl | (simp;done) | (simp [*];done)),H',⟨Nat.le_refl _⟩,⟨mr HO_10⟩,⟨mb HB⟩⟩
    case round =>
     clear H'
     try clear c11
     obtain ⟨x10_2,x28_2,rfl,HA,HK2,HO_10,HB⟩:=hrel
     cases gk with
     | zero=>exact absurd HA.out (by simp [impl_PutNum.l0])
     | succ k2 =>
      have H:=HA.out
      clear HA
      simp only [impl_PutNum.l0] at H
      by_cases c13:x28_2 < t474
      ·rw [if_pos c13] at H
       have c13b0:decide (x28_2 < t474) = true:=decide_eq_true c13
       clear c13
       obtain ⟨ji14,hji14⟩:∃ j_:Int,(wrap64 (8 * x28_2)) = j_:=⟨_,rfl⟩
       replace H:(if 0 ≤ (ji14) then (if 0 ≤ (wrap64 (a1 + x28_2)) then (if (wrap64 (a1 + x28_2)) < (x10_2.length:Int) then (impl_PutNum.l0 k2 a1 a3 (x10_2.set ((wrap64 (a1 + x28_2)):Int).toNat (Go.bits .and .i64 (shr .i64 a3 (ji14)) 255)) t474 (wrap64 (x28_2 + 1))) else (none)) else (none)) else (none)) = some (r1,r2):=by first | (rw [hji14] at H;exact H) | (simp only [hji14] at H ⊢;exact H)
       have hji14w:(IntKind.i64.wrap (8 * x28_2)) = ji14:=(i64_w _).trans hji14
       by_cases c15:0 ≤ (ji14)
       ·rw [if_pos c15] at H
        have c15b0:=eq_true c15
        have c15b1:decide (0 ≤ (ji14)) = true:=decide_eq_true c15
        clear c15
        obtain ⟨ji16,hji16⟩:∃ j_:Int,(shr .i64 a3 (ji14)) = j_:=⟨_,rfl⟩
        replace H:(if 0 ≤ (wrap64 (a1 + x28_2)) then (if (wrap64 (a1 + x28_2)) < (x10_2.length:Int) then (impl_PutNum.l0 k2 a1 a3 (x10_2.set ((wrap64 (a1 + x28_2)):Int).toNat (Go.bits .and .i64 (ji16) 255)) t474 (wrap64 (x28_2 + 1))) else (none)) else (none)) = some (r1,r2):=by first | (rw [hji16] at H;exact H) | (simp only [hji16] at H ⊢;exact H)
        have hji16_:(a3 / 2 ^ min (ji14).toNat 64) = ji16:=hji16
        have hji16z:(ji14) ≤ 64 → (a3 / 2 ^ (ji14).toNat) = ji16:=shr_small hji16
        obtain ⟨ji17,hji17⟩:∃ j_:Int,(wrap64 (a1 + x28_2)) = j_:=⟨_,rfl⟩
        replace H:(if 0 ≤ (ji17) then (if (ji17) < (x10_2.length:Int) then (impl_PutNum.l0 k2 a1 a3 (x10_2.set ((ji17):Int).toNat (Go.bits .and .i64 (ji16) 255)) t474 (wrap64 (x28_2 + 1))) else (none)) else (none)) = some (r1,r2):=by first | (rw [hji17] at H;exact H) | (simp only [hji17] at H ⊢;exact H)
        have hji17w:(IntKind.i64.wrap (a1 + x28_2)) = ji17:=(i64_w _).trans hji17
        by_cases c18:0 ≤ (ji17)
        ·rw [if_pos c18] at H
         have c18b0:decide (0 ≤ (ji17)) = true:=decide_eq_true c18
         clear c18
         by_cases c19:(ji17) < (x10_2.length:Int)
         ·rw [if_pos c19] at H
          have c19b0:decide ((ji17) < (x10_2.length:Int)) = true:=decide_eq_true c19
          clear c19
          obtain ⟨y475,hy475⟩:∃ y_:List Int,y_ = (x10_2.set ((ji17):Int).toNat (Go.bits .and .i64 (ji16) 255)):=⟨_,rfl⟩
          replace H:(impl_PutNum.l0 k2 a1 a3 y475 t474 (wrap64 (x28_2 + 1))) = some (r1,r2):=by first | (rw [hy475];with_reducible exact H) | (have H2_:=(Option.bind_some _ _).symm.trans H;rw [hy475];with_reducible exact H2_) | (have H2_:=(Option.bind_some _ _).symm.trans H;with_reducible exact H2_) | with_reducible exact H | (rw [hy475];exact H) | exact H
          have Ny475:=Aside0.mk hy475
          clear hy475
          have H':=Aside0.mk H
          clear H
          have p20:0 ≤ ((ji17):Int):=of_decide_eq_true (by first | (with_reducible assumption) | assumption)
          have q20:((ji17):Int) < ((x10_2.length:Int):Int):=of_decide_eq_true (by first | (with_reducible assumption) | assumption)
          obtain ⟨go20,co20,eo20,gb20,gl20,cl20,HG20⟩:=Kd.R_form HO_10.out (by omega)
          (first | cases eo20 | (injection eo20 with ea_ en_ ec_;(first | subst ea_ | (injection ea_ with ea_;subst ea_));subst ec_;clear en_))
          have GB20:=Aside0.mk gb20
          have GG20:=Aside0.mk HG20
          clear gb20 gl20 HG20
          obtain ⟨hx20_0,hf20_0⟩:=Kd.R_celln 0 HO_10.out ((ji17):Int) p20 q20
          replace p20:=eq_true p20
          replace q20:=eq_true q20
          have HP21:=Kd.R_putg HO_10.out ((ji17):Int) (Go.bits .and .i64 (ji16) 255)
          go_wp2_with (first | ((with_reducible refine gate_store (t:=3) (p:=40) rfl ?_);refine store_event (t:=3) (p:=40) (v:=?vo_w22) (w1:=(wr.setCell ⟨go20,((ji17):Int).toNat,none⟩ (.int .i64 (Go.bits .and .i64 (ji16) 255)))) ?hg ?ho ?hn ?hr ?_;(case ho=>rfl);(case hg=>rfl);(case hn=>rfl);(case hr=>first | (go_simp;done) | (go_simp;rfl));intro w22 hw;have hg:wr.grownBy w22 (some go20):=(by rw [hw];exact HP21.2);have hp_:Kd.R (Kd.int .i64) 3 w22 w.heap.size (fun _=>True) (.slice (some ⟨go20,0,none⟩) x10_2.length co20) y475:=(by rw [hw,Ny475.out];exact HP21.1);clear HP21;have n0_:=Az (hp_);have n1_:=Az ((by rw [hw];exact below_set (HB.out) GB20.out:Below w.heap.size w w22));clear HO_10 HB;have HO_10:=n0_;have HB:=n1_;clear n0_ n1_;clear hg hw hp_))
          go_roundg k2
          case measure=>have:=HJ5.out;have:=HK2.out;omega
          case rel=>exact ⟨(y475),(wrap64 (x28_2 + 1)),(by first | rfl | (simp;done) | (simp [*];done)),H',⟨by have:=HJ5.out;have:=HK2.out;omega⟩,⟨mr HO_10⟩,⟨mb HB⟩⟩
         ·rw [if_neg c19] at H
          exact absurd H (by simp)
        ·rw [if_neg c18] at H
         exact absurd H (by simp)
       ·rw [if_neg c15] at H
        exact absurd H (by simp)
      ·rw [if_neg c13] at H
       have c13b0:decide (x28_2 < t474) = false:=decide_eq_false c13
       clear c13
       simp only [Option.some.injEq,Prod.mk.injEq] at H
       obtain ⟨rfl,rfl⟩:=H
       go_wp2
       go_ret2
       exact ⟨_,by first | rfl | (simp [errW_none,errW_some] <;> rfl) | (simp [*,errW_none,errW_some] <;> rfl),mr HO_10,mb HB⟩
def impl_GetNum.l0:Nat → List Int → Int → Int → Int → Int → Option (Int × Bool)
 | 0,_,_,_,_,_=>none
 | k + 1,x0,x1,x8,x16,x17=>if x17 < x16 then (if 0 ≤ (wrap64 (x1 + x17)) then (if (wrap64 (x1 + x17)) < (x0.length:Int) then (if 0 ≤ (wrap64 (8 * x17)) then (impl_GetNum.l0 k x0 x1 (Go.bits .or .i64 x8 (shl .i64 (rd x0 (wrap64 (x1 + x17))) (wrap64 (8 * x17)))) x16 (wrap64 (x17 + 1))) else (none)) else (none)) else (none)) else (some (x8,true))
def impl_GetNum.f (k:Nat) (l0:List Int) (a1:Int) (a2:Int):Option (Int × Bool):=(impl_fits.f k l0 a1 a2).bind fun t476=>(if t476 = true then ((impl_BytesOf.f a2).bind fun t477=>(impl_GetNum.l0 k l0 a1 0 t477 0)) else (some (0,false)))
set_option maxHeartbeats 8000000 in
set_option maxRecDepth 100000 in
theorem impl_GetNum.calls (k:Nat) (A0:Option Addr) (c0:Nat) (l0:List Int) (a1:Int) (a2:Int) (r1:Int) (r2:Bool) (w:World) (hr0:Kd.C (Kd.int .i64) w A0 l0.length l0) (hc0:l0.length ≤ c0) (h:impl_GetNum.f k l0 a1 a2 = some (r1,r2)) :
  Calls Try.prog 54 #[.slice A0 l0.length c0,.int .i64 a1,.int .i64 a2] w fun e w'=>e = .returned (.tuple #[.int .i64 r1,.bool r2]) ∧ Drawn0 w w':=by
 have HR0:=Aside0.mk hr0
 have HC0:=Aside0.mk hc0
 clear hr0 hc0
 have H:((impl_fits.f k l0 a1 a2).bind fun t476=>(if t476 = true then ((impl_BytesOf.f a2).bind fun t477=>(impl_GetNum.l0 k l0 a1 0 t477 0)) else (some (0,false)))) = some (r1,r2):=h
 clear h
 replace H:=Option.bind_eq_some_iff.mp H
 obtain ⟨t476,A40,H⟩:=H
 replace H:(if t476 = true then ((impl_BytesOf.f a2).bind fun t477=>(impl_GetNum.l0 k l0 a1 0 t477 0)) else (some (0,false))) = some (r1,r2):=H
 have A4:=Aside0.mk A40
 clear A40
 by_cases c5:t476 = true
 ·subst c5
  have H1:((impl_BytesOf.f a2).bind fun t477=>(impl_GetNum.l0 k l0 a1 0 t477 0)) = some (r1,r2):=by rw [if_pos rfl] at H;exact H
  clear H
  have H:=H1
  clear H1
  replace H:=Option.bind_eq_some_iff.mp H
  obtain ⟨t477,A60,H⟩:=H
  replace H:(impl_GetNum.l0 k l0 a1 0 t477 0) = some (r1,r2):=H
  have A6:=Aside0.mk A60
  clear A60
  have H':=Aside0.mk H
  clear H
  go_enter Try.func54,Try.ntmps54
  go_wp2_with (first | ((with_reducible refine gate_callee (f:=63) rfl ?_);refine goesL_ (some 13) rfl rfl Try.func63 (by kernel_rfl) rfl #[.slice A0 l0.length c0,.int .i64 a1,.int .i64 a2] rfl ml ?_;(with_reducible refine (impl_fits.calls k _ _ l0 a1 a2 true _ ?side1 ?side2 A4.out).mono ?_);(case side1=>repeat (first | exact HR0.out | (with_reducible refine Kd.C_alloc ?_ _) | (with_reducible refine Kd.C_drewN ?_ _) | (with_reducible refine Kd.C_drew ?_)));(case side2=>exact HC0.out);rintro e w' ⟨rfl,⟨nd,rfl⟩⟩;refine ⟨_,rfl,?_⟩) | ((with_reducible refine gate_callee (f:=82) rfl ?_);refine goesL_ (some 16) rfl rfl Try.func82 (by kernel_rfl) rfl #[.int .i64 a2] rfl ml ?_;(with_reducible refine (impl_BytesOf.calls a2 t477 _ A6.out).mono ?_);rintro e w' ⟨rfl,⟨nd,rfl⟩⟩;refine ⟨_,rfl,?_⟩))
  go_loopg [8,17] k (fun kq v8 v17 w'=>∃ (x8_1:Int) (x17_1:Int),v8 = .int .i64 x8_1 ∧ v17 = .int .i64 x17_1 ∧ Aside0 (impl_GetNum.l0 kq l0 a1 x8_1 t477 x17_1 = some (r1,r2)) ∧ Aside0 (kq ≤ k) ∧ Drawn0 w w')
  case atStart=>exact ⟨(0),(0),(by first | rfl | (simp;done) | (simp [*];done)),(by first | rfl | (simp;done) | (simp [*];done)),H',⟨Nat.le_refl _⟩,by repeat (first | exact Drawn0.refl _ | apply Drawn0.step)⟩
  case round =>
   clear H'
   try clear c5
   obtain ⟨x8_1,x17_1,rfl,rfl,HA,HK1,⟨m1,rfl⟩⟩:=hrel
   cases gk with
   | zero=>exact absurd HA.out (by simp [impl_GetNum.l0])
   | succ k1 =>
    have H:=HA.out
    clear HA
    simp only [impl_GetNum.l0] at H
    by_cases c7:x17_1 < t477
    ·rw [if_pos c7] at H
     have c7b0:decide (x17_1 < t477) = true:=decide_eq_true c7
     clear c7
     obtain ⟨ji8,hji8⟩:∃ j_:Int,(wrap64 (a1 + x17_1)) = j_:=⟨_,rfl⟩
     replace H:(if 0 ≤ (ji8) then (if (ji8) < (l0.length:Int) then (if 0 ≤ (wrap64 (8 * x17_1)) then (impl_GetNum.l0 k1 l0 a1 (Go.bits .or .i64 x8_1 (shl .i64 (rd l0 (ji8)) (wrap64 (8 * x17_1)))) t477 (wrap64 (x17_1 + 1))) else (none)) else (none)) else (none)) = some (r1,r2):=by first | (rw [hji8] at H;exact H) | (simp only [hji8] at H ⊢;exact H)
     have hji8w:(IntKind.i64.wrap (a1 + x17_1)) = ji8:=(i64_w _).trans hji8
     by_cases c9:0 ≤ (ji8)
     ·rw [if_pos c9] at H
      have c9b0:decide (0 ≤ (ji8)) = true:=decide_eq_true c9
      clear c9
      by_cases c10:(ji8) < (l0.length:Int)
      ·rw [if_pos c10] at H
       have c10b0:decide ((ji8) < (l0.length:Int)) = true:=decide_eq_true c10
       clear c10
       obtain ⟨ji11,hji11⟩:∃ j_:Int,(wrap64 (8 * x17_1)) = j_:=⟨_,rfl⟩
       replace H:(if 0 ≤ (ji11) then (impl_GetNum.l0 k1 l0 a1 (Go.bits .or .i64 x8_1 (shl .i64 (rd l0 (ji8)) (ji11))) t477 (wrap64 (x17_1 + 1))) else (none)) = some (r1,r2):=by first | (rw [hji11] at H;exact H) | (simp only [hji11] at H ⊢;exact H)
       have hji11w:(IntKind.i64.wrap (8 * x17_1)) = ji11:=(i64_w _).trans hji11
       by_cases c12:0 ≤ (ji11)
       ·rw [if_pos c12] at H
        have c12b0:=eq_true c12
        have c12b1:decide (0 ≤ (ji11)) = true:=decide_eq_true c12
        clear c12
        obtain ⟨ji13,hji13⟩:∃ j_:Int,(shl .i64 (rd l0 (ji8)) (ji11)) = j_:=⟨_,rfl⟩
        replace H:(impl_GetNum.l0 k1 l0 a1 (Go.bits .or .i64 x8_1 (ji13)) t477 (wrap64 (x17_1 + 1))) = some (r1,r2):=by first | (rw [hji13] at H;exact H) | (simp only [hji13] at H ⊢;exact H)
        have hji13_:(IntKind.i64.wrap ((rd l0 (ji8)) * 2 ^ min (ji11).toNat 64)) = ji13:=hji13
        have hji13z:(ji11) ≤ 64 → (IntKind.i64.wrap ((rd l0 (ji8)) * 2 ^ (ji11).toNat)) = ji13:=shl_small hji13
        have hji13y:(wrap64 ((rd l0 (ji8)) * 2 ^ min (ji11).toNat 64)) = ji13:=(i64_w _).symm.trans hji13_
        have hji13x:(ji11) ≤ 64 → (wrap64 ((rd l0 (ji8)) * 2 ^ (ji11).toNat)) = ji13:=fun h_=>(i64_w _).symm.trans (hji13z h_)
        have H':=Aside0.mk H
        clear H
        have p478:0 ≤ ((ji8):Int):=of_decide_eq_true (by first | (with_reducible assumption) | assumption)
        have q478:(ji8) < (l0.length:Int):=of_decide_eq_true (by first | (with_reducible assumption) | assumption)
        obtain ⟨ad478,e478,hx478_0⟩:=Kd.at_int HR0.out (ji8) p478 q478
        cases e478
        replace p478:=eq_true p478
        replace q478:=eq_true q478
        go_wp2
        go_roundg k1
        case measure=>have:=HK1.out;omega
        case rel=>exact ⟨(Go.bits .or .i64 x8_1 (ji13)),(wrap64 (x17_1 + 1)),(by first | rfl | (simp;done) | (simp only [← hji13] <;> (first | rfl | simp)) | (simp [*];done)),(by first | rfl | (simp;done) | (simp [*];done)),H',⟨by have:=HK1.out;omega⟩,by repeat (first | exact Drawn0.refl _ | apply Drawn0.step)⟩
       ·rw [if_neg c12] at H
        exact absurd H (by simp)
      ·rw [if_neg c10] at H
       exact absurd H (by simp)
     ·rw [if_neg c9] at H
      exact absurd H (by simp)
    ·rw [if_neg c7] at H
     have c7b0:decide (x17_1 < t477) = false:=decide_eq_false c7
     clear c7
     simp only [Option.some.injEq,Prod.mk.injEq] at H
     obtain ⟨rfl,rfl⟩:=H
     go_wp2
     go_ret2
     exact ⟨by first | rfl | (simp;done) | (simp [*];done),by repeat (first | exact Drawn0.refl _ | apply Drawn0.step)⟩
 ·replace c5:=Bool.eq_false_iff.mpr c5
  subst c5
  have H1:(some (0,false)) = some (r1,r2):=by rw [if_neg (show ¬ (false = true) by decide)] at H;exact H
  clear H
  have H:=H1
  clear H1
  simp only [Option.some.injEq,Prod.mk.injEq] at H
  obtain ⟨rfl,rfl⟩:=H
  go_enter Try.func54,Try.ntmps54
  go_wp2_with (first | ((with_reducible refine gate_callee (f:=63) rfl ?_);refine goesL_ (some 13) rfl rfl Try.func63 (by kernel_rfl) rfl #[.slice A0 l0.length c0,.int .i64 a1,.int .i64 a2] rfl ml ?_;(with_reducible refine (impl_fits.calls k _ _ l0 a1 a2 false _ ?side1 ?side2 A4.out).mono ?_);(case side1=>repeat (first | exact HR0.out | (with_reducible refine Kd.C_alloc ?_ _) | (with_reducible refine Kd.C_drewN ?_ _) | (with_reducible refine Kd.C_drew ?_)));(case side2=>exact HC0.out);rintro e w' ⟨rfl,⟨nd,rfl⟩⟩;refine ⟨_,rfl,?_⟩))
  go_ret2
  exact ⟨by first | rfl | (simp;done) | (simp [*];done),by repeat (first | exact Drawn0.refl _ | apply Drawn0.step)⟩
end Go.Proofs.Ythikbgjlcdkoaaa.MFnModels

