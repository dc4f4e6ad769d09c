-- Written for this claim by a program of the session (wip/mk.py) over the kit's print.
import Derived.Test.YthikbgjlcdkoaaaMFnModelsx0
import Derived.Test.YthikbgjlcdkoaaaMFnModelsx1
import Derived.Test.YthikbgjlcdkoaaaMFnModelsx2
import Derived.Test.YthikbgjlcdkoaaaMFnModelsx10
namespace Go.Proofs.Ythikbgjlcdkoaaa.MFnModels
open Go.RowKit Go.Proofs.YthikbgjlcdkoaaaW.PrintWords Go.Proofs.YthikbgjlcdkoaaaW.PrintLast Go.Proofs.YthikbgjlcdkoaaaW.PrintMore
attribute [local go_sem] max2_int min2_int max_two min_two max_three min_three max_four min_four
set_option linter.unusedVariables false
set_option linter.unusedSimpArgs false
def spec_l9Copy.f (l0_0:List Int) (l0_1:List Int) (a0_2:Int) (l0_3:List Int):Option (List Int × List Int × Int × List Int):=(some (([]:List Int):List Int)).bind fun y558=>(if y558.length + l0_0.length < 17592186044416 then ((spec_l8Copy.f l0_1 a0_2 l0_3).bind fun bt564=>(some ((y558 ++ l0_0),bt564.1,bt564.2.1,bt564.2.2))) else (none))
def spec_l9Copy.T1:Bool × List (List Nat × List Nat):=(true,[([],[]),([],[]),([1],[1]),([0,2],[0,2]),([],[]),([4],[4]),([5,3],[5]),([3,6],[3,6]),([7,6,0,1,2,3,4,5,6,7],[7])])
def spec_l9Copy.B1:List Nat:=[0,0,2,7,0,16,63,127,255]
theorem spec_l9Copy.tab1:rtab .any (opsOf Try.f55 1) = spec_l9Copy.T1:=by kernel_rfl
theorem spec_l9Copy.bits1:waitsOk spec_l9Copy.T1.2 spec_l9Copy.B1 = true:=by kernel_rfl
set_option maxHeartbeats 8000000 in
set_option maxRecDepth 100000 in
theorem spec_l9Copy.calls (A0_0:Option Addr) (c0_0:Nat) (l0_0:List Int) (A0_1:Option Addr) (c0_1:Nat) (l0_1:List Int) (a0_2:Int) (A0_3:Option Addr) (c0_3:Nat) (l0_3:List Int) (r1:List Int) (r2:List Int) (r3:Int) (r4:List Int) (w:World) (hr0_0:Kd.C (Kd.int .i64) w A0_0 l0_0.length l0_0) (hc0_0:l0_0.length ≤ c0_0) (hr0_1:Kd.C (Kd.int .i64) w A0_1 l0_1.length l0_1) (hc0_1:l0_1.length ≤ c0_1) (hr0_3:Kd.C (Kd.int .i64) w A0_3 l0_3.length l0_3) (hc0_3:l0_3.length ≤ c0_3) (h:spec_l9Copy.f l0_0 l0_1 a0_2 l0_3 = some (r1,r2,r3,r4)) :
  Calls Try.prog 55 #[.agg #[.slice A0_0 l0_0.length c0_0,.slice A0_1 l0_1.length c0_1,.int .i64 a0_2,.slice A0_3 l0_3.length c0_3]] w fun e w'=>∃ v0_ v1_ v3_:Value,e = .returned (.agg #[v0_,v1_,.int .i64 r3,v3_]) ∧ Kd.R (Kd.int .i64) 3 w' w.heap.size (fun k_=>some k_ ≠ (v1_:Value).ownBlock ∧ some k_ ≠ (v3_:Value).ownBlock) v0_ r1 ∧ Kd.R (Kd.int .i64) 3 w' w.heap.size (fun k_=>some k_ ≠ (v0_:Value).ownBlock ∧ some k_ ≠ (v3_:Value).ownBlock) v1_ r2 ∧ Kd.R (Kd.int .i64) 3 w' w.heap.size (fun k_=>some k_ ≠ (v0_:Value).ownBlock ∧ some k_ ≠ (v1_:Value).ownBlock) v3_ r4 ∧ Below w.heap.size w w':=by
 have hu28:=Try.underlying28
 have hu26:=Try.underlying26
 have HR0_0:=Aside0.mk hr0_0
 have HC0_0:=Aside0.mk hc0_0
 clear hr0_0 hc0_0
 have HR0_1:=Aside0.mk hr0_1
 have HC0_1:=Aside0.mk hc0_1
 clear hr0_1 hc0_1
 have HR0_3:=Aside0.mk hr0_3
 have HC0_3:=Aside0.mk hc0_3
 clear hr0_3 hc0_3
 have HB:=Az (Below.refl w.heap.size w)
 have H:((some (([]:List Int):List Int)).bind fun y558=>(if y558.length + l0_0.length < 17592186044416 then ((spec_l8Copy.f l0_1 a0_2 l0_3).bind fun bt564=>(some ((y558 ++ l0_0),bt564.1,bt564.2.1,bt564.2.2))) else (none))) = some (r1,r2,r3,r4):=h
 clear h
 obtain ⟨y558,hy558⟩:∃ y_:List Int,y_ = (([]:List Int)):=⟨_,rfl⟩
 replace H:(if y558.length + l0_0.length < 17592186044416 then ((spec_l8Copy.f l0_1 a0_2 l0_3).bind fun bt564=>(some ((y558 ++ l0_0),bt564.1,bt564.2.1,bt564.2.2))) else (none)) = some (r1,r2,r3,r4):=by first | (rw [hy558];with_reducible exact H) | (have H2_:=(Option.bind_some _ _).symm.trans H;rw [hy558];with_reducible exact H2_) | (have H2_:=(Option.bind_some _ _).symm.trans H;with_reducible exact H2_) | with_reducible exact H | (rw [hy558];exact H) | exact H
 have Ny558:=Aside0.mk hy558
 clear hy558
 by_cases c2:y558.length + l0_0.length < 17592186044416
 ·rw [if_pos c2] at H
  have LMc2:=Aside0.mk c2
  clear c2
  obtain ⟨y561,hy561⟩:∃ y_:List Int,y_ = (y558 ++ l0_0):=⟨_,rfl⟩
  replace H:((spec_l8Copy.f l0_1 a0_2 l0_3).bind fun bt564=>(some (y561,bt564.1,bt564.2.1,bt564.2.2))) = some (r1,r2,r3,r4):=by first | (rw [hy561];with_reducible exact H) | (have H2_:=(Option.bind_some _ _).symm.trans H;rw [hy561];with_reducible exact H2_) | (have H2_:=(Option.bind_some _ _).symm.trans H;with_reducible exact H2_) | with_reducible exact H | (rw [hy561];exact H) | exact H
  have Ny561:=Aside0.mk hy561
  clear hy561
  replace H:=Option.bind_eq_some_iff.mp H
  obtain ⟨⟨t564,t567,t568⟩,A30,H⟩:=H
  replace H:(some (y561,t564,t567,t568)) = some (r1,r2,r3,r4):=H
  have A3:=Aside0.mk A30
  clear A30
  simp only [Option.some.injEq,Prod.mk.injEq] at H
  obtain ⟨rfl,rfl,rfl,rfl⟩:=H
  go_enter Try.func55,Try.ntmps55
  try go_wp2_with (first | ((with_reducible refine gate_dst (N:=1) rfl ?_);refine box_event ?hg (N:=1) ?hd (cs:=#[.slice A0_0 l0_0.length c0_0,.slice A0_1 l0_1.length c0_1,.int .i64 a0_2,.slice A0_3 l0_3.length c0_3]) (t:=28) ?hr ?_;(case hd=>rfl);(case hg=>rfl);(case hr=>first | (go_simp;done) | (go_simp;rfl));intro gb556 hg w4 hbox hb;have n0_:=Az (below_step (mb HB) hb);have n1_:=Az (hbox);have n2_:=Az ((by rw [hg];exact (below_size (mb HB)):w.heap.size ≤ gb556));have n3_:=Az ((by rw [hg];exact (below_size (mb HB)):w.heap.size ≤ gb556));clear HB;have HB:=n0_;have BK556:=n1_;have GW556:=n2_;have GE556:=n3_;clear n0_ n1_ n2_ n3_;clear hb hbox hg) | ((with_reducible refine gate_dst (N:=2) rfl ?_);refine box_event ?hg (N:=2) ?hd (cs:=#[.slice none 0 0,.slice none 0 0,.int .i64 0,.slice none 0 0]) (t:=28) ?hr ?_;(case hd=>rfl);(case hg=>rfl);(case hr=>first | (go_simp;done) | (go_simp;rfl));intro gb557 hg w5 hbox hb;have n0_:=Az (blk_below (mz BK556) hb);have n1_:=Az (below_step (mb HB) hb);have n2_:=Az (hbox);have n3_:=Az ((by rw [hg];exact (below_size (mb HB)):w.heap.size ≤ gb557));have n4_:=Az ((by rw [hg];exact (below_size (mb HB)):w.heap.size ≤ gb557));have n5_:=Az ((by rw [hg];exact Nat.ne_of_lt (blk_lt (mz BK556)):gb556 ≠ gb557));have n6_:=Az ((by rw [hg];exact Nat.ne_of_gt (blk_lt (mz BK556)):gb557 ≠ gb556));clear BK556 HB;have BK556:=n0_;have HB:=n1_;have BK557:=n2_;have GW557:=n3_;have GE557:=n4_;have NB556_557:=n5_;have NB557_556:=n6_;clear n0_ n1_ n2_ n3_ n4_ n5_ n6_;clear hb hbox hg))
  have n0_:=Az (blk_drew BK556.out)
  have n1_:=Az (blk_drew BK557.out)
  have n2_:=Az (below_drew1 HB.out)
  clear BK556 BK557 HB
  have BK556:=n0_
  have BK557:=n1_
  have HB:=n2_
  clear n0_ n1_ n2_
  refine start_ (n:=9) (S:=fun w'=>w'.cell? ⟨gb556,0,none⟩ = some (.slice A0_0 l0_0.length c0_0) ∧ w'.cell? ⟨gb556,1,none⟩ = some (.slice A0_1 l0_1.length c0_1) ∧ w'.cell? ⟨gb556,2,none⟩ = some (.int .i64 a0_2) ∧ w'.cell? ⟨gb556,3,none⟩ = some (.slice A0_3 l0_3.length c0_3)) (ds:=[]) #[false,false,false,false,false,false,false,false,false] (by kernel_rfl) rfl rfl ⟨(blk_cell BK556.out 0).trans rfl,(blk_cell BK556.out 1).trans rfl,(blk_cell BK556.out 2).trans rfl,(blk_cell BK556.out 3).trans rfl⟩ (fun hHeld=>?_);refine with_tabW spec_l9Copy.tab1 spec_l9Copy.bits1 (fun HT_ HW_=>?_)
  generalize w5.drew = w6 at BK556 BK557 HB hHeld ⊢
  refine pure_ (i:=1) (N:=some 4) (v:=?_) (a':=?_) #[false,true,false,false,false,false,false,false,false] rfl rfl (any_of HT_.out (by kernel_rfl)) (fun _ _ _ h=>h) (Or.inl ⟨by rfl,?_⟩) ?_ ?_
  rotate_left
  ·intro w'
   go_simp
   with_reducible rfl
  rotate_left
  ·simp only [Act.put,List.setIfInBounds_toArray,List.set_cons_zero,List.set_cons_succ,i64_w,i32_w]
   rfl
  refine pure_ (i:=4) (N:=some 7) (v:=?_) (a':=?_) #[false,true,false,false,true,false,false,false,false] rfl rfl (any_of HT_.out (by kernel_rfl)) (fun _ _ _ h=>h) (Or.inl ⟨by rfl,?_⟩) ?_ ?_
  rotate_left
  ·intro w'
   go_simp
   with_reducible rfl
  rotate_left
  ·simp only [Act.put,List.setIfInBounds_toArray,List.set_cons_zero,List.set_cons_succ,i64_w,i32_w]
   rfl
  refine take_ (i:=2) (N:=some 5) (v:=?_) (a':=?_) #[false,true,true,false,true,false,false,false,false] rfl rfl (take_ofW HT_.out HW_.out (by kernel_rfl)) (fun _ _ _ h=>h) (Or.inl ⟨by rfl,?_⟩) hHeld ?_ ?_
  rotate_left
  ·rintro w' ⟨s0,s1,s2,s3⟩
   go_simp
   with_reducible rfl
  rotate_left
  ·simp only [Act.put,List.setIfInBounds_toArray,List.set_cons_zero,List.set_cons_succ,i64_w,i32_w]
   rfl
  refine take_ (i:=5) (N:=some 8) (v:=?_) (a':=?_) #[false,true,true,false,true,true,false,false,false] rfl rfl (take_ofW HT_.out HW_.out (by kernel_rfl)) (fun _ _ _ h=>h) (Or.inl ⟨by rfl,?_⟩) hHeld ?_ ?_
  rotate_left
  ·rintro w' ⟨s0,s1,s2,s3⟩
   go_simp
   with_reducible rfl
  rotate_left
  ·simp only [Act.put,List.setIfInBounds_toArray,List.set_cons_zero,List.set_cons_succ,i64_w,i32_w]
   rfl
  refine one_ (i:=0) (N:=some 3) #[true,true,true,false,true,true,false,false,false] rfl rfl (one_of HT_.out (by kernel_rfl)) (by decide) (fun K hK=>?_)
  refine Kd.R_lit_step (Kd.int .i64) _ 3 ?hg (N:=3) ?hd (xs:=([]:List Int)) (inner:=[]) (ok:=fun _=>True) (okp:=fun _=>True) ?hr ?hp (fun _ hk=>hk) trivial (Below.refl _ _) (Nat.le_refl _) (by simp) ?_;(case hd=>rfl);(case hg=>rfl);(case hr=>first | (go_simp;done) | (go_simp;rfl));(case hp=>exact (Reps.none _ _))
  intro v559 w7 ho8 hb hg_ hnew_
  clear hg_ hnew_
  (first | rw [← Ny558.out] at ho8 | (simp only [Int.reduceToNat] at ho8;rw [← Ny558.out] at ho8))
  have n0_:=Az (Kd.R_lower ho8 (below_size (mb HB)))
  have n1_:=Az (blk_below (mz BK556) hb)
  have n2_:=Az (blk_below (mz BK557) hb)
  have n3_:=Az (below_step (mb HB) hb)
  clear BK556 BK557 HB
  have HO560:=n0_
  have BK556:=n1_
  have BK557:=n2_
  have HB:=n3_
  clear n0_ n1_ n2_ n3_ hb ho8
  refine hK.out _ _ ⟨(blk_cell BK556.out 0).trans rfl,(blk_cell BK556.out 1).trans rfl,(blk_cell BK556.out 2).trans rfl,(blk_cell BK556.out 3).trans rfl⟩ (fun hHeld=>?_)
  clear hK K
  refine norm_ (a':=?_) ?_ ?_
  rotate_left
  ·show Act.put _ (some 3) _ = _
   simp only [Act.put,List.setIfInBounds_toArray,List.set_cons_zero,List.set_cons_succ,i64_w,i32_w]
   rfl
  refine one_ (i:=3) (N:=some 6) #[true,true,true,true,true,true,false,false,false] rfl rfl (one_of HT_.out (by kernel_rfl)) (by decide) (fun K hK=>?_)
  refine Kd.R_append_rows_step (Kd.int .i64) (w0:=w) w.heap.size (by rfl) (.tmp 3) (.tmp 5) 24 3 (.int .i64 0) 8 rfl Try.underlying24 info3 rfl (by decide) (by omega) v559 y558 l0_0 _ _ _ (fun _=>True) (fun _=>False) rfl rfl ?aO ?aR (fun _ _ h=>h) (fun _ h=>h.elim) ?aF ?aB ?aS ?aL ?_
  (case aR=>exact mc (Kd.C_below HR0_0.out HB.out))
  (case aB=>exact (mb HB))
  (case aF=>exact (fun _ _=>trivial))
  (case aO=>exact (mr HO560))
  (case aS=>exact (below_size (mb HB)))
  (case aL=>have:=LMc2.out;omega)
  intro v562 w9 ho hb hg hat
  rw [← Ny561.out] at ho
  have n0_:=Az (blk_grown (mz BK556) hg (Kd.R_ne HO560.out BK556.out (by decide)))
  have n1_:=Az (blk_grown (mz BK557) hg (Kd.R_ne HO560.out BK557.out (by decide)))
  have n2_:=Az (hb)
  have n3_:=Az (ho)
  clear BK556 BK557 HB HO560
  have BK556:=n0_
  have BK557:=n1_
  have HB:=n2_
  have HO563:=n3_
  clear n0_ n1_ n2_ n3_ ho hb hg hat
  refine hK.out _ _ ⟨(blk_cell BK556.out 0).trans rfl,(blk_cell BK556.out 1).trans rfl,(blk_cell BK556.out 2).trans rfl,(blk_cell BK556.out 3).trans rfl⟩ (fun hHeld=>?_)
  clear hK K
  refine norm_ (a':=?_) ?_ ?_
  rotate_left
  ·show Act.put _ (some 6) _ = _
   simp only [Act.put,List.setIfInBounds_toArray,List.set_cons_zero,List.set_cons_succ,i64_w,i32_w]
   rfl
  refine one_ (i:=6) (N:=some 9) #[true,true,true,true,true,true,true,false,false] rfl rfl (one_of HT_.out (by kernel_rfl)) (by decide) (fun K hK=>?_)
  refine goes_ Try.func78 (by kernel_rfl) rfl #[.agg #[.slice A0_1 l0_1.length c0_1,.int .i64 a0_2,.slice A0_3 l0_3.length c0_3]] (by rfl) rfl rfl ml ?_
  with_reducible refine (spec_l8Copy.calls _ _ l0_1 a0_2 _ _ l0_3 t564 t567 t568 _ ?side1 ?side2 ?side3 ?side4 A3.out).mono ?_
  (case side1=>exact mc (Kd.C_below HR0_1.out HB.out))
  (case side2=>exact HC0_1.out)
  (case side3=>exact mc (Kd.C_below HR0_3.out HB.out))
  (case side4=>exact HC0_3.out)
  rintro e w10 ⟨v565,v569,rfl,ho0,ho1,hb⟩
  refine ⟨_,rfl,?_⟩
  have n0_:=Az (Kd.R_mono (Kd.R_told (Kd.R_told (Kd.R_old (mr HO563) hb) (Kd.R_base ho0)) (Kd.R_base ho1)) (fun _ h_=>h_.1))
  have n1_:=Az (Kd.R_lower (Kd.R_new' ho0 (Kd.R_lt (mr HO563))) (below_size (mb HB)))
  have n2_:=Az (Kd.R_lower (Kd.R_new' ho1 (Kd.R_lt (mr HO563))) (below_size (mb HB)))
  have n3_:=Az (blk_below (mz BK556) hb)
  have n4_:=Az (blk_below (mz BK557) hb)
  have n5_:=Az (below_step (mb HB) hb)
  clear HO563 BK556 BK557 HB
  have HO563:=n0_
  have HO566:=n1_
  have HO570:=n2_
  have BK556:=n3_
  have BK557:=n4_
  have HB:=n5_
  clear n0_ n1_ n2_ n3_ n4_ n5_
  (try clear hb)
  (try clear hb2)
  (try clear hk)
  (try clear hi)
  (try clear ho0)
  (try clear ho1)
  obtain ⟨Ao11,co11,eo11⟩:=Kd.R_slice HO570.out
  (first | subst eo11 | (injection eo11 with f1_ f2_ f3_;have f4_:=f1_.symm;have f5_:=f3_.symm;clear f1_ f2_ f3_;subst f4_;subst f5_))
  obtain ⟨Ao12,co12,eo12⟩:=Kd.R_slice HO566.out
  (first | subst eo12 | (injection eo12 with f1_ f2_ f3_;have f4_:=f1_.symm;have f5_:=f3_.symm;clear f1_ f2_ f3_;subst f4_;subst f5_))
  obtain ⟨Ao13,co13,eo13⟩:=Kd.R_slice HO563.out
  (first | subst eo13 | (injection eo13 with f1_ f2_ f3_;have f4_:=f1_.symm;have f5_:=f3_.symm;clear f1_ f2_ f3_;subst f4_;subst f5_))
  refine hK.out _ _ ⟨(blk_cell BK556.out 0).trans rfl,(blk_cell BK556.out 1).trans rfl,(blk_cell BK556.out 2).trans rfl,(blk_cell BK556.out 3).trans rfl⟩ (fun hHeld=>?_)
  clear hK K
  refine norm_ (a':=?_) ?_ ?_
  rotate_left
  ·show Act.put _ (some 9) _ = _
   simp only [Act.put,List.setIfInBounds_toArray,List.set_cons_zero,List.set_cons_succ,i64_w,i32_w]
   rfl
  refine pure_ (i:=7) (N:=some 10) (v:=?_) (a':=?_) #[true,true,true,true,true,true,true,true,false] rfl rfl (any_of HT_.out (by kernel_rfl)) (fun _ _ _ h=>h) (Or.inl ⟨by rfl,?_⟩) ?_ ?_
  rotate_left
  ·intro w'
   go_simp
   with_reducible rfl
  rotate_left
  ·simp only [Act.put,List.setIfInBounds_toArray,List.set_cons_zero,List.set_cons_succ,i64_w,i32_w]
   rfl
  refine one_ (i:=8) (N:=none) #[true,true,true,true,true,true,true,true,true] rfl rfl (one_of HT_.out (by kernel_rfl)) (by decide) (fun K hK=>?_)
  have hs14:w10.cell? ⟨gb557,0,none⟩ = some (.slice none 0 0):=(blk_cell BK557.out 0).trans rfl
  have hfs14:=blk_frozen BK557.out 0
  have hns14_0:=NB556_557.out
  have hms14_0:=NB557_556.out
  have hs15:w10.cell? ⟨gb557,1,none⟩ = some (.slice none 0 0):=(blk_cell BK557.out 1).trans rfl
  have hfs15:=blk_frozen BK557.out 1
  have hns15_0:=NB556_557.out
  have hms15_0:=NB557_556.out
  have hs16:w10.cell? ⟨gb557,2,none⟩ = some (.int .i64 0):=(blk_cell BK557.out 2).trans rfl
  have hfs16:=blk_frozen BK557.out 2
  have hns16_0:=NB556_557.out
  have hms16_0:=NB557_556.out
  have hs17:w10.cell? ⟨gb557,3,none⟩ = some (.slice none 0 0):=(blk_cell BK557.out 3).trans rfl
  have hfs17:=blk_frozen BK557.out 3
  have hns17_0:=NB556_557.out
  have hms17_0:=NB557_556.out
  refine skip_ (w1:=?_) (by rfl) rfl ?_ ?_
  rotate_left
  ·go_simp
   rfl
  refine hK.out _ _ ⟨((cell_far (p:=⟨gb557,_,none⟩) NB556_557.out _).trans (((cell_far (p:=⟨gb557,_,none⟩) NB556_557.out _).trans (((cell_far (p:=⟨gb557,_,none⟩) NB556_557.out _).trans (((cell_far (p:=⟨gb557,_,none⟩) NB556_557.out _).trans (hHeld.1)))))))),((cell_far (p:=⟨gb557,_,none⟩) NB556_557.out _).trans (((cell_far (p:=⟨gb557,_,none⟩) NB556_557.out _).trans (((cell_far (p:=⟨gb557,_,none⟩) NB556_557.out _).trans (((cell_far (p:=⟨gb557,_,none⟩) NB556_557.out _).trans (hHeld.2.1)))))))),((cell_far (p:=⟨gb557,_,none⟩) NB556_557.out _).trans (((cell_far (p:=⟨gb557,_,none⟩) NB556_557.out _).trans (((cell_far (p:=⟨gb557,_,none⟩) NB556_557.out _).trans (((cell_far (p:=⟨gb557,_,none⟩) NB556_557.out _).trans (hHeld.2.2.1)))))))),((cell_far (p:=⟨gb557,_,none⟩) NB556_557.out _).trans (((cell_far (p:=⟨gb557,_,none⟩) NB556_557.out _).trans (((cell_far (p:=⟨gb557,_,none⟩) NB556_557.out _).trans (((cell_far (p:=⟨gb557,_,none⟩) NB556_557.out _).trans (hHeld.2.2.2))))))))⟩ (fun hHeld=>?_)
  clear hK K
  refine done_ (done_of HT_.out (by kernel_rfl)) ?_
  try go_wp2
  refine bodyPost_ret (results_cell_row rfl _ _ gb557 28 #[.slice Ao13 y561.length co13,.slice Ao12 t564.length co12,.int .i64 t567,.slice Ao11 t568.length co11] (0,0) _ rfl (by refine ms ?_;refine blk_put (cs:=#[.slice Ao13 y561.length co13,.slice Ao12 t564.length co12,.int .i64 t567,.slice none 0 0]) ?_ 3 _ rfl;refine ms ?_;refine blk_put (cs:=#[.slice Ao13 y561.length co13,.slice Ao12 t564.length co12,.int .i64 0,.slice none 0 0]) ?_ 2 _ rfl;refine ms ?_;refine blk_put (cs:=#[.slice Ao13 y561.length co13,.slice none 0 0,.int .i64 0,.slice none 0 0]) ?_ 1 _ rfl;refine ms ?_;refine blk_put (cs:=#[.slice none 0 0,.slice none 0 0,.int .i64 0,.slice none 0 0]) ?_ 0 _ rfl;refine ms ?_;exact BK557.out) Try.underlying28 rfl (by kernel_rfl)) rfl ?_
  exact ⟨_,_,_,by first | rfl | (simp [errW_none,errW_some] <;> rfl) | (simp [*,errW_none,errW_some] <;> rfl),by (with_reducible repeat (first | apply Kd.R_alloc | apply Kd.R_drewN | apply Kd.R_drew));exact Kd.R_mono (Kd.R_far (Kd.R_far (Kd.R_far (Kd.R_far (Kd.R_types HO563.out BK557.out (by decide)) (fun _ hk=>hk.2) _) (fun _ hk=>hk.2) _) (fun _ hk=>hk.2) _) (fun _ hk=>hk.2) _) (fun _ hk=>⟨hk.1.1.2,hk.1.2⟩),by (with_reducible repeat (first | apply Kd.R_alloc | apply Kd.R_drewN | apply Kd.R_drew));exact Kd.R_mono (Kd.R_far (Kd.R_far (Kd.R_far (Kd.R_far (Kd.R_types HO566.out BK557.out (by decide)) (fun _ hk=>hk.2) _) (fun _ hk=>hk.2) _) (fun _ hk=>hk.2) _) (fun _ hk=>hk.2) _) (fun _ hk=>⟨hk.1.2,hk.1.1⟩),by (with_reducible repeat (first | apply Kd.R_alloc | apply Kd.R_drewN | apply Kd.R_drew));exact Kd.R_mono (Kd.R_far (Kd.R_far (Kd.R_far (Kd.R_far (Kd.R_types HO570.out BK557.out (by decide)) (fun _ hk=>hk.2) _) (fun _ hk=>hk.2) _) (fun _ hk=>hk.2) _) (fun _ hk=>hk.2) _) (fun _ hk=>⟨hk.1.2,hk.1.1⟩),mb HB⟩
 ·rw [if_neg c2] at H
  exact absurd H (by simp)
def spec_Aligned.f (a0:Int) (a1:Int):Option (Bool):=(spec_BytesOf.f a1).bind fun t571=>(if t571 > 0 then (if a0 ≥ 0 then ((spec_BytesOf.f a1).bind fun t572=>(if t572 = 0 then (none) else (some ((Int.tmod a0 t572) == 0)))) else (some false)) else (some false))
set_option maxHeartbeats 8000000 in
set_option maxRecDepth 100000 in
theorem spec_Aligned.calls (a0:Int) (a1:Int) (r:Bool) (w:World) (h:spec_Aligned.f a0 a1 = some r) :
  Calls Try.prog 56 #[.int .i64 a0,.int .i64 a1] w fun e w'=>e = .returned (.bool r) ∧ Drawn0 w w':=by
 have H:((spec_BytesOf.f a1).bind fun t571=>(if t571 > 0 then (if a0 ≥ 0 then ((spec_BytesOf.f a1).bind fun t572=>(if t572 = 0 then (none) else (some ((Int.tmod a0 t572) == 0)))) else (some false)) else (some false))) = some r:=h
 clear h
 replace H:=Option.bind_eq_some_iff.mp H
 obtain ⟨t571,A30,H⟩:=H
 replace H:(if t571 > 0 then (if a0 ≥ 0 then ((spec_BytesOf.f a1).bind fun t572=>(if t572 = 0 then (none) else (some ((Int.tmod a0 t572) == 0)))) else (some false)) else (some false)) = some r:=H
 have A3:=Aside0.mk A30
 clear A30
 by_cases c4:t571 > 0
 ·rw [if_pos c4] at H
  have c4b0:decide (0 < t571) = true:=decide_eq_true c4
  clear c4
  by_cases c5:a0 ≥ 0
  ·rw [if_pos c5] at H
   have c5b0:decide (0 ≤ a0) = true:=decide_eq_true c5
   clear c5
   replace H:=Option.bind_eq_some_iff.mp H
   obtain ⟨t572,A60,H⟩:=H
   replace H:(if t572 = 0 then (none) else (some ((Int.tmod a0 t572) == 0))) = some r:=H
   have A6:=Aside0.mk A60
   clear A60
   by_cases c7:t572 = 0
   ·rw [if_pos c7] at H
    exact absurd H (by simp)
   ·rw [if_neg c7] at H
    have c7b0:(t572 == 0) = false:=beq_eq_false_iff_ne.mpr c7
    have c7b1:(t572 != 0) = true:=bne_iff_ne.mpr c7
    obtain rfl:=Option.some.inj H
    go_enter Try.func56,Try.ntmps56
    go_wp2_with (first | ((with_reducible refine gate_callee (f:=83) rfl ?_);refine goesL_ (some 6) rfl rfl Try.func83 (by kernel_rfl) rfl #[.int .i64 a1] rfl ml ?_;(with_reducible refine (spec_BytesOf.calls a1 t571 _ A3.out).mono ?_);rintro e w' ⟨rfl,⟨nd,rfl⟩⟩;refine ⟨_,rfl,?_⟩) | (go_at_call 83;(with_reducible refine (spec_BytesOf.calls a1 t572 _ A6.out).mono ?_);rintro e w' ⟨rfl,⟨nd,rfl⟩⟩))
    go_ret
    exact ⟨by first | rfl | (simp;done) | (simp [*];done),by repeat (first | exact Drawn0.refl _ | apply Drawn0.step)⟩
  ·rw [if_neg c5] at H
   have c5b0:decide (0 ≤ a0) = false:=decide_eq_false c5
   clear c5
   obtain rfl:=Option.some.inj H
   go_enter Try.func56,Try.ntmps56
   go_wp2_with (first | ((with_reducible refine gate_callee (f:=83) rfl ?_);refine goesL_ (some 6) rfl rfl Try.func83 (by kernel_rfl) rfl #[.int .i64 a1] rfl ml ?_;(with_reducible refine (spec_BytesOf.calls a1 t571 _ A3.out).mono ?_);rintro e w' ⟨rfl,⟨nd,rfl⟩⟩;refine ⟨_,rfl,?_⟩))
   go_ret
   exact ⟨by first | rfl | (simp;done) | (simp [*];done),by repeat (first | exact Drawn0.refl _ | apply Drawn0.step)⟩
 ·rw [if_neg c4] at H
  have c4b0:decide (0 < t571) = false:=decide_eq_false c4
  clear c4
  obtain rfl:=Option.some.inj H
  go_enter Try.func56,Try.ntmps56
  go_wp2_with (first | ((with_reducible refine gate_callee (f:=83) rfl ?_);refine goesL_ (some 6) rfl rfl Try.func83 (by kernel_rfl) rfl #[.int .i64 a1] rfl ml ?_;(with_reducible refine (spec_BytesOf.calls a1 t571 _ A3.out).mono ?_);rintro e w' ⟨rfl,⟨nd,rfl⟩⟩;refine ⟨_,rfl,?_⟩))
  go_ret
  exact ⟨by first | rfl | (simp;done) | (simp [*];done),by repeat (first | exact Drawn0.refl _ | apply Drawn0.step)⟩
def spec_SlaveOf.j0:Nat → Int → Bool → Option (Int)
 | 0,_,_=>none
 | k + 1,x0,x3=>if x3 = true then (some 0) else (if x0 < 128 then (some 1) else (if x0 < 192 then (some 2) else (some 3)))
def spec_SlaveOf.f (k:Nat) (a0:Int):Option (Int):=if a0 < 0 then (spec_SlaveOf.j0 k a0 true) else (spec_SlaveOf.j0 k a0 (decide (a0 ≥ 224)))
set_option maxHeartbeats 8000000 in
set_option maxRecDepth 100000 in
theorem spec_SlaveOf.calls (k:Nat) (a0:Int) (r:Int) (w:World) (h:spec_SlaveOf.f k a0 = some r) :
  Calls Try.prog 59 #[.int .i64 a0] w fun e w'=>e = .returned (.int .i64 r) ∧ Drawn0 w w':=by
 have H:(if a0 < 0 then (spec_SlaveOf.j0 k a0 true) else (spec_SlaveOf.j0 k a0 (decide (a0 ≥ 224)))) = some r:=h
 clear h
 have HC2:=Aside0.mk H
 clear H
 go_enter Try.func59,Try.ntmps59
 go_upto_region 1 with (fail)
 go_cut [3] (fun v3 wc=>∃ (kq:Nat) (x3_1:Bool),v3 = .bool x3_1 ∧ Aside0 (spec_SlaveOf.j0 kq a0 x3_1 = some r) ∧ Aside0 (kq ≤ k) ∧ Drawn0 w wc)
 case first =>
  have H:=HC2.out
  clear HC2
  by_cases c3:a0 < 0
  ·rw [if_pos c3] at H
   have c3b0:decide (a0 < 0) = true:=decide_eq_true c3
   clear c3
   (first | rw [c3b0] | (simp only [i64_w,i32_w];rw [c3b0]) | skip)
   have H':=Aside0.mk H
   clear H
   go_wp2
   go_meet
   case rel=>exact ⟨_,(true),(by first | rfl | (simp;done) | (simp [*];done)),H',⟨by first | omega | exact Nat.le_refl _⟩,by repeat (first | exact Drawn0.refl _ | apply Drawn0.step)⟩
  ·rw [if_neg c3] at H
   have c3b0:decide (a0 < 0) = false:=decide_eq_false c3
   clear c3
   (first | rw [c3b0] | (simp only [i64_w,i32_w];rw [c3b0]) | skip)
   have H':=Aside0.mk H
   clear H
   go_wp2
   go_meet
   case rel=>exact ⟨_,(decide (a0 ≥ 224)),(by first | rfl | (simp;done) | (simp [*];done)),H',⟨by first | omega | exact Nat.le_refl _⟩,by repeat (first | exact Drawn0.refl _ | apply Drawn0.step)⟩
 case rest =>
  clear HC2
  obtain ⟨kq,x3_1,rfl,HA,HJ1,⟨mc1,rfl⟩⟩:=hcut
  cases kq with
  | zero=>exact absurd HA.out (by simp [spec_SlaveOf.j0])
  | succ kj1 =>
   have H:=HA.out
   clear HA
   simp only [spec_SlaveOf.j0] at H
   by_cases c4:x3_1 = true
   ·subst c4
    have H1:(some 0) = some r:=by rw [if_pos rfl] at H;exact H
    clear H
    have H:=H1
    clear H1
    obtain rfl:=Option.some.inj H
    go_wp2
    go_ret
    exact ⟨by first | rfl | (simp;done) | (simp [*];done),by repeat (first | exact Drawn0.refl _ | apply Drawn0.step)⟩
   ·replace c4:=Bool.eq_false_iff.mpr c4
    subst c4
    have H1:(if a0 < 128 then (some 1) else (if a0 < 192 then (some 2) else (some 3))) = some r:=by rw [if_neg (show ¬ (false = true) by decide)] at H;exact H
    clear H
    have H:=H1
    clear H1
    by_cases c5:a0 < 128
    ·rw [if_pos c5] at H
     have c5b0:decide (a0 < 128) = true:=decide_eq_true c5
     clear c5
     obtain rfl:=Option.some.inj H
     go_wp2
     go_ret
     exact ⟨by first | rfl | (simp;done) | (simp [*];done),by repeat (first | exact Drawn0.refl _ | apply Drawn0.step)⟩
    ·rw [if_neg c5] at H
     have c5b0:decide (a0 < 128) = false:=decide_eq_false c5
     clear c5
     by_cases c6:a0 < 192
     ·rw [if_pos c6] at H
      have c6b0:decide (a0 < 192) = true:=decide_eq_true c6
      clear c6
      obtain rfl:=Option.some.inj H
      go_wp2
      go_ret
      exact ⟨by first | rfl | (simp;done) | (simp [*];done),by repeat (first | exact Drawn0.refl _ | apply Drawn0.step)⟩
     ·rw [if_neg c6] at H
      have c6b0:decide (a0 < 192) = false:=decide_eq_false c6
      clear c6
      obtain rfl:=Option.some.inj H
      go_wp2
      go_ret
      exact ⟨by first | rfl | (simp;done) | (simp [*];done),by repeat (first | exact Drawn0.refl _ | apply Drawn0.step)⟩
def spec_l4Fits.f (k:Nat) (l0:List Int) (a1:Int) (a2:Int):Option (Bool):=(spec_l4Bytes.f k l0).bind fun t573=>(if t573 = true then ((spec_Aligned.f a1 a2).bind fun t574=>(if t574 = true then ((spec_BytesOf.f a2).bind fun t575=>(some (decide (a1 ≤ (wrap64 ((l0.length:Int) - t575)))))) else (some false))) else (some false))
set_option maxHeartbeats 8000000 in
set_option maxRecDepth 100000 in
theorem spec_l4Fits.calls (k:Nat) (A0:Option Addr) (c0:Nat) (l0:List Int) (a1:Int) (a2:Int) (r:Bool) (w:World) (hr0:Kd.C (Kd.int .i64) w A0 l0.length l0) (hc0:l0.length ≤ c0) (h:spec_l4Fits.f k l0 a1 a2 = some r) :
  Calls Try.prog 84 #[.slice A0 l0.length c0,.int .i64 a1,.int .i64 a2] w fun e w'=>e = .returned (.bool r) ∧ Drawn0 w w':=by
 have HR0:=Aside0.mk hr0
 have HC0:=Aside0.mk hc0
 clear hr0 hc0
 have H:((spec_l4Bytes.f k l0).bind fun t573=>(if t573 = true then ((spec_Aligned.f a1 a2).bind fun t574=>(if t574 = true then ((spec_BytesOf.f a2).bind fun t575=>(some (decide (a1 ≤ (wrap64 ((l0.length:Int) - t575)))))) else (some false))) else (some false))) = some r:=h
 clear h
 replace H:=Option.bind_eq_some_iff.mp H
 obtain ⟨t573,A40,H⟩:=H
 replace H:(if t573 = true then ((spec_Aligned.f a1 a2).bind fun t574=>(if t574 = true then ((spec_BytesOf.f a2).bind fun t575=>(some (decide (a1 ≤ (wrap64 ((l0.length:Int) - t575)))))) else (some false))) else (some false)) = some r:=H
 have A4:=Aside0.mk A40
 clear A40
 by_cases c5:t573 = true
 ·subst c5
  have H1:((spec_Aligned.f a1 a2).bind fun t574=>(if t574 = true then ((spec_BytesOf.f a2).bind fun t575=>(some (decide (a1 ≤ (wrap64 ((l0.length:Int) - t575)))))) else (some false))) = some r:=by rw [if_pos rfl] at H;exact H
  clear H
  have H:=H1
  clear H1
  replace H:=Option.bind_eq_some_iff.mp H
  obtain ⟨t574,A60,H⟩:=H
  replace H:(if t574 = true then ((spec_BytesOf.f a2).bind fun t575=>(some (decide (a1 ≤ (wrap64 ((l0.length:Int) - t575)))))) else (some false)) = some r:=H
  have A6:=Aside0.mk A60
  clear A60
  by_cases c7:t574 = true
  ·subst c7
   have H1:((spec_BytesOf.f a2).bind fun t575=>(some (decide (a1 ≤ (wrap64 ((l0.length:Int) - t575)))))) = some r:=by rw [if_pos rfl] at H;exact H
   clear H
   have H:=H1
   clear H1
   replace H:=Option.bind_eq_some_iff.mp H
   obtain ⟨t575,A80,H⟩:=H
   replace H:(some (decide (a1 ≤ (wrap64 ((l0.length:Int) - t575))))) = some r:=H
   have A8:=Aside0.mk A80
   clear A80
   obtain rfl:=Option.some.inj H
   go_enter Try.func84,Try.ntmps84
   go_wp2_with (first | ((with_reducible refine gate_callee (f:=73) rfl ?_);refine goesL_ (some 8) rfl rfl Try.func73 (by kernel_rfl) rfl #[.slice A0 l0.length c0] rfl ml ?_;(with_reducible refine (spec_l4Bytes.calls k _ _ l0 true _ ?side1 ?side2 A4.out).mono ?_);(case side1=>repeat (first | exact HR0.out | (with_reducible refine Kd.C_alloc ?_ _) | (with_reducible refine Kd.C_drewN ?_ _) | (with_reducible refine Kd.C_drew ?_)));(case side2=>exact HC0.out);rintro e w' ⟨rfl,⟨nd,rfl⟩⟩;refine ⟨_,rfl,?_⟩) | (go_at_call 56;(with_reducible refine (spec_Aligned.calls a1 a2 true _ A6.out).mono ?_);rintro e w' ⟨rfl,⟨nd,rfl⟩⟩) | (go_at_call 83;(with_reducible refine (spec_BytesOf.calls a2 t575 _ A8.out).mono ?_);rintro e w' ⟨rfl,⟨nd,rfl⟩⟩))
   go_ret
   exact ⟨by first | rfl | (simp;done) | (simp [*];done),by repeat (first | exact Drawn0.refl _ | apply Drawn0.step)⟩
  ·replace c7:=Bool.eq_false_iff.mpr c7
   subst c7
   have H1:(some false) = some r:=by rw [if_neg (show ¬ (false = true) by decide)] at H;exact H
   clear H
   have H:=H1
   clear H1
   obtain rfl:=Option.some.inj H
   go_enter Try.func84,Try.ntmps84
   go_wp2_with (first | ((with_reducible refine gate_callee (f:=73) rfl ?_);refine goesL_ (some 8) rfl rfl Try.func73 (by kernel_rfl) rfl #[.slice A0 l0.length c0] rfl ml ?_;(with_reducible refine (spec_l4Bytes.calls k _ _ l0 true _ ?side1 ?side2 A4.out).mono ?_);(case side1=>repeat (first | exact HR0.out | (with_reducible refine Kd.C_alloc ?_ _) | (with_reducible refine Kd.C_drewN ?_ _) | (with_reducible refine Kd.C_drew ?_)));(case side2=>exact HC0.out);rintro e w' ⟨rfl,⟨nd,rfl⟩⟩;refine ⟨_,rfl,?_⟩) | (go_at_call 56;(with_reducible refine (spec_Aligned.calls a1 a2 false _ A6.out).mono ?_);rintro e w' ⟨rfl,⟨nd,rfl⟩⟩))
   go_ret
   exact ⟨by first | rfl | (simp;done) | (simp [*];done),by repeat (first | exact Drawn0.refl _ | apply Drawn0.step)⟩
 ·replace c5:=Bool.eq_false_iff.mpr c5
  subst c5
  have H1:(some false) = some r:=by rw [if_neg (show ¬ (false = true) by decide)] at H;exact H
  clear H
  have H:=H1
  clear H1
  obtain rfl:=Option.some.inj H
  go_enter Try.func84,Try.ntmps84
  go_wp2_with (first | ((with_reducible refine gate_callee (f:=73) rfl ?_);refine goesL_ (some 8) rfl rfl Try.func73 (by kernel_rfl) rfl #[.slice A0 l0.length c0] rfl ml ?_;(with_reducible refine (spec_l4Bytes.calls k _ _ l0 false _ ?side1 ?side2 A4.out).mono ?_);(case side1=>repeat (first | exact HR0.out | (with_reducible refine Kd.C_alloc ?_ _) | (with_reducible refine Kd.C_drewN ?_ _) | (with_reducible refine Kd.C_drew ?_)));(case side2=>exact HC0.out);rintro e w' ⟨rfl,⟨nd,rfl⟩⟩;refine ⟨_,rfl,?_⟩))
  go_ret
  exact ⟨by first | rfl | (simp;done) | (simp [*];done),by repeat (first | exact Drawn0.refl _ | apply Drawn0.step)⟩
mutual
def spec_PutNum.j0:Nat → Int → Int → Int → List Int → Bool → Option (List Int × Bool)
 | 0,_,_,_,_,_=>none
 | k + 1,x1,x2,x3,x10,x27=>if x27 = true then (some (x10,false)) else (spec_PutNum.l0 k x1 x2 x3 x10 0)
def spec_PutNum.l0:Nat → Int → Int → Int → List Int → Int → Option (List Int × Bool)
 | 0,_,_,_,_,_=>none
 | k + 1,x1,x2,x3,x10,x11=>(spec_BytesOf.f x2).bind fun t585=>(if x11 < t585 then (if 0 ≤ (wrap64 (x1 + x11)) then (if (wrap64 (x1 + x11)) < (x10.length:Int) then (spec_PutNum.l0 k x1 x2 (wrap64 (Int.tdiv x3 256)) (x10.set ((wrap64 (x1 + x11)):Int).toNat (Int.tmod x3 256)) (wrap64 (x11 + 1))) else (none)) else (none)) else (some (x10,true)))
end
def spec_PutNum.f (k:Nat) (l0:List Int) (a1:Int) (a2:Int) (a3:Int):Option (List Int × Bool):=(some (([]:List Int):List Int)).bind fun y576=>(if y576.length + l0.length < 17592186044416 then ((some (y576 ++ l0:List Int)).bind fun y579=>((spec_l4Fits.f k l0 a1 a2).bind fun t582=>(if t582 = true then ((spec_LimitOf.f a2).bind fun t583=>((spec_l1In.f a3 0 (wrap64 (t583 - 1))).bind fun t584=>(spec_PutNum.j0 k a1 a2 a3 y579 (!t584)))) else (spec_PutNum.j0 k a1 a2 a3 y579 true)))) else (none))
set_option maxHeartbeats 8000000 in
set_option maxRecDepth 100000 in
theorem spec_PutNum.calls (k:Nat) (A0:Option Addr) (c0:Nat) (l0:List Int) (a1:Int) (a2:Int) (a3:Int) (r1:List Int) (r2:Bool) (w:World) (hr0:Kd.C (Kd.int .i64) w A0 l0.length l0) (hc0:l0.length ≤ c0) (h:spec_PutNum.f k l0 a1 a2 a3 = some (r1,r2)) :
  Calls Try.prog 60 #[.slice A0 l0.length c0,.int .i64 a1,.int .i64 a2,.int .i64 a3] w fun e w'=>∃ v0_:Value,e = .returned (.tuple #[v0_,.bool r2]) ∧ Kd.R (Kd.int .i64) 3 w' w.heap.size (fun _=>True) v0_ r1 ∧ Below w.heap.size w w':=by
 have HR0:=Aside0.mk hr0
 have HC0:=Aside0.mk hc0
 clear hr0 hc0
 have HB:=Az (Below.refl w.heap.size w)
 have H:((some (([]:List Int):List Int)).bind fun y576=>(if y576.length + l0.length < 17592186044416 then ((some (y576 ++ l0:List Int)).bind fun y579=>((spec_l4Fits.f k l0 a1 a2).bind fun t582=>(if t582 = true then ((spec_LimitOf.f a2).bind fun t583=>((spec_l1In.f a3 0 (wrap64 (t583 - 1))).bind fun t584=>(spec_PutNum.j0 k a1 a2 a3 y579 (!t584)))) else (spec_PutNum.j0 k a1 a2 a3 y579 true)))) else (none))) = some (r1,r2):=h
 clear h
 obtain ⟨y576,hy576⟩:∃ y_:List Int,y_ = (([]:List Int)):=⟨_,rfl⟩
 replace H:(if y576.length + l0.length < 17592186044416 then ((some (y576 ++ l0:List Int)).bind fun y579=>((spec_l4Fits.f k l0 a1 a2).bind fun t582=>(if t582 = true then ((spec_LimitOf.f a2).bind fun t583=>((spec_l1In.f a3 0 (wrap64 (t583 - 1))).bind fun t584=>(spec_PutNum.j0 k a1 a2 a3 y579 (!t584)))) else (spec_PutNum.j0 k a1 a2 a3 y579 true)))) else (none)) = some (r1,r2):=by first | (rw [hy576];with_reducible exact H) | (have H2_:=(Option.bind_some _ _).symm.trans H;rw [hy576];with_reducible exact H2_) | (have H2_:=(Option.bind_some _ _).symm.trans H;with_reducible exact H2_) | with_reducible exact H | (rw [hy576];exact H) | exact H
 have Ny576:=Aside0.mk hy576
 clear hy576
 by_cases c5:y576.length + l0.length < 17592186044416
 ·rw [if_pos c5] at H
  have LMc5:=Aside0.mk c5
  clear c5
  obtain ⟨y579,hy579⟩:∃ y_:List Int,y_ = (y576 ++ l0):=⟨_,rfl⟩
  replace H:((spec_l4Fits.f k l0 a1 a2).bind fun t582=>(if t582 = true then ((spec_LimitOf.f a2).bind fun t583=>((spec_l1In.f a3 0 (wrap64 (t583 - 1))).bind fun t584=>(spec_PutNum.j0 k a1 a2 a3 y579 (!t584)))) else (spec_PutNum.j0 k a1 a2 a3 y579 true))) = some (r1,r2):=by first | (rw [hy579];with_reducible exact H) | (have H2_:=(Option.bind_some _ _).symm.trans H;rw [hy579];with_reducible exact H2_) | (have H2_:=(Option.bind_some _ _).symm.trans H;with_reducible exact H2_) | with_reducible exact H | (rw [hy579];exact H) | exact H
  have Ny579:=Aside0.mk hy579
  clear hy579
  have HC6:=Aside0.mk H
  clear H
  go_enter Try.func60,Try.ntmps60
  go_upto_region 2 with (first | ((with_reducible refine gate_dst (N:=12) rfl ?_);refine Kd.R_lit (Kd.int .i64) _ 3 ?hg (N:=12) ?hd (xs:=([]:List Int)) (inner:=[]) (ok:=fun _=>True) (okp:=fun _=>True) ?hr ?hp (fun _ hk=>hk) trivial (Below.refl _ _) (Nat.le_refl _) (by simp) ?_;(case hd=>rfl);(case hg=>rfl);(case hr=>first | (go_simp;done) | (go_simp;rfl));(case hp=>exact (Reps.none _ _));intro v577 w7 ho8 hb hg_ hnew_;clear hg_ hnew_;(first | rw [← Ny576.out] at ho8 | (simp only [Int.reduceToNat] at ho8;rw [← Ny576.out] at ho8));have n0_:=Az (Kd.R_lower ho8 (below_size (mb HB)));have n1_:=Az (below_step (mb HB) hb);clear HB;have HO578:=n0_;have HB:=n1_;clear n0_ n1_;clear hb ho8) | ((with_reducible refine gate_builtin (b:=.append) (xs:=#[.tmp 12,.tmp 13]) rfl ?_);at_builtin;refine Kd.R_append_rows (Kd.int .i64) (w0:=w) w.heap.size rfl (.tmp 12) (.tmp 13) 24 3 (.int .i64 0) 8 rfl Try.underlying24 info3 rfl (by decide) (by omega) v577 y576 l0 _ _ _ (fun _=>True) (fun _=>False) rfl rfl ?aO ?aR (fun _ _ h=>h) (fun _ h=>h.elim) ?aF ?aB ?aS ?aL ?_;(case aR=>exact mc (Kd.C_below HR0.out HB.out));(case aB=>exact (mb HB));(case aF=>exact (fun _ _=>trivial));(case aO=>exact (mr HO578));(case aS=>exact (below_size (mb HB)));(case aL=>have:=LMc5.out;omega);intro v580 w9 ho hb hg hat;rw [← Ny579.out] at ho;have n0_:=Az (hb);have n1_:=Az (ho);clear HB HO578;have HB:=n0_;have HO581:=n1_;clear n0_ n1_;clear ho hb hg hat))
  (try simp only [Act.put,List.setIfInBounds_toArray,List.set_cons_zero,List.set_cons_succ])
  go_cut [27] (fun v27 wc=>∃ (kq:Nat) (x27_5:Bool),v27 = .bool x27_5 ∧ Aside0 (spec_PutNum.j0 kq a1 a2 a3 y579 x27_5 = some (r1,r2)) ∧ Aside0 (kq ≤ k) ∧ Aside0 (Kd.R (Kd.int .i64) 3 wc w.heap.size (fun _=>True) v580 y579) ∧ Aside0 (Below w.heap.size w wc))
  case first =>
   have H:=HC6.out
   clear HC6
   replace H:=Option.bind_eq_some_iff.mp H
   obtain ⟨t582,A100,H⟩:=H
   replace H:(if t582 = true then ((spec_LimitOf.f a2).bind fun t583=>((spec_l1In.f a3 0 (wrap64 (t583 - 1))).bind fun t584=>(spec_PutNum.j0 k a1 a2 a3 y579 (!t584)))) else (spec_PutNum.j0 k a1 a2 a3 y579 true)) = some (r1,r2):=H
   have A10:=Aside0.mk A100
   clear A100
   by_cases c11:t582 = true
   ·subst c11
    have H1:((spec_LimitOf.f a2).bind fun t583=>((spec_l1In.f a3 0 (wrap64 (t583 - 1))).bind fun t584=>(spec_PutNum.j0 k a1 a2 a3 y579 (!t584)))) = some (r1,r2):=by rw [if_pos rfl] at H;exact H
    clear H
    have H:=H1
    clear H1
    replace H:=Option.bind_eq_some_iff.mp H
    obtain ⟨t583,A120,H⟩:=H
    replace H:((spec_l1In.f a3 0 (wrap64 (t583 - 1))).bind fun t584=>(spec_PutNum.j0 k a1 a2 a3 y579 (!t584))) = some (r1,r2):=H
    have A12:=Aside0.mk A120
    clear A120
    replace H:=Option.bind_eq_some_iff.mp H
    obtain ⟨t584,A130,H⟩:=H
    replace H:(spec_PutNum.j0 k a1 a2 a3 y579 (!t584)) = some (r1,r2):=H
    have A13:=Aside0.mk A130
    clear A130
    have H':=Aside0.mk H
    clear H
    go_wp2_with (first | ((with_reducible refine gate_callee (f:=84) rfl ?_);refine goesL_ (some 18) rfl rfl Try.func84 (by kernel_rfl) rfl #[.slice A0 l0.length c0,.int .i64 a1,.int .i64 a2] rfl ml ?_;(with_reducible refine (spec_l4Fits.calls k _ _ l0 a1 a2 true _ ?side1 ?side2 A10.out).mono ?_);(case side1=>exact mc (Kd.C_below HR0.out HB.out));(case side2=>exact HC0.out);rintro e w' ⟨rfl,⟨nd,rfl⟩⟩;refine ⟨_,rfl,?_⟩) | (go_at_call 58;(with_reducible refine (spec_LimitOf.calls a2 t583 _ A12.out).mono ?_);rintro e w' ⟨rfl,⟨nd,rfl⟩⟩) | (go_at_call 57;(with_reducible refine (spec_l1In.calls a3 0 (wrap64 (t583 - 1)) t584 _ A13.out).mono ?_);rintro e w' ⟨rfl,⟨nd,rfl⟩⟩))
    go_meet
    case rel=>exact ⟨_,(!t584),(by first | rfl | (simp;done) | (simp [*];done)),H',⟨by first | omega | exact Nat.le_refl _⟩,⟨mr HO581⟩,⟨mb HB⟩⟩
   ·replace c11:=Bool.eq_false_iff.mpr c11
    subst c11
    have H1:(spec_PutNum.j0 k a1 a2 a3 y579 true) = some (r1,r2):=by rw [if_neg (show ¬ (false = true) by decide)] at H;exact H
    clear H
    have H:=H1
    clear H1
    have H':=Aside0.mk H
    clear H
    go_wp2_with (first | ((with_reducible refine gate_callee (f:=84) rfl ?_);refine goesL_ (some 18) rfl rfl Try.func84 (by kernel_rfl) rfl #[.slice A0 l0.length c0,.int .i64 a1,.int .i64 a2] rfl ml ?_;(with_reducible refine (spec_l4Fits.calls k _ _ l0 a1 a2 false _ ?side1 ?side2 A10.out).mono ?_);(case side1=>exact mc (Kd.C_below HR0.out HB.out));(case side2=>exact HC0.out);rintro e w' ⟨rfl,⟨nd,rfl⟩⟩;refine ⟨_,rfl,?_⟩))
    go_meet
    case rel=>exact ⟨_,(true),(by first | rfl | (simp;done) | (simp [*];done)),H',⟨by first | omega | exact Nat.le_refl _⟩,⟨mr HO581⟩,⟨mb HB⟩⟩
  case rest =>
   clear HC6
   try clear c5
   obtain ⟨kq,x27_5,rfl,HA,HJ5,HO_10,HB⟩:=hcut
   cases kq with
   | zero=>exact absurd HA.out (by simp [spec_PutNum.j0])
   | succ kj5 =>
    have H:=HA.out
    clear HA
    simp only [spec_PutNum.j0] at H
    by_cases c14:x27_5 = true
    ·subst c14
     have H1:(some (y579,false)) = some (r1,r2):=by rw [if_pos rfl] at H;exact H
     clear H
     have H:=H1
     clear H1
     simp only [Option.some.injEq,Prod.mk.injEq] at H
     obtain ⟨rfl,rfl⟩:=H
     go_wp2
     go_ret2
     exact ⟨_,by first | rfl | (simp [errW_none,errW_some] <;> rfl) | (simp [*,errW_none,errW_some] <;> rfl),mr HO_10,mb HB⟩
    ·replace c14:=Bool.eq_false_iff.mpr c14
     subst c14
     have H1:(spec_PutNum.l0 kj5 a1 a2 a3 y579 0) = some (r1,r2):=by rw [if_neg (show ¬ (false = true) by decide)] at H;exact H
     clear H
     have H:=H1
     clear H1
     have H':=Aside0.mk H
     clear H
     go_wp2
     go_loopg [3,11] kj5 (fun kq v3 v11 w'=>∃ (x3_2:Int) (x10_2:List Int) (x11_2:Int),v3 = .int .i64 x3_2 ∧ v11 = .int .i64 x11_2 ∧ Aside0 (spec_PutNum.l0 kq a1 a2 x3_2 x10_2 x11_2 = some (r1,r2)) ∧ Aside0 (kq ≤ kj5) ∧ Aside0 (Kd.R (Kd.int .i64) 3 w' w.heap.size (fun _=>True) v580 x10_2) ∧ Aside0 (Below w.heap.size w w'))
     case atStart=>exact ⟨(a3),(y579),(0),(by first | rfl | (simp;done) | (simp [*];done)),(by first | rfl | (simp;done) | (simp [*];done)),H',⟨Nat.le_refl _⟩,⟨mr HO_10⟩,⟨mb HB⟩⟩
     case round =>
      clear H'
      try clear c5
      try clear c14
      obtain ⟨x3_2,x10_2,x11_2,rfl,rfl,HA,HK2,HO_10,HB⟩:=hrel
      cases gk with
      | zero=>exact absurd HA.out (by simp [spec_PutNum.l0])
      | succ k2 =>
       have H:=HA.out
       clear HA
       simp only [spec_PutNum.l0] at H
       replace H:=Option.bind_eq_some_iff.mp H
       obtain ⟨t585,A150,H⟩:=H
       replace H:(if x11_2 < t585 then (if 0 ≤ (wrap64 (a1 + x11_2)) then (if (wrap64 (a1 + x11_2)) < (x10_2.length:Int) then (spec_PutNum.l0 k2 a1 a2 (wrap64 (Int.tdiv x3_2 256)) (x10_2.set ((wrap64 (a1 + x11_2)):Int).toNat (Int.tmod x3_2 256)) (wrap64 (x11_2 + 1))) else (none)) else (none)) else (some (x10_2,true))) = some (r1,r2):=H
       have A15:=Aside0.mk A150
       clear A150
       by_cases c16:x11_2 < t585
       ·rw [if_pos c16] at H
        have c16b0:decide (x11_2 < t585) = true:=decide_eq_true c16
        clear c16
        obtain ⟨ji17,hji17⟩:∃ j_:Int,(wrap64 (a1 + x11_2)) = j_:=⟨_,rfl⟩
        replace H:(if 0 ≤ (ji17) then (if (ji17) < (x10_2.length:Int) then (spec_PutNum.l0 k2 a1 a2 (wrap64 (Int.tdiv x3_2 256)) (x10_2.set ((ji17):Int).toNat (Int.tmod x3_2 256)) (wrap64 (x11_2 + 1))) else (none)) else (none)) = some (r1,r2):=by first | (rw [hji17] at H;exact H) | (simp only [hji17] at H ⊢;exact H)
        (try rw [hji17] at A15)
        have hji17w:(IntKind.i64.wrap (a1 + x11_2)) = ji17:=(i64_w _).trans hji17
        by_cases c18:0 ≤ (ji17)
        ·rw [if_pos c18] at H
         have c18b0:decide (0 ≤ (ji17)) = true:=decide_eq_true c18
         clear c18
         by_cases c19:(ji17) < (x10_2.length:Int)
         ·rw [if_pos c19] at H
          have c19b0:decide ((ji17) < (x10_2.length:Int)) = true:=decide_eq_true c19
          clear c19
          obtain ⟨y586,hy586⟩:∃ y_:List Int,y_ = (x10_2.set ((ji17):Int).toNat (Int.tmod x3_2 256)):=⟨_,rfl⟩
          replace H:(spec_PutNum.l0 k2 a1 a2 (wrap64 (Int.tdiv x3_2 256)) y586 (wrap64 (x11_2 + 1))) = some (r1,r2):=by first | (rw [hy586];with_reducible exact H) | (have H2_:=(Option.bind_some _ _).symm.trans H;rw [hy586];with_reducible exact H2_) | (have H2_:=(Option.bind_some _ _).symm.trans H;with_reducible exact H2_) | with_reducible exact H | (rw [hy586];exact H) | exact H
          have Ny586:=Aside0.mk hy586
          clear hy586
          have H':=Aside0.mk H
          clear H
          go_wp2_with (first | ((with_reducible refine gate_callee (f:=83) rfl ?_);refine goesL_ (some 31) rfl rfl Try.func83 (by kernel_rfl) rfl #[.int .i64 a2] rfl ml ?_;(with_reducible refine (spec_BytesOf.calls a2 t585 _ A15.out).mono ?_);rintro e w' ⟨rfl,⟨nd,rfl⟩⟩;refine ⟨_,rfl,?_⟩;(try (rw [drewN_self wr];generalize hq_:World.drewN wr _ = wr;have n0_:Aside0 (Kd.R (Kd.int .i64) 3 wr w.heap.size (fun _=>True) v580 x10_2):=⟨by rw [← hq_];exact (mr HO_10)⟩;have n1_:Aside0 (Below w.heap.size w wr):=⟨by rw [← hq_];exact (mb HB)⟩;clear HO_10 HB hq_;have HO_10:=n0_;have HB:=n1_;clear n0_ n1_));have p20:0 ≤ ((ji17):Int):=of_decide_eq_true (by first | (with_reducible assumption) | assumption);have q20:((ji17):Int) < ((x10_2.length:Int):Int):=of_decide_eq_true (by first | (with_reducible assumption) | assumption);obtain ⟨go20,co20,eo20,gb20,gl20,cl20,HG20⟩:=Kd.R_form HO_10.out (by omega);(first | cases eo20 | (injection eo20 with ea_ en_ ec_;(first | subst ea_ | (injection ea_ with ea_;subst ea_));subst ec_;clear en_));have GB20:=Aside0.mk gb20;have GG20:=Aside0.mk HG20;clear gb20 gl20 HG20;obtain ⟨hx20_0,hf20_0⟩:=Kd.R_celln 0 HO_10.out ((ji17):Int) p20 q20;replace p20:=eq_true p20;replace q20:=eq_true q20;obtain ⟨hy21_,hz21_⟩:=Kd.R_celln 0 HO_10.out ((ji17):Int) (of_decide_eq_true (by first | (with_reducible assumption) | assumption)) (of_decide_eq_true (by first | (with_reducible assumption) | assumption));have HP21:=Kd.R_putg HO_10.out ((ji17):Int) (Int.tmod x3_2 256)) | ((with_reducible refine gate_store (t:=3) (p:=41) rfl ?_);refine store_event (t:=3) (p:=41) (v:=?vo_w22) (w1:=(wr.setCell ⟨go20,((ji17):Int).toNat,none⟩ (.int .i64 (Int.tmod x3_2 256)))) ?hg ?ho ?hn ?hr ?_;(case ho=>rfl);(case hg=>rfl);(case hn=>rfl);(case hr=>first | (go_simp;done) | (go_simp;rfl));intro w22 hw;have hg:wr.grownBy w22 (some go20):=(by rw [hw];exact HP21.2);have hp_:Kd.R (Kd.int .i64) 3 w22 w.heap.size (fun _=>True) (.slice (some ⟨go20,0,none⟩) x10_2.length co20) y586:=(by rw [hw,Ny586.out];exact HP21.1);clear HP21;have n0_:=Az (hp_);have n1_:=Az ((by rw [hw];exact below_set (HB.out) GB20.out:Below w.heap.size w w22));clear HO_10 HB;have HO_10:=n0_;have HB:=n1_;clear n0_ n1_;clear hg hw hp_))
          go_roundg k2
          case measure=>have:=HJ5.out;have:=HK2.out;omega
          case rel=>exact ⟨(wrap64 (Int.tdiv x3_2 256)),(y586),(wrap64 (x11_2 + 1)),(by first | rfl | (simp;done) | (simp [*];done)),(by first | rfl | (simp;done) | (simp [*];done)),H',⟨by have:=HJ5.out;have:=HK2.out;omega⟩,⟨mr HO_10⟩,⟨mb HB⟩⟩
         ·rw [if_neg c19] at H
          exact absurd H (by simp)
        ·rw [if_neg c18] at H
         exact absurd H (by simp)
       ·rw [if_neg c16] at H
        have c16b0:decide (x11_2 < t585) = false:=decide_eq_false c16
        clear c16
        simp only [Option.some.injEq,Prod.mk.injEq] at H
        obtain ⟨rfl,rfl⟩:=H
        go_wp2_with (first | ((with_reducible refine gate_callee (f:=83) rfl ?_);refine goesL_ (some 31) rfl rfl Try.func83 (by kernel_rfl) rfl #[.int .i64 a2] rfl ml ?_;(with_reducible refine (spec_BytesOf.calls a2 t585 _ A15.out).mono ?_);rintro e w' ⟨rfl,⟨nd,rfl⟩⟩;refine ⟨_,rfl,?_⟩))
        go_ret2
        exact ⟨_,by first | rfl | (simp [errW_none,errW_some] <;> rfl) | (simp [*,errW_none,errW_some] <;> rfl),mr HO_10,mb HB⟩
 ·rw [if_neg c5] at H
  exact absurd H (by simp)
def spec_GetNum.l0:Nat → List Int → Int → Int → Int → Option (Int × Bool)
 | 0,_,_,_,_=>none
 | k + 1,x0,x1,x8,x9=>if x9 ≥ 0 then (if 0 ≤ (wrap64 (x1 + x9)) then (if (wrap64 (x1 + x9)) < (x0.length:Int) then (spec_GetNum.l0 k x0 x1 (wrap64 ((wrap64 (x8 * 256)) + (rd x0 (wrap64 (x1 + x9))))) (wrap64 (x9 - 1))) else (none)) else (none)) else (some (x8,true))
def spec_GetNum.f (k:Nat) (l0:List Int) (a1:Int) (a2:Int):Option (Int × Bool):=(spec_l4Fits.f k l0 a1 a2).bind fun t587=>(if t587 = true then ((spec_BytesOf.f a2).bind fun t588=>(spec_GetNum.l0 k l0 a1 0 (wrap64 (t588 - 1)))) else (some (0,false)))
set_option maxHeartbeats 8000000 in
set_option maxRecDepth 100000 in
theorem spec_GetNum.calls (k:Nat) (A0:Option Addr) (c0:Nat) (l0:List Int) (a1:Int) (a2:Int) (r1:Int) (r2:Bool) (w:World) (hr0:Kd.C (Kd.int .i64) w A0 l0.length l0) (hc0:l0.length ≤ c0) (h:spec_GetNum.f k l0 a1 a2 = some (r1,r2)) :
  Calls Try.prog 61 #[.slice A0 l0.length c0,.int .i64 a1,.int .i64 a2] w fun e w'=>e = .returned (.tuple #[.int .i64 r1,.bool r2]) ∧ Drawn0 w w':=by
 have HR0:=Aside0.mk hr0
 have HC0:=Aside0.mk hc0
 clear hr0 hc0
 have H:((spec_l4Fits.f k l0 a1 a2).bind fun t587=>(if t587 = true then ((spec_BytesOf.f a2).bind fun t588=>(spec_GetNum.l0 k l0 a1 0 (wrap64 (t588 - 1)))) else (some (0,false)))) = some (r1,r2):=h
 clear h
 replace H:=Option.bind_eq_some_iff.mp H
 obtain ⟨t587,A40,H⟩:=H
 replace H:(if t587 = true then ((spec_BytesOf.f a2).bind fun t588=>(spec_GetNum.l0 k l0 a1 0 (wrap64 (t588 - 1)))) else (some (0,false))) = some (r1,r2):=H
 have A4:=Aside0.mk A40
 clear A40
 by_cases c5:t587 = true
 ·subst c5
  have H1:((spec_BytesOf.f a2).bind fun t588=>(spec_GetNum.l0 k l0 a1 0 (wrap64 (t588 - 1)))) = some (r1,r2):=by rw [if_pos rfl] at H;exact H
  clear H
  have H:=H1
  clear H1
  replace H:=Option.bind_eq_some_iff.mp H
  obtain ⟨t588,A60,H⟩:=H
  replace H:(spec_GetNum.l0 k l0 a1 0 (wrap64 (t588 - 1))) = some (r1,r2):=H
  have A6:=Aside0.mk A60
  clear A60
  have H':=Aside0.mk H
  clear H
  go_enter Try.func61,Try.ntmps61
  go_wp2_with (first | ((with_reducible refine gate_callee (f:=84) rfl ?_);refine goesL_ (some 13) rfl rfl Try.func84 (by kernel_rfl) rfl #[.slice A0 l0.length c0,.int .i64 a1,.int .i64 a2] rfl ml ?_;(with_reducible refine (spec_l4Fits.calls k _ _ l0 a1 a2 true _ ?side1 ?side2 A4.out).mono ?_);(case side1=>repeat (first | exact HR0.out | (with_reducible refine Kd.C_alloc ?_ _) | (with_reducible refine Kd.C_drewN ?_ _) | (with_reducible refine Kd.C_drew ?_)));(case side2=>exact HC0.out);rintro e w' ⟨rfl,⟨nd,rfl⟩⟩;refine ⟨_,rfl,?_⟩) | ((with_reducible refine gate_callee (f:=83) rfl ?_);refine goesL_ (some 16) rfl rfl Try.func83 (by kernel_rfl) rfl #[.int .i64 a2] rfl ml ?_;(with_reducible refine (spec_BytesOf.calls a2 t588 _ A6.out).mono ?_);rintro e w' ⟨rfl,⟨nd,rfl⟩⟩;refine ⟨_,rfl,?_⟩))
  go_loopg [8,9] k (fun kq v8 v9 w'=>∃ (x8_1:Int) (x9_1:Int),v8 = .int .i64 x8_1 ∧ v9 = .int .i64 x9_1 ∧ Aside0 (spec_GetNum.l0 kq l0 a1 x8_1 x9_1 = some (r1,r2)) ∧ Aside0 (kq ≤ k) ∧ Drawn0 w w')
  case atStart=>exact ⟨(0),(wrap64 (t588 - 1)),(by first | rfl | (simp;done) | (simp [*];done)),(by first | rfl | (simp;done) | (simp [*];done)),H',⟨Nat.le_refl _⟩,by repeat (first | exact Drawn0.refl _ | apply Drawn0.step)⟩
  case round =>
   clear H'
   try clear c5
   obtain ⟨x8_1,x9_1,rfl,rfl,HA,HK1,⟨m1,rfl⟩⟩:=hrel
   cases gk with
   | zero=>exact absurd HA.out (by simp [spec_GetNum.l0])
   | succ k1 =>
    have H:=HA.out
    clear HA
    simp only [spec_GetNum.l0] at H
    by_cases c7:x9_1 ≥ 0
    ·rw [if_pos c7] at H
     have c7b0:decide (0 ≤ x9_1) = true:=decide_eq_true c7
     clear c7
     obtain ⟨ji8,hji8⟩:∃ j_:Int,(wrap64 (a1 + x9_1)) = j_:=⟨_,rfl⟩
     replace H:(if 0 ≤ (ji8) then (if (ji8) < (l0.length:Int) then (spec_GetNum.l0 k1 l0 a1 (wrap64 ((wrap64 (x8_1 * 256)) + (rd l0 (ji8)))) (wrap64 (x9_1 - 1))) else (none)) else (none)) = some (r1,r2):=by first | (rw [hji8] at H;exact H) | (simp only [hji8] at H ⊢;exact H)
     have hji8w:(IntKind.i64.wrap (a1 + x9_1)) = ji8:=(i64_w _).trans hji8
     by_cases c9:0 ≤ (ji8)
     ·rw [if_pos c9] at H
      have c9b0:decide (0 ≤ (ji8)) = true:=decide_eq_true c9
      clear c9
      by_cases c10:(ji8) < (l0.length:Int)
      ·rw [if_pos c10] at H
       have c10b0:decide ((ji8) < (l0.length:Int)) = true:=decide_eq_true c10
       clear c10
       have H':=Aside0.mk H
       clear H
       have p589:0 ≤ ((ji8):Int):=of_decide_eq_true (by first | (with_reducible assumption) | assumption)
       have q589:(ji8) < (l0.length:Int):=of_decide_eq_true (by first | (with_reducible assumption) | assumption)
       obtain ⟨ad589,e589,hx589_0⟩:=Kd.at_int HR0.out (ji8) p589 q589
       cases e589
       replace p589:=eq_true p589
       replace q589:=eq_true q589
       go_wp2
       go_roundg k1
       case measure=>have:=HK1.out;omega
       case rel=>exact ⟨(wrap64 ((wrap64 (x8_1 * 256)) + (rd l0 (ji8)))),(wrap64 (x9_1 - 1)),(by first | rfl | (simp;done) | (simp only [← hji8] <;> (first | rfl | simp)) | (simp [*];done)),(by first | rfl | (simp;done) | (simp [*];done)),H',⟨by have:=HK1.out;omega⟩,by repeat (first | exact Drawn0.refl _ | apply Drawn0.step)⟩
      ·rw [if_neg c10] at H
       exact absurd H (by simp)
     ·rw [if_neg c9] at H
      exact absurd H (by simp)
    ·rw [if_neg c7] at H
     have c7b0:decide (0 ≤ x9_1) = false:=decide_eq_false c7
     clear c7
     simp only [Option.some.injEq,Prod.mk.injEq] at H
     obtain ⟨rfl,rfl⟩:=H
     go_wp2
     go_ret2
     exact ⟨by first | rfl | (simp;done) | (simp [*];done),by repeat (first | exact Drawn0.refl _ | apply Drawn0.step)⟩
 ·replace c5:=Bool.eq_false_iff.mpr c5
  subst c5
  have H1:(some (0,false)) = some (r1,r2):=by rw [if_neg (show ¬ (false = true) by decide)] at H;exact H
  clear H
  have H:=H1
  clear H1
  simp only [Option.some.injEq,Prod.mk.injEq] at H
  obtain ⟨rfl,rfl⟩:=H
  go_enter Try.func61,Try.ntmps61
  go_wp2_with (first | ((with_reducible refine gate_callee (f:=84) rfl ?_);refine goesL_ (some 13) rfl rfl Try.func84 (by kernel_rfl) rfl #[.slice A0 l0.length c0,.int .i64 a1,.int .i64 a2] rfl ml ?_;(with_reducible refine (spec_l4Fits.calls k _ _ l0 a1 a2 false _ ?side1 ?side2 A4.out).mono ?_);(case side1=>repeat (first | exact HR0.out | (with_reducible refine Kd.C_alloc ?_ _) | (with_reducible refine Kd.C_drewN ?_ _) | (with_reducible refine Kd.C_drew ?_)));(case side2=>exact HC0.out);rintro e w' ⟨rfl,⟨nd,rfl⟩⟩;refine ⟨_,rfl,?_⟩))
  go_ret2
  exact ⟨by first | rfl | (simp;done) | (simp [*];done),by repeat (first | exact Drawn0.refl _ | apply Drawn0.step)⟩
end Go.Proofs.Ythikbgjlcdkoaaa.MFnModels

