-- Written for this claim by a program of the session (wip/mk.py) over the kit's print.
import Derived.Test.YthikbgjlcdkoaaaMFnModelsx0
namespace Go.Proofs.Ythikbgjlcdkoaaa.MFnModels
open Go.RowKit Go.Proofs.YthikbgjlcdkoaaaW.PrintWords Go.Proofs.YthikbgjlcdkoaaaW.PrintLast Go.Proofs.YthikbgjlcdkoaaaW.PrintMore
attribute [local go_sem] max2_int min2_int max_two min_two max_three min_three max_four min_four
set_option linter.unusedVariables false
set_option linter.unusedSimpArgs false
def spec_l8Copy.f (l0_0:List Int) (a0_1:Int) (l0_2:List Int):Option (List Int × Int × List Int):=(some (([]:List Int):List Int)).bind fun y144=>(if y144.length + l0_0.length < 17592186044416 then ((some (([]:List Int):List Int)).bind fun y150=>(if y150.length + l0_2.length < 17592186044416 then (some ((y144 ++ l0_0),a0_1,(y150 ++ l0_2))) else (none))) else (none))
def spec_l8Copy.T1:Bool × List (List Nat × List Nat):=(true,[([],[]),([],[]),([1],[1]),([0,2],[0,2]),([],[]),([4],[4]),([],[]),([],[]),([7],[7]),([6,8,3],[6,8]),([3,5,9],[3,5,9]),([10,9,0,1,2,3,4,5,6,7,8,9,10],[10])])
def spec_l8Copy.B1:List Nat:=[0,0,2,7,0,16,0,0,128,463,1023,2047]
theorem spec_l8Copy.tab1:rtab .any (opsOf Try.f78 1) = spec_l8Copy.T1:=by kernel_rfl
theorem spec_l8Copy.bits1:waitsOk spec_l8Copy.T1.2 spec_l8Copy.B1 = true:=by kernel_rfl
set_option maxHeartbeats 8000000 in
set_option maxRecDepth 100000 in
theorem spec_l8Copy.calls (A0_0:Option Addr) (c0_0:Nat) (l0_0:List Int) (a0_1:Int) (A0_2:Option Addr) (c0_2:Nat) (l0_2:List Int) (r1:List Int) (r2:Int) (r3:List Int) (w:World) (hr0_0:Kd.C (Kd.int .i64) w A0_0 l0_0.length l0_0) (hc0_0:l0_0.length ≤ c0_0) (hr0_2:Kd.C (Kd.int .i64) w A0_2 l0_2.length l0_2) (hc0_2:l0_2.length ≤ c0_2) (h:spec_l8Copy.f l0_0 a0_1 l0_2 = some (r1,r2,r3)) :
  Calls Try.prog 78 #[.agg #[.slice A0_0 l0_0.length c0_0,.int .i64 a0_1,.slice A0_2 l0_2.length c0_2]] w fun e w'=>∃ v0_ v2_:Value,e = .returned (.agg #[v0_,.int .i64 r2,v2_]) ∧ Kd.R (Kd.int .i64) 3 w' w.heap.size (fun k_=>some k_ ≠ (v2_:Value).ownBlock) v0_ r1 ∧ Kd.R (Kd.int .i64) 3 w' w.heap.size (fun k_=>some k_ ≠ (v0_:Value).ownBlock) v2_ r3 ∧ Below w.heap.size w w':=by
 have hu26:=Try.underlying26
 have HR0_0:=Aside0.mk hr0_0
 have HC0_0:=Aside0.mk hc0_0
 clear hr0_0 hc0_0
 have HR0_2:=Aside0.mk hr0_2
 have HC0_2:=Aside0.mk hc0_2
 clear hr0_2 hc0_2
 have HB:=Az (Below.refl w.heap.size w)
 have H:((some (([]:List Int):List Int)).bind fun y144=>(if y144.length + l0_0.length < 17592186044416 then ((some (([]:List Int):List Int)).bind fun y150=>(if y150.length + l0_2.length < 17592186044416 then (some ((y144 ++ l0_0),a0_1,(y150 ++ l0_2))) else (none))) else (none))) = some (r1,r2,r3):=h
 clear h
 obtain ⟨y144,hy144⟩:∃ y_:List Int,y_ = (([]:List Int)):=⟨_,rfl⟩
 replace H:(if y144.length + l0_0.length < 17592186044416 then ((some (([]:List Int):List Int)).bind fun y150=>(if y150.length + l0_2.length < 17592186044416 then (some ((y144 ++ l0_0),a0_1,(y150 ++ l0_2))) else (none))) else (none)) = some (r1,r2,r3):=by first | (rw [hy144];with_reducible exact H) | (have H2_:=(Option.bind_some _ _).symm.trans H;rw [hy144];with_reducible exact H2_) | (have H2_:=(Option.bind_some _ _).symm.trans H;with_reducible exact H2_) | with_reducible exact H | (rw [hy144];exact H) | exact H
 have Ny144:=Aside0.mk hy144
 clear hy144
 by_cases c2:y144.length + l0_0.length < 17592186044416
 ·rw [if_pos c2] at H
  have LMc2:=Aside0.mk c2
  clear c2
  obtain ⟨y147,hy147⟩:∃ y_:List Int,y_ = (y144 ++ l0_0):=⟨_,rfl⟩
  replace H:((some (([]:List Int):List Int)).bind fun y150=>(if y150.length + l0_2.length < 17592186044416 then (some (y147,a0_1,(y150 ++ l0_2))) else (none))) = some (r1,r2,r3):=by first | (rw [hy147];with_reducible exact H) | (have H2_:=(Option.bind_some _ _).symm.trans H;rw [hy147];with_reducible exact H2_) | (have H2_:=(Option.bind_some _ _).symm.trans H;with_reducible exact H2_) | with_reducible exact H | (rw [hy147];exact H) | exact H
  have Ny147:=Aside0.mk hy147
  clear hy147
  obtain ⟨y150,hy150⟩:∃ y_:List Int,y_ = (([]:List Int)):=⟨_,rfl⟩
  replace H:(if y150.length + l0_2.length < 17592186044416 then (some (y147,a0_1,(y150 ++ l0_2))) else (none)) = some (r1,r2,r3):=by first | (rw [hy150];with_reducible exact H) | (have H2_:=(Option.bind_some _ _).symm.trans H;rw [hy150];with_reducible exact H2_) | (have H2_:=(Option.bind_some _ _).symm.trans H;with_reducible exact H2_) | with_reducible exact H | (rw [hy150];exact H) | exact H
  have Ny150:=Aside0.mk hy150
  clear hy150
  by_cases c3:y150.length + l0_2.length < 17592186044416
  ·rw [if_pos c3] at H
   have LMc3:=Aside0.mk c3
   clear c3
   obtain ⟨y153,hy153⟩:∃ y_:List Int,y_ = (y150 ++ l0_2):=⟨_,rfl⟩
   replace H:(some (y147,a0_1,y153)) = some (r1,r2,r3):=by first | (rw [hy153];with_reducible exact H) | (have H2_:=(Option.bind_some _ _).symm.trans H;rw [hy153];with_reducible exact H2_) | (have H2_:=(Option.bind_some _ _).symm.trans H;with_reducible exact H2_) | with_reducible exact H | (rw [hy153];exact H) | exact H
   have Ny153:=Aside0.mk hy153
   clear hy153
   simp only [Option.some.injEq,Prod.mk.injEq] at H
   obtain ⟨rfl,rfl,rfl⟩:=H
   go_enter Try.func78,Try.ntmps78
   try go_wp2_with (first | ((with_reducible refine gate_dst (N:=1) rfl ?_);refine box_event ?hg (N:=1) ?hd (cs:=#[.slice A0_0 l0_0.length c0_0,.int .i64 a0_1,.slice A0_2 l0_2.length c0_2]) (t:=26) ?hr ?_;(case hd=>rfl);(case hg=>rfl);(case hr=>first | (go_simp;done) | (go_simp;rfl));intro gb142 hg w4 hbox hb;have n0_:=Az (below_step (mb HB) hb);have n1_:=Az (hbox);have n2_:=Az ((by rw [hg];exact (below_size (mb HB)):w.heap.size ≤ gb142));have n3_:=Az ((by rw [hg];exact (below_size (mb HB)):w.heap.size ≤ gb142));clear HB;have HB:=n0_;have BK142:=n1_;have GW142:=n2_;have GE142:=n3_;clear n0_ n1_ n2_ n3_;clear hb hbox hg) | ((with_reducible refine gate_dst (N:=2) rfl ?_);refine box_event ?hg (N:=2) ?hd (cs:=#[.slice none 0 0,.int .i64 0,.slice none 0 0]) (t:=26) ?hr ?_;(case hd=>rfl);(case hg=>rfl);(case hr=>first | (go_simp;done) | (go_simp;rfl));intro gb143 hg w5 hbox hb;have n0_:=Az (blk_below (mz BK142) hb);have n1_:=Az (below_step (mb HB) hb);have n2_:=Az (hbox);have n3_:=Az ((by rw [hg];exact (below_size (mb HB)):w.heap.size ≤ gb143));have n4_:=Az ((by rw [hg];exact (below_size (mb HB)):w.heap.size ≤ gb143));have n5_:=Az ((by rw [hg];exact Nat.ne_of_lt (blk_lt (mz BK142)):gb142 ≠ gb143));have n6_:=Az ((by rw [hg];exact Nat.ne_of_gt (blk_lt (mz BK142)):gb143 ≠ gb142));clear BK142 HB;have BK142:=n0_;have HB:=n1_;have BK143:=n2_;have GW143:=n3_;have GE143:=n4_;have NB142_143:=n5_;have NB143_142:=n6_;clear n0_ n1_ n2_ n3_ n4_ n5_ n6_;clear hb hbox hg))
   have n0_:=Az (blk_drew BK142.out)
   have n1_:=Az (blk_drew BK143.out)
   have n2_:=Az (below_drew1 HB.out)
   clear BK142 BK143 HB
   have BK142:=n0_
   have BK143:=n1_
   have HB:=n2_
   clear n0_ n1_ n2_
   refine start_ (n:=12) (S:=fun w'=>w'.cell? ⟨gb142,0,none⟩ = some (.slice A0_0 l0_0.length c0_0) ∧ w'.cell? ⟨gb142,1,none⟩ = some (.int .i64 a0_1) ∧ w'.cell? ⟨gb142,2,none⟩ = some (.slice A0_2 l0_2.length c0_2)) (ds:=[]) #[false,false,false,false,false,false,false,false,false,false,false,false] (by kernel_rfl) rfl rfl ⟨(blk_cell BK142.out 0).trans rfl,(blk_cell BK142.out 1).trans rfl,(blk_cell BK142.out 2).trans rfl⟩ (fun hHeld=>?_);refine with_tabW spec_l8Copy.tab1 spec_l8Copy.bits1 (fun HT_ HW_=>?_)
   generalize w5.drew = w6 at BK142 BK143 HB hHeld ⊢
   refine pure_ (i:=1) (N:=some 4) (v:=?_) (a':=?_) #[false,true,false,false,false,false,false,false,false,false,false,false] rfl rfl (any_of HT_.out (by kernel_rfl)) (fun _ _ _ h=>h) (Or.inl ⟨by rfl,?_⟩) ?_ ?_
   rotate_left
   ·intro w'
    go_simp
    with_reducible rfl
   rotate_left
   ·simp only [Act.put,List.setIfInBounds_toArray,List.set_cons_zero,List.set_cons_succ,i64_w,i32_w]
    rfl
   refine pure_ (i:=4) (N:=some 7) (v:=?_) (a':=?_) #[false,true,false,false,true,false,false,false,false,false,false,false] rfl rfl (any_of HT_.out (by kernel_rfl)) (fun _ _ _ h=>h) (Or.inl ⟨by rfl,?_⟩) ?_ ?_
   rotate_left
   ·intro w'
    go_simp
    with_reducible rfl
   rotate_left
   ·simp only [Act.put,List.setIfInBounds_toArray,List.set_cons_zero,List.set_cons_succ,i64_w,i32_w]
    rfl
   refine pure_ (i:=7) (N:=some 10) (v:=?_) (a':=?_) #[false,true,false,false,true,false,false,true,false,false,false,false] rfl rfl (any_of HT_.out (by kernel_rfl)) (fun _ _ _ h=>h) (Or.inl ⟨by rfl,?_⟩) ?_ ?_
   rotate_left
   ·intro w'
    go_simp
    with_reducible rfl
   rotate_left
   ·simp only [Act.put,List.setIfInBounds_toArray,List.set_cons_zero,List.set_cons_succ,i64_w,i32_w]
    rfl
   refine take_ (i:=2) (N:=some 5) (v:=?_) (a':=?_) #[false,true,true,false,true,false,false,true,false,false,false,false] rfl rfl (take_ofW HT_.out HW_.out (by kernel_rfl)) (fun _ _ _ h=>h) (Or.inl ⟨by rfl,?_⟩) hHeld ?_ ?_
   rotate_left
   ·rintro w' ⟨s0,s1,s2⟩
    go_simp
    with_reducible rfl
   rotate_left
   ·simp only [Act.put,List.setIfInBounds_toArray,List.set_cons_zero,List.set_cons_succ,i64_w,i32_w]
    rfl
   refine take_ (i:=5) (N:=some 8) (v:=?_) (a':=?_) #[false,true,true,false,true,true,false,true,false,false,false,false] rfl rfl (take_ofW HT_.out HW_.out (by kernel_rfl)) (fun _ _ _ h=>h) (Or.inl ⟨by rfl,?_⟩) hHeld ?_ ?_
   rotate_left
   ·rintro w' ⟨s0,s1,s2⟩
    go_simp
    with_reducible rfl
   rotate_left
   ·simp only [Act.put,List.setIfInBounds_toArray,List.set_cons_zero,List.set_cons_succ,i64_w,i32_w]
    rfl
   refine take_ (i:=8) (N:=some 11) (v:=?_) (a':=?_) #[false,true,true,false,true,true,false,true,true,false,false,false] rfl rfl (take_ofW HT_.out HW_.out (by kernel_rfl)) (fun _ _ _ h=>h) (Or.inl ⟨by rfl,?_⟩) hHeld ?_ ?_
   rotate_left
   ·rintro w' ⟨s0,s1,s2⟩
    go_simp
    with_reducible rfl
   rotate_left
   ·simp only [Act.put,List.setIfInBounds_toArray,List.set_cons_zero,List.set_cons_succ,i64_w,i32_w]
    rfl
   refine join_ (σ:=Value × Value × Value) 3 #[true,true,true,true,true,true,true,true,true,false,false,false] (fun s_=>[(3,s_.1),(6,s_.2.1),(9,s_.2.2)]) (fun s_ w'=>(w'.cell? ⟨gb142,0,none⟩ = some (.slice A0_0 l0_0.length c0_0) ∧ w'.cell? ⟨gb142,1,none⟩ = some (.int .i64 a0_1) ∧ w'.cell? ⟨gb142,2,none⟩ = some (.slice A0_2 l0_2.length c0_2)) ∧ (Kd.R (Kd.int .i64) 3 w' w.heap.size (fun k_=>some k_ ≠ (s_.2.2:Value).ownBlock) s_.2.1 y147) ∧ (Kd.R (Kd.int .i64) 3 w' w.heap.size (fun k_=>some k_ ≠ (s_.2.1:Value).ownBlock) s_.2.2 y150) ∧ (w'.heap[gb142]? = some (.cells #[.slice A0_0 l0_0.length c0_0,.int .i64 a0_1,.slice A0_2 l0_2.length c0_2] 26 (0,0))) ∧ (w'.heap[gb143]? = some (.cells #[.slice none 0 0,.int .i64 0,.slice none 0 0] 26 (0,0))) ∧ (Below w.heap.size w w')) ?_ ?_
   rotate_left
   ·intro hCont
    refine two_ (i:=0) (j:=6) (Ni:=some 3) (Nj:=some 9) #[true,true,true,false,true,true,false,true,true,false,false,false] #[false,true,true,false,true,true,true,true,true,false,false,false] rfl rfl rfl rfl (two_of HT_.out (by kernel_rfl)) (by decide) (by decide) (fun K hK=>?_) (fun K hK=>?_)
    ·skip
     refine Kd.R_lit_step (Kd.int .i64) _ 3 ?hg (N:=3) ?hd (xs:=([]:List Int)) (inner:=[]) (ok:=fun _=>True) (okp:=fun _=>True) ?hr ?hp (fun _ hk=>hk) trivial (Below.refl _ _) (Nat.le_refl _) (by simp) ?_;(case hd=>rfl);(case hg=>rfl);(case hr=>first | (go_simp;done) | (go_simp;rfl));(case hp=>exact (Reps.none _ _))
     intro v145 w7 ho8 hb hg_ hnew_
     clear hg_ hnew_
     (first | rw [← Ny144.out] at ho8 | (simp only [Int.reduceToNat] at ho8;rw [← Ny144.out] at ho8))
     have n0_:=Az (Kd.R_lower ho8 (below_size (mb HB)))
     have n1_:=Az (blk_below (mz BK142) hb)
     have n2_:=Az (blk_below (mz BK143) hb)
     have n3_:=Az (below_step (mb HB) hb)
     clear BK142 BK143 HB
     have HO146:=n0_
     have BK142:=n1_
     have BK143:=n2_
     have HB:=n3_
     clear n0_ n1_ n2_ n3_ hb ho8
     refine hK.out _ _ ⟨(blk_cell BK142.out 0).trans rfl,(blk_cell BK142.out 1).trans rfl,(blk_cell BK142.out 2).trans rfl⟩ (fun hHeld=>?_)
     clear hK K
     refine norm_ (a':=?_) ?_ ?_
     rotate_left
     ·show Act.put _ (some 3) _ = _
      simp only [Act.put,List.setIfInBounds_toArray,List.set_cons_zero,List.set_cons_succ,i64_w,i32_w]
      rfl
     refine two_ (i:=3) (j:=6) (Ni:=some 6) (Nj:=some 9) #[true,true,true,true,true,true,false,true,true,false,false,false] #[true,true,true,false,true,true,true,true,true,false,false,false] rfl rfl rfl rfl (two_of HT_.out (by kernel_rfl)) (by decide) (by decide) (fun K hK=>?_) (fun K hK=>?_)
     ·skip
      refine Kd.R_append_rows_step (Kd.int .i64) (w0:=w) w.heap.size (by rfl) (.tmp 3) (.tmp 5) 24 3 (.int .i64 0) 8 rfl Try.underlying24 info3 rfl (by decide) (by omega) v145 y144 l0_0 _ _ _ (fun _=>True) (fun _=>False) rfl rfl ?aO ?aR (fun _ _ h=>h) (fun _ h=>h.elim) ?aF ?aB ?aS ?aL ?_
      (case aR=>exact mc (Kd.C_below HR0_0.out HB.out))
      (case aB=>exact (mb HB))
      (case aF=>exact (fun _ _=>trivial))
      (case aO=>exact (mr HO146))
      (case aS=>exact (below_size (mb HB)))
      (case aL=>have:=LMc2.out;omega)
      intro v148 w9 ho hb hg hat
      rw [← Ny147.out] at ho
      have n0_:=Az (blk_grown (mz BK142) hg (Kd.R_ne HO146.out BK142.out (by decide)))
      have n1_:=Az (blk_grown (mz BK143) hg (Kd.R_ne HO146.out BK143.out (by decide)))
      have n2_:=Az (hb)
      have n3_:=Az (ho)
      clear BK142 BK143 HB HO146
      have BK142:=n0_
      have BK143:=n1_
      have HB:=n2_
      have HO149:=n3_
      clear n0_ n1_ n2_ n3_ ho hb hg hat
      refine hK.out _ _ ⟨(blk_cell BK142.out 0).trans rfl,(blk_cell BK142.out 1).trans rfl,(blk_cell BK142.out 2).trans rfl⟩ (fun hHeld=>?_)
      clear hK K
      refine norm_ (a':=?_) ?_ ?_
      rotate_left
      ·show Act.put _ (some 6) _ = _
       simp only [Act.put,List.setIfInBounds_toArray,List.set_cons_zero,List.set_cons_succ,i64_w,i32_w]
       rfl
      refine one_ (i:=6) (N:=some 9) #[true,true,true,true,true,true,true,true,true,false,false,false] rfl rfl (one_of HT_.out (by kernel_rfl)) (by decide) (fun K hK=>?_)
      refine Kd.R_lit_step (Kd.int .i64) _ 3 ?hg (N:=9) ?hd (xs:=([]:List Int)) (inner:=[]) (ok:=fun _=>True) (okp:=fun _=>True) ?hr ?hp (fun _ hk=>hk) trivial (Below.refl _ _) (Nat.le_refl _) (by simp) ?_;(case hd=>rfl);(case hg=>rfl);(case hr=>first | (go_simp;done) | (go_simp;rfl));(case hp=>exact (Reps.none _ _))
      intro v151 w10 ho11 hb hg_ hnew_
      clear hg_ hnew_
      (first | rw [← Ny150.out] at ho11 | (simp only [Int.reduceToNat] at ho11;rw [← Ny150.out] at ho11))
      have n0_:=Az (Kd.R_elder' (mr HO149) (Kd.R_base ho11) hb)
      have n1_:=Az (Kd.R_lower (Kd.R_new' ho11 (Kd.R_lt (mr HO149))) (below_size (mb HB)))
      have n2_:=Az (blk_below (mz BK142) hb)
      have n3_:=Az (blk_below (mz BK143) hb)
      have n4_:=Az (below_step (mb HB) hb)
      clear HO149 BK142 BK143 HB
      have HO149:=n0_
      have HO152:=n1_
      have BK142:=n2_
      have BK143:=n3_
      have HB:=n4_
      clear n0_ n1_ n2_ n3_ n4_ hb ho11
      refine hK.out _ _ ⟨(blk_cell BK142.out 0).trans rfl,(blk_cell BK142.out 1).trans rfl,(blk_cell BK142.out 2).trans rfl⟩ (fun hHeld=>?_)
      clear hK K
      refine norm_ (a':=?_) ?_ ?_
      rotate_left
      ·show Act.put _ (some 9) _ = _
       simp only [Act.put,List.setIfInBounds_toArray,List.set_cons_zero,List.set_cons_succ,i64_w,i32_w]
       rfl
      exact norm_ (by simp only [putAll,Act.put,List.setIfInBounds_toArray,List.set_cons_zero,List.set_cons_succ]) (hCont (v145,v148,v151) _ ⟨hHeld,(by (with_reducible repeat (first | apply Kd.R_alloc | apply Kd.R_drewN | apply Kd.R_drew));exact Kd.R_mono HO149.out (fun _ hk=>hk.2)),(by (with_reducible repeat (first | apply Kd.R_alloc | apply Kd.R_drewN | apply Kd.R_drew));exact Kd.R_mono HO152.out (fun _ hk=>hk.2)),(mz BK142),(mz BK143),(mb HB)⟩)
     ·skip
      refine Kd.R_lit_step (Kd.int .i64) _ 3 ?hg (N:=9) ?hd (xs:=([]:List Int)) (inner:=[]) (ok:=fun _=>True) (okp:=fun _=>True) ?hr ?hp (fun _ hk=>hk) trivial (Below.refl _ _) (Nat.le_refl _) (by simp) ?_;(case hd=>rfl);(case hg=>rfl);(case hr=>first | (go_simp;done) | (go_simp;rfl));(case hp=>exact (Reps.none _ _))
      intro v151 w9 ho10 hb hg_ hnew_
      clear hg_ hnew_
      (first | rw [← Ny150.out] at ho10 | (simp only [Int.reduceToNat] at ho10;rw [← Ny150.out] at ho10))
      have n0_:=Az (Kd.R_elder' (mr HO146) (Kd.R_base ho10) hb)
      have n1_:=Az (Kd.R_lower (Kd.R_new' ho10 (Kd.R_lt (mr HO146))) (below_size (mb HB)))
      have n2_:=Az (blk_below (mz BK142) hb)
      have n3_:=Az (blk_below (mz BK143) hb)
      have n4_:=Az (below_step (mb HB) hb)
      clear HO146 BK142 BK143 HB
      have HO146:=n0_
      have HO152:=n1_
      have BK142:=n2_
      have BK143:=n3_
      have HB:=n4_
      clear n0_ n1_ n2_ n3_ n4_ hb ho10
      refine hK.out _ _ ⟨(blk_cell BK142.out 0).trans rfl,(blk_cell BK142.out 1).trans rfl,(blk_cell BK142.out 2).trans rfl⟩ (fun hHeld=>?_)
      clear hK K
      refine norm_ (a':=?_) ?_ ?_
      rotate_left
      ·show Act.put _ (some 9) _ = _
       simp only [Act.put,List.setIfInBounds_toArray,List.set_cons_zero,List.set_cons_succ,i64_w,i32_w]
       rfl
      refine one_ (i:=3) (N:=some 6) #[true,true,true,true,true,true,true,true,true,false,false,false] rfl rfl (one_of HT_.out (by kernel_rfl)) (by decide) (fun K hK=>?_)
      refine Kd.R_append_rows_step (Kd.int .i64) (w0:=w) w.heap.size (by rfl) (.tmp 3) (.tmp 5) 24 3 (.int .i64 0) 8 rfl Try.underlying24 info3 rfl (by decide) (by omega) v145 y144 l0_0 _ _ _ (fun k_=>some k_ ≠ (v151:Value).ownBlock) (fun _=>False) rfl rfl ?aO ?aR (fun _ _ h=>h) (fun _ h=>h.elim) ?aF ?aB ?aS ?aL ?_
      (case aR=>exact mc (Kd.C_below HR0_0.out HB.out))
      (case aB=>exact (mb HB))
      (case aF=>exact (fun k_ hk=>Kd.fresh' (Kd.R_lt (mr HO152)) k_ hk))
      (case aO=>exact (by (with_reducible repeat (first | apply Kd.R_alloc | apply Kd.R_drewN | apply Kd.R_drew));exact Kd.R_mono HO146.out (fun _ hk=>hk.2)))
      (case aS=>exact (below_size (mb HB)))
      (case aL=>have:=LMc2.out;omega)
      intro v148 w11 ho hb hg hat
      rw [← Ny147.out] at ho
      have n0_:=Az (blk_grown (mz BK142) hg (Kd.R_ne HO146.out BK142.out (by decide)))
      have n1_:=Az (blk_grown (mz BK143) hg (Kd.R_ne HO146.out BK143.out (by decide)))
      have n2_:=Az (Kd.R_after (ok:=(fun _=>True)) (mr HO152) hg hat)
      have n3_:=Az (hb)
      have n4_:=Az (ho)
      clear BK142 BK143 HO152 HB HO146
      have BK142:=n0_
      have BK143:=n1_
      have HO152:=n2_
      have HB:=n3_
      have HO149:=n4_
      clear n0_ n1_ n2_ n3_ n4_ ho hb hg hat
      refine hK.out _ _ ⟨(blk_cell BK142.out 0).trans rfl,(blk_cell BK142.out 1).trans rfl,(blk_cell BK142.out 2).trans rfl⟩ (fun hHeld=>?_)
      clear hK K
      refine norm_ (a':=?_) ?_ ?_
      rotate_left
      ·show Act.put _ (some 6) _ = _
       simp only [Act.put,List.setIfInBounds_toArray,List.set_cons_zero,List.set_cons_succ,i64_w,i32_w]
       rfl
      exact norm_ (by simp only [putAll,Act.put,List.setIfInBounds_toArray,List.set_cons_zero,List.set_cons_succ]) (hCont (v145,v148,v151) _ ⟨hHeld,(mr HO149),(by (with_reducible repeat (first | apply Kd.R_alloc | apply Kd.R_drewN | apply Kd.R_drew));exact Kd.R_mono HO152.out (fun _ hk=>hk.2)),(mz BK142),(mz BK143),(mb HB)⟩)
    ·skip
     refine Kd.R_lit_step (Kd.int .i64) _ 3 ?hg (N:=9) ?hd (xs:=([]:List Int)) (inner:=[]) (ok:=fun _=>True) (okp:=fun _=>True) ?hr ?hp (fun _ hk=>hk) trivial (Below.refl _ _) (Nat.le_refl _) (by simp) ?_;(case hd=>rfl);(case hg=>rfl);(case hr=>first | (go_simp;done) | (go_simp;rfl));(case hp=>exact (Reps.none _ _))
     intro v151 w7 ho8 hb hg_ hnew_
     clear hg_ hnew_
     (first | rw [← Ny150.out] at ho8 | (simp only [Int.reduceToNat] at ho8;rw [← Ny150.out] at ho8))
     have n0_:=Az (Kd.R_lower ho8 (below_size (mb HB)))
     have n1_:=Az (blk_below (mz BK142) hb)
     have n2_:=Az (blk_below (mz BK143) hb)
     have n3_:=Az (below_step (mb HB) hb)
     clear BK142 BK143 HB
     have HO152:=n0_
     have BK142:=n1_
     have BK143:=n2_
     have HB:=n3_
     clear n0_ n1_ n2_ n3_ hb ho8
     refine hK.out _ _ ⟨(blk_cell BK142.out 0).trans rfl,(blk_cell BK142.out 1).trans rfl,(blk_cell BK142.out 2).trans rfl⟩ (fun hHeld=>?_)
     clear hK K
     refine norm_ (a':=?_) ?_ ?_
     rotate_left
     ·show Act.put _ (some 9) _ = _
      simp only [Act.put,List.setIfInBounds_toArray,List.set_cons_zero,List.set_cons_succ,i64_w,i32_w]
      rfl
     refine one_ (i:=0) (N:=some 3) #[true,true,true,false,true,true,true,true,true,false,false,false] rfl rfl (one_of HT_.out (by kernel_rfl)) (by decide) (fun K hK=>?_)
     refine Kd.R_lit_step (Kd.int .i64) _ 3 ?hg (N:=3) ?hd (xs:=([]:List Int)) (inner:=[]) (ok:=fun _=>True) (okp:=fun _=>True) ?hr ?hp (fun _ hk=>hk) trivial (Below.refl _ _) (Nat.le_refl _) (by simp) ?_;(case hd=>rfl);(case hg=>rfl);(case hr=>first | (go_simp;done) | (go_simp;rfl));(case hp=>exact (Reps.none _ _))
     intro v145 w9 ho10 hb hg_ hnew_
     clear hg_ hnew_
     (first | rw [← Ny144.out] at ho10 | (simp only [Int.reduceToNat] at ho10;rw [← Ny144.out] at ho10))
     have n0_:=Az (Kd.R_elder' (mr HO152) (Kd.R_base ho10) hb)
     have n1_:=Az (Kd.R_lower (Kd.R_new' ho10 (Kd.R_lt (mr HO152))) (below_size (mb HB)))
     have n2_:=Az (blk_below (mz BK142) hb)
     have n3_:=Az (blk_below (mz BK143) hb)
     have n4_:=Az (below_step (mb HB) hb)
     clear HO152 BK142 BK143 HB
     have HO152:=n0_
     have HO146:=n1_
     have BK142:=n2_
     have BK143:=n3_
     have HB:=n4_
     clear n0_ n1_ n2_ n3_ n4_ hb ho10
     refine hK.out _ _ ⟨(blk_cell BK142.out 0).trans rfl,(blk_cell BK142.out 1).trans rfl,(blk_cell BK142.out 2).trans rfl⟩ (fun hHeld=>?_)
     clear hK K
     refine norm_ (a':=?_) ?_ ?_
     rotate_left
     ·show Act.put _ (some 3) _ = _
      simp only [Act.put,List.setIfInBounds_toArray,List.set_cons_zero,List.set_cons_succ,i64_w,i32_w]
      rfl
     refine one_ (i:=3) (N:=some 6) #[true,true,true,true,true,true,true,true,true,false,false,false] rfl rfl (one_of HT_.out (by kernel_rfl)) (by decide) (fun K hK=>?_)
     refine Kd.R_append_rows_step (Kd.int .i64) (w0:=w) w.heap.size (by rfl) (.tmp 3) (.tmp 5) 24 3 (.int .i64 0) 8 rfl Try.underlying24 info3 rfl (by decide) (by omega) v145 y144 l0_0 _ _ _ (fun k_=>some k_ ≠ (v151:Value).ownBlock) (fun _=>False) rfl rfl ?aO ?aR (fun _ _ h=>h) (fun _ h=>h.elim) ?aF ?aB ?aS ?aL ?_
     (case aR=>exact mc (Kd.C_below HR0_0.out HB.out))
     (case aB=>exact (mb HB))
     (case aF=>exact (fun k_ hk=>Kd.fresh' (Kd.R_lt (mr HO152)) k_ hk))
     (case aO=>exact (by (with_reducible repeat (first | apply Kd.R_alloc | apply Kd.R_drewN | apply Kd.R_drew));exact Kd.R_mono HO146.out (fun _ hk=>hk.2)))
     (case aS=>exact (below_size (mb HB)))
     (case aL=>have:=LMc2.out;omega)
     intro v148 w11 ho hb hg hat
     rw [← Ny147.out] at ho
     have n0_:=Az (blk_grown (mz BK142) hg (Kd.R_ne HO146.out BK142.out (by decide)))
     have n1_:=Az (blk_grown (mz BK143) hg (Kd.R_ne HO146.out BK143.out (by decide)))
     have n2_:=Az (Kd.R_after (ok:=(fun _=>True)) (mr HO152) hg hat)
     have n3_:=Az (hb)
     have n4_:=Az (ho)
     clear BK142 BK143 HO152 HB HO146
     have BK142:=n0_
     have BK143:=n1_
     have HO152:=n2_
     have HB:=n3_
     have HO149:=n4_
     clear n0_ n1_ n2_ n3_ n4_ ho hb hg hat
     refine hK.out _ _ ⟨(blk_cell BK142.out 0).trans rfl,(blk_cell BK142.out 1).trans rfl,(blk_cell BK142.out 2).trans rfl⟩ (fun hHeld=>?_)
     clear hK K
     refine norm_ (a':=?_) ?_ ?_
     rotate_left
     ·show Act.put _ (some 6) _ = _
      simp only [Act.put,List.setIfInBounds_toArray,List.set_cons_zero,List.set_cons_succ,i64_w,i32_w]
      rfl
     exact norm_ (by simp only [putAll,Act.put,List.setIfInBounds_toArray,List.set_cons_zero,List.set_cons_succ]) (hCont (v145,v148,v151) _ ⟨hHeld,(mr HO149),(by (with_reducible repeat (first | apply Kd.R_alloc | apply Kd.R_drewN | apply Kd.R_drew));exact Kd.R_mono HO152.out (fun _ hk=>hk.2)),(mz BK142),(mz BK143),(mb HB)⟩)
   rintro ⟨v145,v148,v151⟩ w12 ⟨hS_,h0_,h1_,h2_,h3_,h4_⟩
   have n0_:Aside0 (Kd.R (Kd.int .i64) 3 w12 w.heap.size (fun k_=>some k_ ≠ (v151:Value).ownBlock) v148 y147):=⟨h0_⟩
   have n1_:Aside0 (Kd.R (Kd.int .i64) 3 w12 w.heap.size (fun k_=>some k_ ≠ (v148:Value).ownBlock) v151 y150):=⟨h1_⟩
   have n2_:Aside0 (w12.heap[gb142]? = some (.cells #[.slice A0_0 l0_0.length c0_0,.int .i64 a0_1,.slice A0_2 l0_2.length c0_2] 26 (0,0))):=⟨h2_⟩
   have n3_:Aside0 (w12.heap[gb143]? = some (.cells #[.slice none 0 0,.int .i64 0,.slice none 0 0] 26 (0,0))):=⟨h3_⟩
   have n4_:Aside0 (Below w.heap.size w w12):=⟨h4_⟩
   clear BK142 BK143 HB h0_ h1_ h2_ h3_ h4_
   have HO149:=n0_
   have HO152:=n1_
   have BK142:=n2_
   have BK143:=n3_
   have HB:=n4_
   clear n0_ n1_ n2_ n3_ n4_
   have hHeld:w12.cell? ⟨gb142,0,none⟩ = some (.slice A0_0 l0_0.length c0_0) ∧ w12.cell? ⟨gb142,1,none⟩ = some (.int .i64 a0_1) ∧ w12.cell? ⟨gb142,2,none⟩ = some (.slice A0_2 l0_2.length c0_2):=hS_
   refine norm_ (a':=?_) ?_ ?_
   rotate_left
   ·simp only [putAll,Act.put,List.setIfInBounds_toArray,List.set_cons_zero,List.set_cons_succ]
    rfl
   refine one_ (i:=9) (N:=some 12) #[true,true,true,true,true,true,true,true,true,true,false,false] rfl rfl (one_of HT_.out (by kernel_rfl)) (by decide) (fun K hK=>?_)
   refine Kd.R_append_rows_step (Kd.int .i64) (w0:=w) w.heap.size (by rfl) (.tmp 9) (.tmp 11) 24 3 (.int .i64 0) 8 rfl Try.underlying24 info3 rfl (by decide) (by omega) v151 y150 l0_2 _ _ _ (fun k_=>some k_ ≠ (v148:Value).ownBlock) (fun _=>False) rfl rfl ?aO ?aR (fun _ _ h=>h) (fun _ h=>h.elim) ?aF ?aB ?aS ?aL ?_
   (case aR=>exact mc (Kd.C_below HR0_2.out HB.out))
   (case aB=>exact (mb HB))
   (case aF=>exact (fun k_ hk=>Kd.fresh' (Kd.R_lt (mr HO149)) k_ hk))
   (case aO=>exact (mr HO152))
   (case aS=>exact (below_size (mb HB)))
   (case aL=>have:=LMc3.out;omega)
   intro v154 w13 ho hb hg hat
   rw [← Ny153.out] at ho
   have n0_:=Az (blk_grown (mz BK142) hg (Kd.R_ne HO152.out BK142.out (by decide)))
   have n1_:=Az (blk_grown (mz BK143) hg (Kd.R_ne HO152.out BK143.out (by decide)))
   have n2_:=Az (Kd.R_after (ok:=(fun _=>True)) (by (with_reducible repeat (first | apply Kd.R_alloc | apply Kd.R_drewN | apply Kd.R_drew));exact Kd.R_mono HO149.out (fun _ hk=>⟨trivial,hk⟩)) hg hat)
   have n3_:=Az (hb)
   have n4_:=Az (ho)
   clear BK142 BK143 HO149 HB HO152
   have BK142:=n0_
   have BK143:=n1_
   have HO149:=n2_
   have HB:=n3_
   have HO155:=n4_
   clear n0_ n1_ n2_ n3_ n4_ ho hb hg hat
   obtain ⟨Ao14,co14,eo14⟩:=Kd.R_slice HO155.out
   (first | subst eo14 | (injection eo14 with f1_ f2_ f3_;have f4_:=f1_.symm;have f5_:=f3_.symm;clear f1_ f2_ f3_;subst f4_;subst f5_))
   obtain ⟨Ao15,co15,eo15⟩:=Kd.R_slice HO149.out
   (first | subst eo15 | (injection eo15 with f1_ f2_ f3_;have f4_:=f1_.symm;have f5_:=f3_.symm;clear f1_ f2_ f3_;subst f4_;subst f5_))
   refine hK.out _ _ ⟨(blk_cell BK142.out 0).trans rfl,(blk_cell BK142.out 1).trans rfl,(blk_cell BK142.out 2).trans rfl⟩ (fun hHeld=>?_)
   clear hK K
   refine norm_ (a':=?_) ?_ ?_
   rotate_left
   ·show Act.put _ (some 12) _ = _
    simp only [Act.put,List.setIfInBounds_toArray,List.set_cons_zero,List.set_cons_succ,i64_w,i32_w]
    rfl
   refine pure_ (i:=10) (N:=some 13) (v:=?_) (a':=?_) #[true,true,true,true,true,true,true,true,true,true,true,false] rfl rfl (any_of HT_.out (by kernel_rfl)) (fun _ _ _ h=>h) (Or.inl ⟨by rfl,?_⟩) ?_ ?_
   rotate_left
   ·intro w'
    go_simp
    with_reducible rfl
   rotate_left
   ·simp only [Act.put,List.setIfInBounds_toArray,List.set_cons_zero,List.set_cons_succ,i64_w,i32_w]
    rfl
   refine one_ (i:=11) (N:=none) #[true,true,true,true,true,true,true,true,true,true,true,true] rfl rfl (one_of HT_.out (by kernel_rfl)) (by decide) (fun K hK=>?_)
   have hs16:w13.cell? ⟨gb143,0,none⟩ = some (.slice none 0 0):=(blk_cell BK143.out 0).trans rfl
   have hfs16:=blk_frozen BK143.out 0
   have hns16_0:=NB142_143.out
   have hms16_0:=NB143_142.out
   have hs17:w13.cell? ⟨gb143,1,none⟩ = some (.int .i64 0):=(blk_cell BK143.out 1).trans rfl
   have hfs17:=blk_frozen BK143.out 1
   have hns17_0:=NB142_143.out
   have hms17_0:=NB143_142.out
   have hs18:w13.cell? ⟨gb143,2,none⟩ = some (.slice none 0 0):=(blk_cell BK143.out 2).trans rfl
   have hfs18:=blk_frozen BK143.out 2
   have hns18_0:=NB142_143.out
   have hms18_0:=NB143_142.out
   refine skip_ (w1:=?_) (by rfl) rfl ?_ ?_
   rotate_left
   ·go_simp
    rfl
   refine hK.out _ _ ⟨((cell_far (p:=⟨gb143,_,none⟩) NB142_143.out _).trans (((cell_far (p:=⟨gb143,_,none⟩) NB142_143.out _).trans (((cell_far (p:=⟨gb143,_,none⟩) NB142_143.out _).trans (hHeld.1)))))),((cell_far (p:=⟨gb143,_,none⟩) NB142_143.out _).trans (((cell_far (p:=⟨gb143,_,none⟩) NB142_143.out _).trans (((cell_far (p:=⟨gb143,_,none⟩) NB142_143.out _).trans (hHeld.2.1)))))),((cell_far (p:=⟨gb143,_,none⟩) NB142_143.out _).trans (((cell_far (p:=⟨gb143,_,none⟩) NB142_143.out _).trans (((cell_far (p:=⟨gb143,_,none⟩) NB142_143.out _).trans (hHeld.2.2))))))⟩ (fun hHeld=>?_)
   clear hK K
   refine done_ (done_of HT_.out (by kernel_rfl)) ?_
   try go_wp2
   refine bodyPost_ret (results_cell_row rfl _ _ gb143 26 #[.slice Ao15 y147.length co15,.int .i64 a0_1,.slice Ao14 y153.length co14] (0,0) _ rfl (by refine ms ?_;refine blk_put (cs:=#[.slice Ao15 y147.length co15,.int .i64 a0_1,.slice none 0 0]) ?_ 2 _ rfl;refine ms ?_;refine blk_put (cs:=#[.slice Ao15 y147.length co15,.int .i64 0,.slice none 0 0]) ?_ 1 _ rfl;refine ms ?_;refine blk_put (cs:=#[.slice none 0 0,.int .i64 0,.slice none 0 0]) ?_ 0 _ rfl;refine ms ?_;exact BK143.out) Try.underlying26 rfl (by kernel_rfl)) rfl ?_
   exact ⟨_,_,by first | rfl | (simp [errW_none,errW_some] <;> rfl) | (simp [*,errW_none,errW_some] <;> rfl),by (with_reducible repeat (first | apply Kd.R_alloc | apply Kd.R_drewN | apply Kd.R_drew));exact Kd.R_mono (Kd.R_far (Kd.R_far (Kd.R_far (Kd.R_types HO149.out BK143.out (by decide)) (fun _ hk=>hk.2) _) (fun _ hk=>hk.2) _) (fun _ hk=>hk.2) _) (fun _ hk=>hk.1.2),by (with_reducible repeat (first | apply Kd.R_alloc | apply Kd.R_drewN | apply Kd.R_drew));exact Kd.R_mono (Kd.R_far (Kd.R_far (Kd.R_far (Kd.R_types HO155.out BK143.out (by decide)) (fun _ hk=>hk.2) _) (fun _ hk=>hk.2) _) (fun _ hk=>hk.2) _) (fun _ hk=>hk.1),mb HB⟩
  ·rw [if_neg c3] at H
   exact absurd H (by simp)
 ·rw [if_neg c2] at H
  exact absurd H (by simp)
end Go.Proofs.Ythikbgjlcdkoaaa.MFnModels

