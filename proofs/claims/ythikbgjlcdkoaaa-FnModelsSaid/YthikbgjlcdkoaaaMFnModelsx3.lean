-- Written for this claim by a program of the session (wip/mk.py) over the kit's print.
import Derived.Test.YthikbgjlcdkoaaaMFnModelsx0
import Derived.Test.YthikbgjlcdkoaaaMFnModelsx1
import Derived.Test.YthikbgjlcdkoaaaMFnModelsx2
namespace Go.Proofs.Ythikbgjlcdkoaaa.MFnModels
open Go.RowKit Go.Proofs.YthikbgjlcdkoaaaW.PrintWords Go.Proofs.YthikbgjlcdkoaaaW.PrintLast Go.Proofs.YthikbgjlcdkoaaaW.PrintMore
attribute [local go_sem] max2_int min2_int max_two min_two max_three min_three max_four min_four
set_option linter.unusedVariables false
set_option linter.unusedSimpArgs false
mutual
def spec_DevDo.j0:Nat → Bool → Int → Int → Bool → List Int → Int → List Int → Option (List Int × Int × List Int × Int × Bool)
 | 0,_,_,_,_,_,_,_=>none
 | k + 1,x1,x2,x3,x33,x166000,x166001,x166002=>if x33 = true then (some (x166000,x166001,x166002,0,false)) else ((spec_l1In.f x2 0 12).bind fun t169=>(if t169 = true then (spec_DevDo.j1 k x1 x2 x3 x1 x166000 x166001 x166002) else (spec_DevDo.j1 k x1 x2 x3 false x166000 x166001 x166002)))
def spec_DevDo.j1:Nat → Bool → Int → Int → Bool → List Int → Int → List Int → Option (List Int × Int × List Int × Int × Bool)
 | 0,_,_,_,_,_,_,_=>none
 | k + 1,x1,x2,x3,x35,x166000,x166001,x166002=>if x35 = true then (if 0 ≤ (wrap64 (Int.tdiv x2 4)) then (if (wrap64 (Int.tdiv x2 4)) < (x166000.length:Int) then (some ((x166000.set ((wrap64 (Int.tdiv x2 4)):Int).toNat x3),x166001,x166002,x3,true)) else (none)) else (none)) else ((spec_l1In.f x2 0 12).bind fun t171=>(if t171 = true then (if 0 ≤ (wrap64 (Int.tdiv x2 4)) then (if (wrap64 (Int.tdiv x2 4)) < (x166000.length:Int) then (some (x166000,x166001,x166002,rd x166000 (wrap64 (Int.tdiv x2 4)),true)) else (none)) else (none)) else (if x2 = 16 then (spec_DevDo.j2 k x1 x2 x3 x1 x166000 x166001 x166002) else (spec_DevDo.j2 k x1 x2 x3 false x166000 x166001 x166002))))
def spec_DevDo.j2:Nat → Bool → Int → Int → Bool → List Int → Int → List Int → Option (List Int × Int × List Int × Int × Bool)
 | 0,_,_,_,_,_,_,_=>none
 | k + 1,x1,x2,x3,x59,x166000,x166001,x166002=>if x59 = true then (some (x166000,x3,x166002,x3,true)) else (if x2 = 16 then ((spec_LimitOf.f 2).bind fun t173=>(if t173 = 0 then (none) else (some (x166000,Int.tmod (wrap64 (x166001 + 1)) t173,x166002,x166001,true)))) else (if x2 = 20 then (if x1 = true then (spec_DevDo.j3 k x1 x2 x3 (decide ((x166002.length:Int) < 4)) x166000 x166001 x166002) else (spec_DevDo.j3 k x1 x2 x3 false x166000 x166001 x166002)) else (spec_DevDo.j3 k x1 x2 x3 false x166000 x166001 x166002)))
def spec_DevDo.j3:Nat → Bool → Int → Int → Bool → List Int → Int → List Int → Option (List Int × Int × List Int × Int × Bool)
 | 0,_,_,_,_,_,_,_=>none
 | k + 1,x1,x2,x3,x81,x166000,x166001,x166002=>if x81 = true then (if x166002.length < 17592186044416 then (some (x166000,x166001,(x166002 ++ [x3]),x3,true)) else (none)) else (if x2 = 20 then (if x1 = true then (some (x166000,x166001,x166002,0,false)) else (if (x166002.length:Int) > 0 then (if 0 < (x166002.length:Int) then (if 1 ≤ (x166002.length:Int) then (some (x166000,x166001,(x166002.drop (1:Int).toNat),rd x166002 0,true)) else (none)) else (none)) else (some (x166000,x166001,x166002,0,false)))) else (some (x166000,x166001,x166002,0,false)))
end
def spec_DevDo.f (k:Nat) (l0_0:List Int) (a0_1:Int) (l0_2:List Int) (a1:Bool) (a2:Int) (a3:Int):Option (List Int × Int × List Int × Int × Bool):=(spec_l8Copy.f l0_0 a0_1 l0_2).bind fun bt158=>((spec_DevOk.f k l0_0 a0_1 l0_2).bind fun t166=>(if t166 = true then (if (Int.tmod a2 4) = 0 then (if a1 = true then ((spec_LimitOf.f 2).bind fun t167=>((spec_l1In.f a3 0 (wrap64 (t167 - 1))).bind fun t168=>(spec_DevDo.j0 k a1 a2 a3 (!t168) bt158.1 bt158.2.1 bt158.2.2))) else (spec_DevDo.j0 k a1 a2 a3 false bt158.1 bt158.2.1 bt158.2.2)) else (spec_DevDo.j0 k a1 a2 a3 true bt158.1 bt158.2.1 bt158.2.2)) else (spec_DevDo.j0 k a1 a2 a3 true bt158.1 bt158.2.1 bt158.2.2)))
def spec_DevDo.T8:Bool × List (List Nat × List Nat):=(true,[([],[]),([],[]),([1],[1]),([],[]),([3],[3]),([2,4],[2,4]),([5],[5]),([0,0],[0]),([6,7,0,1,2,3,4,5,6,7],[6]),([8,0,1,2,3,4,5,6,7,8],[])])
def spec_DevDo.B8:List Nat:=[0,0,2,0,8,30,62,1,255,511]
theorem spec_DevDo.tab8:rtab .any (opsOf Try.f42 8) = spec_DevDo.T8:=by kernel_rfl
theorem spec_DevDo.bits8:waitsOk spec_DevDo.T8.2 spec_DevDo.B8 = true:=by kernel_rfl
set_option maxHeartbeats 8000000 in
set_option maxRecDepth 100000 in
theorem spec_DevDo.calls (k:Nat) (A0_0:Option Addr) (c0_0:Nat) (l0_0:List Int) (a0_1:Int) (A0_2:Option Addr) (c0_2:Nat) (l0_2:List Int) (a1:Bool) (a2:Int) (a3:Int) (r1:List Int) (r2:Int) (r3:List Int) (r4:Int) (r5:Bool) (w:World) (hr0_0:Kd.C (Kd.int .i64) w A0_0 l0_0.length l0_0) (hc0_0:l0_0.length ≤ c0_0) (hr0_2:Kd.C (Kd.int .i64) w A0_2 l0_2.length l0_2) (hc0_2:l0_2.length ≤ c0_2) (h:spec_DevDo.f k l0_0 a0_1 l0_2 a1 a2 a3 = some (r1,r2,r3,r4,r5)) :
  Calls Try.prog 42 #[.agg #[.slice A0_0 l0_0.length c0_0,.int .i64 a0_1,.slice A0_2 l0_2.length c0_2],.bool a1,.int .i64 a2,.int .i64 a3] w fun e w'=>∃ v0_ v2_:Value,e = .returned (.tuple #[.agg #[v0_,.int .i64 r2,v2_],.int .i64 r4,.bool r5]) ∧ Kd.R (Kd.int .i64) 3 w' w.heap.size (fun k_=>some k_ ≠ (v2_:Value).ownBlock) v0_ r1 ∧ Kd.Q (Kd.int .i64) 3 w' w.heap.size (fun k_=>some k_ ≠ (v0_:Value).ownBlock) v2_ r3 ∧ Below w.heap.size w w':=by
 have hu26:=Try.underlying26
 have HR0_0:=Aside0.mk hr0_0
 have HC0_0:=Aside0.mk hc0_0
 clear hr0_0 hc0_0
 have HR0_2:=Aside0.mk hr0_2
 have HC0_2:=Aside0.mk hc0_2
 clear hr0_2 hc0_2
 have HB:=Az (Below.refl w.heap.size w)
 have H:((spec_l8Copy.f l0_0 a0_1 l0_2).bind fun bt158=>((spec_DevOk.f k l0_0 a0_1 l0_2).bind fun t166=>(if t166 = true then (if (Int.tmod a2 4) = 0 then (if a1 = true then ((spec_LimitOf.f 2).bind fun t167=>((spec_l1In.f a3 0 (wrap64 (t167 - 1))).bind fun t168=>(spec_DevDo.j0 k a1 a2 a3 (!t168) bt158.1 bt158.2.1 bt158.2.2))) else (spec_DevDo.j0 k a1 a2 a3 false bt158.1 bt158.2.1 bt158.2.2)) else (spec_DevDo.j0 k a1 a2 a3 true bt158.1 bt158.2.1 bt158.2.2)) else (spec_DevDo.j0 k a1 a2 a3 true bt158.1 bt158.2.1 bt158.2.2)))) = some (r1,r2,r3,r4,r5):=h
 clear h
 replace H:=Option.bind_eq_some_iff.mp H
 obtain ⟨⟨t158,t161,t162⟩,A50,H⟩:=H
 replace H:((spec_DevOk.f k l0_0 a0_1 l0_2).bind fun t166=>(if t166 = true then (if (Int.tmod a2 4) = 0 then (if a1 = true then ((spec_LimitOf.f 2).bind fun t167=>((spec_l1In.f a3 0 (wrap64 (t167 - 1))).bind fun t168=>(spec_DevDo.j0 k a1 a2 a3 (!t168) t158 t161 t162))) else (spec_DevDo.j0 k a1 a2 a3 false t158 t161 t162)) else (spec_DevDo.j0 k a1 a2 a3 true t158 t161 t162)) else (spec_DevDo.j0 k a1 a2 a3 true t158 t161 t162))) = some (r1,r2,r3,r4,r5):=H
 have A5:=Aside0.mk A50
 clear A50
 have HC6:=Aside0.mk H
 clear H
 go_enter Try.func42,Try.ntmps42
 go_upto_region 2 with (first | ((with_reducible refine gate_dst (N:=4) rfl ?_);(try (refine gate_guard (by rfl) ?_;dsimp only));refine box_event ?hg (N:=4) ?hd (cs:=#[.slice A0_0 l0_0.length c0_0,.int .i64 a0_1,.slice A0_2 l0_2.length c0_2]) (t:=26) ?hr ?_;(case hd=>rfl);(case hg=>rfl);(case hr=>first | (go_simp;done) | (go_simp;rfl));intro gb156 hg w7 hbox hb;have n0_:=Az (below_step (mb HB) hb);have n1_:=Az (hbox);have n2_:=Az ((by rw [hg];exact (below_size (mb HB)):w.heap.size ≤ gb156));have n3_:=Az ((by rw [hg];exact (below_size (mb HB)):w.heap.size ≤ gb156));clear HB;have HB:=n0_;have BK156:=n1_;have GW156:=n2_;have GE156:=n3_;clear n0_ n1_ n2_ n3_;clear hb hbox hg) | ((with_reducible refine gate_dst (N:=8) rfl ?_);(try (refine gate_guard (by rfl) ?_;dsimp only));refine box_event ?hg (N:=8) ?hd (cs:=#[.slice none 0 0,.int .i64 0,.slice none 0 0]) (t:=26) ?hr ?_;(case hd=>rfl);(case hg=>rfl);(case hr=>first | (go_simp;done) | (go_simp;rfl));intro gb157 hg w8 hbox hb;have n0_:=Az (blk_below (mz BK156) hb);have n1_:=Az (below_step (mb HB) hb);have n2_:=Az (hbox);have n3_:=Az ((by rw [hg];exact (below_size (mb HB)):w.heap.size ≤ gb157));have n4_:=Az ((by rw [hg];exact (below_size (mb HB)):w.heap.size ≤ gb157));have n5_:=Az ((by rw [hg];exact Nat.ne_of_lt (blk_lt (mz BK156)):gb156 ≠ gb157));have n6_:=Az ((by rw [hg];exact Nat.ne_of_gt (blk_lt (mz BK156)):gb157 ≠ gb156));clear BK156 HB;have BK156:=n0_;have HB:=n1_;have BK157:=n2_;have GW157:=n3_;have GE157:=n4_;have NB156_157:=n5_;have NB157_156:=n6_;clear n0_ n1_ n2_ n3_ n4_ n5_ n6_ hb hbox hg;have hnb9:=NB156_157.out;have hnc9:=NB157_156.out;have hcz10_0:=bz0 BK156;have hcz10_1:=bz1 BK156;have hcz10_2:=bz2 BK156;have hfz10_0:=bf BK156 0;have hfz10_1:=bf BK156 1;have hfz10_2:=bf BK156 2) | ((with_reducible refine gate_callee (f:=78) rfl ?_);refine goesL_ (some 15) rfl rfl Try.func78 (by kernel_rfl) rfl #[.agg #[.slice A0_0 l0_0.length c0_0,.int .i64 a0_1,.slice A0_2 l0_2.length c0_2]] rfl ml ?_;(with_reducible refine (spec_l8Copy.calls _ _ l0_0 a0_1 _ _ l0_2 t158 t161 t162 _ ?side1 ?side2 ?side3 ?side4 A5.out).mono ?_);(case side1=>exact mc (Kd.C_below HR0_0.out HB.out));(case side2=>exact HC0_0.out);(case side3=>exact mc (Kd.C_below HR0_2.out HB.out));(case side4=>exact HC0_2.out);rintro e w11 ⟨v159,v163,rfl,ho0,ho1,hb⟩;refine ⟨_,rfl,?_⟩;have n0_:=Az (Kd.R_lower ho0 (below_size (mb HB)));have n1_:=Az (Kd.R_lower ho1 (below_size (mb HB)));have n2_:=Az (blk_below (mz BK156) hb);have n3_:=Az (blk_below (mz BK157) hb);have n4_:=Az (below_step (mb HB) hb);clear BK156 BK157 HB;have HO160:=n0_;have HO164:=n1_;have BK156:=n2_;have BK157:=n3_;have HB:=n4_;clear n0_ n1_ n2_ n3_ n4_;(try clear hb);(try clear hb2);(try clear hk);(try clear hi);(try clear ho0);(try clear ho1)) | ((with_reducible refine gate_dst (N:=11) rfl ?_);(try (refine gate_guard (by rfl) ?_;dsimp only));refine box_event ?hg (N:=11) ?hd (cs:=#[.slice none 0 0,.int .i64 0,.slice none 0 0]) (t:=26) ?hr ?_;(case hd=>rfl);(case hg=>rfl);(case hr=>first | (go_simp;done) | (go_simp;rfl));intro gb165 hg w12 hbox hb;have n0_:=Az (Kd.R_below (mr HO160) hb);have n1_:=Az (Kd.R_below (mr HO164) hb);have n2_:=Az (blk_below (mz BK156) hb);have n3_:=Az (blk_below (mz BK157) hb);have n4_:=Az (below_step (mb HB) hb);have n5_:=Az (hbox);have n6_:=Az ((by rw [hg];exact (below_size (mb HB)):w.heap.size ≤ gb165));have n7_:=Az ((by rw [hg];exact (below_size (mb HB)):w.heap.size ≤ gb165));have n8_:=Az ((by rw [hg];exact Nat.ne_of_lt (blk_lt (mz BK156)):gb156 ≠ gb165));have n9_:=Az ((by rw [hg];exact Nat.ne_of_gt (blk_lt (mz BK156)):gb165 ≠ gb156));have n10_:=Az ((by rw [hg];exact Nat.ne_of_lt (blk_lt (mz BK157)):gb157 ≠ gb165));have n11_:=Az ((by rw [hg];exact Nat.ne_of_gt (blk_lt (mz BK157)):gb165 ≠ gb157));clear HO160 HO164 BK156 BK157 HB;have HO160:=n0_;have HO164:=n1_;have BK156:=n2_;have BK157:=n3_;have HB:=n4_;have BK165:=n5_;have GW165:=n6_;have GE165:=n7_;have NB156_165:=n8_;have NB165_156:=n9_;have NB157_165:=n10_;have NB165_157:=n11_;clear n0_ n1_ n2_ n3_ n4_ n5_ n6_ n7_ n8_ n9_ n10_ n11_ hb hbox hg;obtain ⟨Ao13,co13,eo13⟩:=Kd.R_slice HO160.out;subst eo13;have hnb14:=NB165_156.out;have hnc14:=NB156_165.out;have hnb15:=NB165_157.out;have hnc15:=NB157_165.out;have hcz16_0:=bz0 BK165;have hcz16_1:=bz1 BK165;have hcz16_2:=bz2 BK165;have hfz16_0:=bf BK165 0;have hfz16_1:=bf BK165 1;have hfz16_2:=bf BK165 2;obtain ⟨Ao17,co17,eo17⟩:=Kd.R_slice HO164.out;subst eo17))
 (try simp only [Act.put,List.setIfInBounds_toArray,List.set_cons_zero,List.set_cons_succ])
 go_cut [33] (fun v33 wc=>∃ (kq:Nat) (x33_5:Bool),v33 = .bool x33_5 ∧ Aside0 (spec_DevDo.j0 kq a1 a2 a3 x33_5 t158 t161 t162 = some (r1,r2,r3,r4,r5)) ∧ Aside0 (kq ≤ k) ∧ Aside0 (Kd.R (Kd.int .i64) 3 wc w.heap.size (fun k_=>some k_ ≠ ((.slice Ao17 t162.length co17):Value).ownBlock) (.slice Ao13 t158.length co13) t158) ∧ Aside0 (Kd.Q (Kd.int .i64) 3 wc w.heap.size (fun k_=>some k_ ≠ ((.slice Ao13 t158.length co13):Value).ownBlock) (.slice Ao17 t162.length co17) t162) ∧ Aside0 (wc.heap[gb156]? = some (.cells #[(.slice A0_0 l0_0.length c0_0),.int .i64 a0_1,(.slice A0_2 l0_2.length c0_2)] 26 (0,0))) ∧ Aside0 (wc.heap[gb157]? = some (.cells #[(.slice none 0 0),.int .i64 0,(.slice none 0 0)] 26 (0,0))) ∧ Aside0 (wc.heap[gb165]? = some (.cells #[(.slice Ao13 t158.length co13),.int .i64 t161,(.slice Ao17 t162.length co17)] 26 (0,0))) ∧ Aside0 (Below w.heap.size w wc))
 case first =>
  have H:=HC6.out
  clear HC6
  replace H:=Option.bind_eq_some_iff.mp H
  obtain ⟨t166,A180,H⟩:=H
  replace H:(if t166 = true then (if (Int.tmod a2 4) = 0 then (if a1 = true then ((spec_LimitOf.f 2).bind fun t167=>((spec_l1In.f a3 0 (wrap64 (t167 - 1))).bind fun t168=>(spec_DevDo.j0 k a1 a2 a3 (!t168) t158 t161 t162))) else (spec_DevDo.j0 k a1 a2 a3 false t158 t161 t162)) else (spec_DevDo.j0 k a1 a2 a3 true t158 t161 t162)) else (spec_DevDo.j0 k a1 a2 a3 true t158 t161 t162)) = some (r1,r2,r3,r4,r5):=H
  have A18:=Aside0.mk A180
  clear A180
  by_cases c19:t166 = true
  ·subst c19
   have H1:(if (Int.tmod a2 4) = 0 then (if a1 = true then ((spec_LimitOf.f 2).bind fun t167=>((spec_l1In.f a3 0 (wrap64 (t167 - 1))).bind fun t168=>(spec_DevDo.j0 k a1 a2 a3 (!t168) t158 t161 t162))) else (spec_DevDo.j0 k a1 a2 a3 false t158 t161 t162)) else (spec_DevDo.j0 k a1 a2 a3 true t158 t161 t162)) = some (r1,r2,r3,r4,r5):=by rw [if_pos rfl] at H;exact H
   clear H
   have H:=H1
   clear H1
   by_cases c20:(Int.tmod a2 4) = 0
   ·rw [if_pos c20] at H
    have c20b0:((Int.tmod a2 4) == 0) = true:=beq_iff_eq.mpr c20
    have c20b1:((Int.tmod a2 4) != 0) = false:=bne_eq_false_iff_eq.mpr c20
    clear c20
    (first | rw [c20b0] | (simp only [i64_w,i32_w];rw [c20b0]) | skip)
    by_cases c21:a1 = true
    ·subst c21
     have H1:((spec_LimitOf.f 2).bind fun t167=>((spec_l1In.f a3 0 (wrap64 (t167 - 1))).bind fun t168=>(spec_DevDo.j0 k true a2 a3 (!t168) t158 t161 t162))) = some (r1,r2,r3,r4,r5):=by rw [if_pos rfl] at H;exact H
     clear H
     have H:=H1
     clear H1
     replace H:=Option.bind_eq_some_iff.mp H
     obtain ⟨t167,A220,H⟩:=H
     replace H:((spec_l1In.f a3 0 (wrap64 (t167 - 1))).bind fun t168=>(spec_DevDo.j0 k true a2 a3 (!t168) t158 t161 t162)) = some (r1,r2,r3,r4,r5):=H
     have A22:=Aside0.mk A220
     clear A220
     replace H:=Option.bind_eq_some_iff.mp H
     obtain ⟨t168,A230,H⟩:=H
     replace H:(spec_DevDo.j0 k true a2 a3 (!t168) t158 t161 t162) = some (r1,r2,r3,r4,r5):=H
     have A23:=Aside0.mk A230
     clear A230
     have H':=Aside0.mk H
     clear H
     have hnb24:=NB156_157.out
     have hnc24:=NB157_156.out
     have hnb25:=NB156_165.out
     have hnc25:=NB165_156.out
     have hcz26_0:=bz0 BK156
     have hcz26_1:=bz1 BK156
     have hcz26_2:=bz2 BK156
     have hfz26_0:=bf BK156 0
     have hfz26_1:=bf BK156 1
     have hfz26_2:=bf BK156 2
     go_wp2_with (first | ((with_reducible refine gate_callee (f:=36) rfl ?_);refine goesL_ (some 17) rfl rfl Try.func36 (by kernel_rfl) rfl #[.agg #[.slice A0_0 l0_0.length c0_0,.int .i64 a0_1,.slice A0_2 l0_2.length c0_2]] rfl ml ?_;(with_reducible refine (spec_DevOk.calls k _ _ l0_0 a0_1 _ _ l0_2 true _ ?side1 ?side2 ?side3 ?side4 A18.out).mono ?_);(case side1=>exact Kd.C_below HR0_0.out (mb HB));(case side2=>exact HC0_0.out);(case side3=>exact Kd.C_below HR0_2.out (mb HB));(case side4=>exact HC0_2.out);rintro e w27 ⟨rfl,hb⟩;refine ⟨_,rfl,?_⟩;have n0_:=Az (Kd.R_below (by (with_reducible repeat (first | apply Kd.R_alloc | apply Kd.R_drewN | apply Kd.R_drew));exact (Kd.R_mono (Kd.R_far (Kd.R_far (Kd.R_far (Kd.R_types HO160.out BK165.out (by decide)) (fun _ hk=>hk.2) _) (fun _ hk=>hk.2) _) (fun _ hk=>hk.2) _) (fun _ h_=>h_.1))) hb);have n1_:=Az (Kd.R_below (by (with_reducible repeat (first | apply Kd.R_alloc | apply Kd.R_drewN | apply Kd.R_drew));exact (Kd.R_mono (Kd.R_far (Kd.R_far (Kd.R_far (Kd.R_types HO164.out BK165.out (by decide)) (fun _ hk=>hk.2) _) (fun _ hk=>hk.2) _) (fun _ hk=>hk.2) _) (fun _ h_=>h_.1))) hb);have n2_:=Az (blk_below (g:=gb156) (o:=.cells #[.slice A0_0 l0_0.length c0_0,.int .i64 a0_1,.slice A0_2 l0_2.length c0_2] 26 (0,0)) (by refine ms ?_;refine blk_far ?_ NB156_165.out _;refine ms ?_;refine blk_far ?_ NB156_165.out _;refine ms ?_;refine blk_far ?_ NB156_165.out _;refine ms ?_;exact BK156.out) hb);have n3_:=Az (blk_below (g:=gb157) (o:=.cells #[.slice none 0 0,.int .i64 0,.slice none 0 0] 26 (0,0)) (by refine ms ?_;refine blk_far ?_ NB157_165.out _;refine ms ?_;refine blk_far ?_ NB157_165.out _;refine ms ?_;refine blk_far ?_ NB157_165.out _;refine ms ?_;exact BK157.out) hb);have n4_:=Az (blk_below (g:=gb165) (o:=.cells #[.slice Ao13 t158.length co13,.int .i64 t161,.slice Ao17 t162.length co17] 26 (0,0)) (by refine ms ?_;refine blk_put (cs:=#[.slice Ao13 t158.length co13,.int .i64 t161,.slice none 0 0]) ?_ 2 _ rfl;refine ms ?_;refine blk_put (cs:=#[.slice Ao13 t158.length co13,.int .i64 0,.slice none 0 0]) ?_ 1 _ rfl;refine ms ?_;refine blk_put (cs:=#[.slice none 0 0,.int .i64 0,.slice none 0 0]) ?_ 0 _ rfl;refine ms ?_;exact BK165.out) hb);have n5_:=Az (below_step (mb HB) hb);clear HO160 HO164 BK156 BK157 BK165 HB;have HO160:=n0_;have HO164:=n1_;have BK156:=n2_;have BK157:=n3_;have BK165:=n4_;have HB:=n5_;clear n0_ n1_ n2_ n3_ n4_ n5_;(try clear hb);(try clear hb2);(try clear hk);(try clear hi)) | (go_at_call 58;(with_reducible refine (spec_LimitOf.calls 2 t167 _ A22.out).mono ?_);rintro e w' ⟨rfl,⟨nd,rfl⟩⟩) | (go_at_call 57;(with_reducible refine (spec_l1In.calls a3 0 (wrap64 (t167 - 1)) t168 _ A23.out).mono ?_);rintro e w' ⟨rfl,⟨nd,rfl⟩⟩))
     go_meet
     case rel=>exact ⟨_,(!t168),(by first | rfl | (simp;done) | (simp [*];done)),H',⟨by first | omega | exact Nat.le_refl _⟩,⟨mr HO160⟩,⟨Kd.Q_of_R (mr HO164)⟩,⟨mz BK156⟩,⟨mz BK157⟩,⟨mz BK165⟩,⟨mb HB⟩⟩
    ·replace c21:=Bool.eq_false_iff.mpr c21
     subst c21
     have H1:(spec_DevDo.j0 k false a2 a3 false t158 t161 t162) = some (r1,r2,r3,r4,r5):=by rw [if_neg (show ¬ (false = true) by decide)] at H;exact H
     clear H
     have H:=H1
     clear H1
     have H':=Aside0.mk H
     clear H
     have hnb28:=NB156_157.out
     have hnc28:=NB157_156.out
     have hnb29:=NB156_165.out
     have hnc29:=NB165_156.out
     have hcz30_0:=bz0 BK156
     have hcz30_1:=bz1 BK156
     have hcz30_2:=bz2 BK156
     have hfz30_0:=bf BK156 0
     have hfz30_1:=bf BK156 1
     have hfz30_2:=bf BK156 2
     go_wp2_with (first | ((with_reducible refine gate_callee (f:=36) rfl ?_);refine goesL_ (some 17) rfl rfl Try.func36 (by kernel_rfl) rfl #[.agg #[.slice A0_0 l0_0.length c0_0,.int .i64 a0_1,.slice A0_2 l0_2.length c0_2]] rfl ml ?_;(with_reducible refine (spec_DevOk.calls k _ _ l0_0 a0_1 _ _ l0_2 true _ ?side1 ?side2 ?side3 ?side4 A18.out).mono ?_);(case side1=>exact Kd.C_below HR0_0.out (mb HB));(case side2=>exact HC0_0.out);(case side3=>exact Kd.C_below HR0_2.out (mb HB));(case side4=>exact HC0_2.out);rintro e w31 ⟨rfl,hb⟩;refine ⟨_,rfl,?_⟩;have n0_:=Az (Kd.R_below (by (with_reducible repeat (first | apply Kd.R_alloc | apply Kd.R_drewN | apply Kd.R_drew));exact (Kd.R_mono (Kd.R_far (Kd.R_far (Kd.R_far (Kd.R_types HO160.out BK165.out (by decide)) (fun _ hk=>hk.2) _) (fun _ hk=>hk.2) _) (fun _ hk=>hk.2) _) (fun _ h_=>h_.1))) hb);have n1_:=Az (Kd.R_below (by (with_reducible repeat (first | apply Kd.R_alloc | apply Kd.R_drewN | apply Kd.R_drew));exact (Kd.R_mono (Kd.R_far (Kd.R_far (Kd.R_far (Kd.R_types HO164.out BK165.out (by decide)) (fun _ hk=>hk.2) _) (fun _ hk=>hk.2) _) (fun _ hk=>hk.2) _) (fun _ h_=>h_.1))) hb);have n2_:=Az (blk_below (g:=gb156) (o:=.cells #[.slice A0_0 l0_0.length c0_0,.int .i64 a0_1,.slice A0_2 l0_2.length c0_2] 26 (0,0)) (by refine ms ?_;refine blk_far ?_ NB156_165.out _;refine ms ?_;refine blk_far ?_ NB156_165.out _;refine ms ?_;refine blk_far ?_ NB156_165.out _;refine ms ?_;exact BK156.out) hb);have n3_:=Az (blk_below (g:=gb157) (o:=.cells #[.slice none 0 0,.int .i64 0,.slice none 0 0] 26 (0,0)) (by refine ms ?_;refine blk_far ?_ NB157_165.out _;refine ms ?_;refine blk_far ?_ NB157_165.out _;refine ms ?_;refine blk_far ?_ NB157_165.out _;refine ms ?_;exact BK157.out) hb);have n4_:=Az (blk_below (g:=gb165) (o:=.cells #[.slice Ao13 t158.length co13,.int .i64 t161,.slice Ao17 t162.length co17] 26 (0,0)) (by refine ms ?_;refine blk_put (cs:=#[.slice Ao13 t158.length co13,.int .i64 t161,.slice none 0 0]) ?_ 2 _ rfl;refine ms ?_;refine blk_put (cs:=#[.slice Ao13 t158.length co13,.int .i64 0,.slice none 0 0]) ?_ 1 _ rfl;refine ms ?_;refine blk_put (cs:=#[.slice none 0 0,.int .i64 0,.slice none 0 0]) ?_ 0 _ rfl;refine ms ?_;exact BK165.out) hb);have n5_:=Az (below_step (mb HB) hb);clear HO160 HO164 BK156 BK157 BK165 HB;have HO160:=n0_;have HO164:=n1_;have BK156:=n2_;have BK157:=n3_;have BK165:=n4_;have HB:=n5_;clear n0_ n1_ n2_ n3_ n4_ n5_;(try clear hb);(try clear hb2);(try clear hk);(try clear hi)))
     go_meet
     case rel=>exact ⟨_,(false),(by first | rfl | (simp;done) | (simp [*];done)),H',⟨by first | omega | exact Nat.le_refl _⟩,⟨mr HO160⟩,⟨Kd.Q_of_R (mr HO164)⟩,⟨mz BK156⟩,⟨mz BK157⟩,⟨mz BK165⟩,⟨mb HB⟩⟩
   ·rw [if_neg c20] at H
    have c20b0:((Int.tmod a2 4) == 0) = false:=beq_eq_false_iff_ne.mpr c20
    have c20b1:((Int.tmod a2 4) != 0) = true:=bne_iff_ne.mpr c20
    (first | rw [c20b0] | (simp only [i64_w,i32_w];rw [c20b0]) | skip)
    have H':=Aside0.mk H
    clear H
    have hnb32:=NB156_157.out
    have hnc32:=NB157_156.out
    have hnb33:=NB156_165.out
    have hnc33:=NB165_156.out
    have hcz34_0:=bz0 BK156
    have hcz34_1:=bz1 BK156
    have hcz34_2:=bz2 BK156
    have hfz34_0:=bf BK156 0
    have hfz34_1:=bf BK156 1
    have hfz34_2:=bf BK156 2
    go_wp2_with (first | ((with_reducible refine gate_callee (f:=36) rfl ?_);refine goesL_ (some 17) rfl rfl Try.func36 (by kernel_rfl) rfl #[.agg #[.slice A0_0 l0_0.length c0_0,.int .i64 a0_1,.slice A0_2 l0_2.length c0_2]] rfl ml ?_;(with_reducible refine (spec_DevOk.calls k _ _ l0_0 a0_1 _ _ l0_2 true _ ?side1 ?side2 ?side3 ?side4 A18.out).mono ?_);(case side1=>exact Kd.C_below HR0_0.out (mb HB));(case side2=>exact HC0_0.out);(case side3=>exact Kd.C_below HR0_2.out (mb HB));(case side4=>exact HC0_2.out);rintro e w35 ⟨rfl,hb⟩;refine ⟨_,rfl,?_⟩;have n0_:=Az (Kd.R_below (by (with_reducible repeat (first | apply Kd.R_alloc | apply Kd.R_drewN | apply Kd.R_drew));exact (Kd.R_mono (Kd.R_far (Kd.R_far (Kd.R_far (Kd.R_types HO160.out BK165.out (by decide)) (fun _ hk=>hk.2) _) (fun _ hk=>hk.2) _) (fun _ hk=>hk.2) _) (fun _ h_=>h_.1))) hb);have n1_:=Az (Kd.R_below (by (with_reducible repeat (first | apply Kd.R_alloc | apply Kd.R_drewN | apply Kd.R_drew));exact (Kd.R_mono (Kd.R_far (Kd.R_far (Kd.R_far (Kd.R_types HO164.out BK165.out (by decide)) (fun _ hk=>hk.2) _) (fun _ hk=>hk.2) _) (fun _ hk=>hk.2) _) (fun _ h_=>h_.1))) hb);have n2_:=Az (blk_below (g:=gb156) (o:=.cells #[.slice A0_0 l0_0.length c0_0,.int .i64 a0_1,.slice A0_2 l0_2.length c0_2] 26 (0,0)) (by refine ms ?_;refine blk_far ?_ NB156_165.out _;refine ms ?_;refine blk_far ?_ NB156_165.out _;refine ms ?_;refine blk_far ?_ NB156_165.out _;refine ms ?_;exact BK156.out) hb);have n3_:=Az (blk_below (g:=gb157) (o:=.cells #[.slice none 0 0,.int .i64 0,.slice none 0 0] 26 (0,0)) (by refine ms ?_;refine blk_far ?_ NB157_165.out _;refine ms ?_;refine blk_far ?_ NB157_165.out _;refine ms ?_;refine blk_far ?_ NB157_165.out _;refine ms ?_;exact BK157.out) hb);have n4_:=Az (blk_below (g:=gb165) (o:=.cells #[.slice Ao13 t158.length co13,.int .i64 t161,.slice Ao17 t162.length co17] 26 (0,0)) (by refine ms ?_;refine blk_put (cs:=#[.slice Ao13 t158.length co13,.int .i64 t161,.slice none 0 0]) ?_ 2 _ rfl;refine ms ?_;refine blk_put (cs:=#[.slice Ao13 t158.length co13,.int .i64 0,.slice none 0 0]) ?_ 1 _ rfl;refine ms ?_;refine blk_put (cs:=#[.slice none 0 0,.int .i64 0,.slice none 0 0]) ?_ 0 _ rfl;refine ms ?_;exact BK165.out) hb);have n5_:=Az (below_step (mb HB) hb);clear HO160 HO164 BK156 BK157 BK165 HB;have HO160:=n0_;have HO164:=n1_;have BK156:=n2_;have BK157:=n3_;have BK165:=n4_;have HB:=n5_;clear n0_ n1_ n2_ n3_ n4_ n5_;(try clear hb);(try clear hb2);(try clear hk);(try clear hi)))
    go_meet
    case rel=>exact ⟨_,(true),(by first | rfl | (simp;done) | (simp [*];done)),H',⟨by first | omega | exact Nat.le_refl _⟩,⟨mr HO160⟩,⟨Kd.Q_of_R (mr HO164)⟩,⟨mz BK156⟩,⟨mz BK157⟩,⟨mz BK165⟩,⟨mb HB⟩⟩
  ·replace c19:=Bool.eq_false_iff.mpr c19
   subst c19
   have H1:(spec_DevDo.j0 k a1 a2 a3 true t158 t161 t162) = some (r1,r2,r3,r4,r5):=by rw [if_neg (show ¬ (false = true) by decide)] at H;exact H
   clear H
   have H:=H1
   clear H1
   have H':=Aside0.mk H
   clear H
   have hnb36:=NB156_157.out
   have hnc36:=NB157_156.out
   have hnb37:=NB156_165.out
   have hnc37:=NB165_156.out
   have hcz38_0:=bz0 BK156
   have hcz38_1:=bz1 BK156
   have hcz38_2:=bz2 BK156
   have hfz38_0:=bf BK156 0
   have hfz38_1:=bf BK156 1
   have hfz38_2:=bf BK156 2
   go_wp2_with (first | ((with_reducible refine gate_callee (f:=36) rfl ?_);refine goesL_ (some 17) rfl rfl Try.func36 (by kernel_rfl) rfl #[.agg #[.slice A0_0 l0_0.length c0_0,.int .i64 a0_1,.slice A0_2 l0_2.length c0_2]] rfl ml ?_;(with_reducible refine (spec_DevOk.calls k _ _ l0_0 a0_1 _ _ l0_2 false _ ?side1 ?side2 ?side3 ?side4 A18.out).mono ?_);(case side1=>exact Kd.C_below HR0_0.out (mb HB));(case side2=>exact HC0_0.out);(case side3=>exact Kd.C_below HR0_2.out (mb HB));(case side4=>exact HC0_2.out);rintro e w39 ⟨rfl,hb⟩;refine ⟨_,rfl,?_⟩;have n0_:=Az (Kd.R_below (by (with_reducible repeat (first | apply Kd.R_alloc | apply Kd.R_drewN | apply Kd.R_drew));exact (Kd.R_mono (Kd.R_far (Kd.R_far (Kd.R_far (Kd.R_types HO160.out BK165.out (by decide)) (fun _ hk=>hk.2) _) (fun _ hk=>hk.2) _) (fun _ hk=>hk.2) _) (fun _ h_=>h_.1))) hb);have n1_:=Az (Kd.R_below (by (with_reducible repeat (first | apply Kd.R_alloc | apply Kd.R_drewN | apply Kd.R_drew));exact (Kd.R_mono (Kd.R_far (Kd.R_far (Kd.R_far (Kd.R_types HO164.out BK165.out (by decide)) (fun _ hk=>hk.2) _) (fun _ hk=>hk.2) _) (fun _ hk=>hk.2) _) (fun _ h_=>h_.1))) hb);have n2_:=Az (blk_below (g:=gb156) (o:=.cells #[.slice A0_0 l0_0.length c0_0,.int .i64 a0_1,.slice A0_2 l0_2.length c0_2] 26 (0,0)) (by refine ms ?_;refine blk_far ?_ NB156_165.out _;refine ms ?_;refine blk_far ?_ NB156_165.out _;refine ms ?_;refine blk_far ?_ NB156_165.out _;refine ms ?_;exact BK156.out) hb);have n3_:=Az (blk_below (g:=gb157) (o:=.cells #[.slice none 0 0,.int .i64 0,.slice none 0 0] 26 (0,0)) (by refine ms ?_;refine blk_far ?_ NB157_165.out _;refine ms ?_;refine blk_far ?_ NB157_165.out _;refine ms ?_;refine blk_far ?_ NB157_165.out _;refine ms ?_;exact BK157.out) hb);have n4_:=Az (blk_below (g:=gb165) (o:=.cells #[.slice Ao13 t158.length co13,.int .i64 t161,.slice Ao17 t162.length co17] 26 (0,0)) (by refine ms ?_;refine blk_put (cs:=#[.slice Ao13 t158.length co13,.int .i64 t161,.slice none 0 0]) ?_ 2 _ rfl;refine ms ?_;refine blk_put (cs:=#[.slice Ao13 t158.length co13,.int .i64 0,.slice none 0 0]) ?_ 1 _ rfl;refine ms ?_;refine blk_put (cs:=#[.slice none 0 0,.int .i64 0,.slice none 0 0]) ?_ 0 _ rfl;refine ms ?_;exact BK165.out) hb);have n5_:=Az (below_step (mb HB) hb);clear HO160 HO164 BK156 BK157 BK165 HB;have HO160:=n0_;have HO164:=n1_;have BK156:=n2_;have BK157:=n3_;have BK165:=n4_;have HB:=n5_;clear n0_ n1_ n2_ n3_ n4_ n5_;(try clear hb);(try clear hb2);(try clear hk);(try clear hi)))
   go_meet
   case rel=>exact ⟨_,(true),(by first | rfl | (simp;done) | (simp [*];done)),H',⟨by first | omega | exact Nat.le_refl _⟩,⟨mr HO160⟩,⟨Kd.Q_of_R (mr HO164)⟩,⟨mz BK156⟩,⟨mz BK157⟩,⟨mz BK165⟩,⟨mb HB⟩⟩
 case rest =>
  clear HC6
  try clear hcz10_0
  try clear hcz10_1
  try clear hcz10_2
  try clear hcz16_0
  try clear hcz16_1
  try clear hcz16_2
  try clear hfz10_0
  try clear hfz10_1
  try clear hfz10_2
  try clear hfz16_0
  try clear hfz16_1
  try clear hfz16_2
  obtain ⟨kq,x33_5,rfl,HA,HJ5,HO_166000,HO_166002,BK156,BK157,BK165,HB⟩:=hcut
  cases kq with
  | zero=>exact absurd HA.out (by simp [spec_DevDo.j0])
  | succ kj5 =>
   have H:=HA.out
   clear HA
   simp only [spec_DevDo.j0] at H
   by_cases c40:x33_5 = true
   ·subst c40
    have H1:(some (t158,t161,t162,0,false)) = some (r1,r2,r3,r4,r5):=by rw [if_pos rfl] at H;exact H
    clear H
    have H:=H1
    clear H1
    simp only [Option.some.injEq,Prod.mk.injEq] at H
    obtain ⟨rfl,rfl,rfl,rfl,rfl⟩:=H
    have hnb41:=NB165_156.out
    have hnc41:=NB156_165.out
    have hnb42:=NB165_157.out
    have hnc42:=NB157_165.out
    have hcz43_0:=bz0 BK165
    have hcz43_1:=bz1 BK165
    have hcz43_2:=bz2 BK165
    have hfz43_0:=bf BK165 0
    have hfz43_1:=bf BK165 1
    have hfz43_2:=bf BK165 2
    have hnb44:=NB157_156.out
    have hnc44:=NB156_157.out
    have hcz45_0:=bz0 BK157
    have hcz45_1:=bz1 BK157
    have hcz45_2:=bz2 BK157
    have hfz45_0:=bf BK157 0
    have hfz45_1:=bf BK157 1
    have hfz45_2:=bf BK157 2
    go_wp2
    refine bodyPost_ret (results_ctt rfl _ _ gb157 26 #[.slice Ao13 t158.length co13,.int .i64 t161,.slice Ao17 t162.length co17] (0,0) _ rfl (by refine ms ?_;refine blk_put (cs:=#[.slice Ao13 t158.length co13,.int .i64 t161,.slice none 0 0]) ?_ 2 _ rfl;refine ms ?_;refine blk_put (cs:=#[.slice Ao13 t158.length co13,.int .i64 0,.slice none 0 0]) ?_ 1 _ rfl;refine ms ?_;refine blk_put (cs:=#[.slice none 0 0,.int .i64 0,.slice none 0 0]) ?_ 0 _ rfl;refine ms ?_;exact BK157.out) Try.underlying26 rfl (by kernel_rfl)) rfl ?_
    exact ⟨_,_,by first | rfl | (simp [errW_none,errW_some] <;> rfl) | (simp [*,errW_none,errW_some] <;> rfl),by (with_reducible repeat (first | apply Kd.R_alloc | apply Kd.R_drewN | apply Kd.R_drew));exact Kd.R_mono (Kd.R_far (Kd.R_far (Kd.R_far (Kd.R_types HO_166000.out BK157.out (by decide)) (fun _ hk=>hk.2) _) (fun _ hk=>hk.2) _) (fun _ hk=>hk.2) _) (fun _ hk=>hk.1),by (with_reducible repeat (first | apply Kd.Q_alloc | apply Kd.Q_drewN | apply Kd.Q_drew));exact Kd.Q_mono (Kd.Q_far (Kd.Q_far (Kd.Q_far (Kd.Q_types HO_166002.out BK157.out (by decide)) (fun _ hk=>hk.2) _) (fun _ hk=>hk.2) _) (fun _ hk=>hk.2) _) (fun _ hk=>hk.1),mb HB⟩
   ·replace c40:=Bool.eq_false_iff.mpr c40
    subst c40
    have H1:((spec_l1In.f a2 0 12).bind fun t169=>(if t169 = true then (spec_DevDo.j1 kj5 a1 a2 a3 a1 t158 t161 t162) else (spec_DevDo.j1 kj5 a1 a2 a3 false t158 t161 t162))) = some (r1,r2,r3,r4,r5):=by rw [if_neg (show ¬ (false = true) by decide)] at H;exact H
    clear H
    have H:=H1
    clear H1
    have HC46:=Aside0.mk H
    clear H
    go_upto_region 4 with (fail)
    go_cut [35] (fun v35 wc=>∃ (kq:Nat) (x35_45:Bool),v35 = .bool x35_45 ∧ Aside0 (spec_DevDo.j1 kq a1 a2 a3 x35_45 t158 t161 t162 = some (r1,r2,r3,r4,r5)) ∧ Aside0 (kq ≤ kj5) ∧ Aside0 (Kd.R (Kd.int .i64) 3 wc w.heap.size (fun k_=>some k_ ≠ ((.slice Ao17 t162.length co17):Value).ownBlock) (.slice Ao13 t158.length co13) t158) ∧ Aside0 (Kd.Q (Kd.int .i64) 3 wc w.heap.size (fun k_=>some k_ ≠ ((.slice Ao13 t158.length co13):Value).ownBlock) (.slice Ao17 t162.length co17) t162) ∧ Aside0 (wc.heap[gb156]? = some (.cells #[(.slice A0_0 l0_0.length c0_0),.int .i64 a0_1,(.slice A0_2 l0_2.length c0_2)] 26 (0,0))) ∧ Aside0 (wc.heap[gb157]? = some (.cells #[(.slice none 0 0),.int .i64 0,(.slice none 0 0)] 26 (0,0))) ∧ Aside0 (wc.heap[gb165]? = some (.cells #[(.slice Ao13 t158.length co13),.int .i64 t161,(.slice Ao17 t162.length co17)] 26 (0,0))) ∧ Aside0 (Below w.heap.size w wc))
    case first =>
     have H:=HC46.out
     clear HC46
     replace H:=Option.bind_eq_some_iff.mp H
     obtain ⟨t169,A470,H⟩:=H
     replace H:(if t169 = true then (spec_DevDo.j1 kj5 a1 a2 a3 a1 t158 t161 t162) else (spec_DevDo.j1 kj5 a1 a2 a3 false t158 t161 t162)) = some (r1,r2,r3,r4,r5):=H
     have A47:=Aside0.mk A470
     clear A470
     by_cases c48:t169 = true
     ·subst c48
      have H1:(spec_DevDo.j1 kj5 a1 a2 a3 a1 t158 t161 t162) = some (r1,r2,r3,r4,r5):=by rw [if_pos rfl] at H;exact H
      clear H
      have H:=H1
      clear H1
      have H':=Aside0.mk H
      clear H
      go_wp2_with (first | ((with_reducible refine gate_callee (f:=57) rfl ?_);refine goesL_ (some 37) rfl rfl Try.func57 (by kernel_rfl) rfl #[.int .i64 a2,.int .i64 0,.int .i64 12] rfl ml ?_;(with_reducible refine (spec_l1In.calls a2 0 12 true _ A47.out).mono ?_);rintro e w' ⟨rfl,⟨nd,rfl⟩⟩;refine ⟨_,rfl,?_⟩))
      go_meet
      case rel=>exact ⟨_,(a1),(by first | rfl | (simp;done) | (simp [*];done)),H',⟨by have:=HJ5.out;first | omega | exact Nat.le_refl _⟩,⟨mr HO_166000⟩,⟨mq HO_166002⟩,⟨mz BK156⟩,⟨mz BK157⟩,⟨mz BK165⟩,⟨mb HB⟩⟩
     ·replace c48:=Bool.eq_false_iff.mpr c48
      subst c48
      have H1:(spec_DevDo.j1 kj5 a1 a2 a3 false t158 t161 t162) = some (r1,r2,r3,r4,r5):=by rw [if_neg (show ¬ (false = true) by decide)] at H;exact H
      clear H
      have H:=H1
      clear H1
      have H':=Aside0.mk H
      clear H
      go_wp2_with (first | ((with_reducible refine gate_callee (f:=57) rfl ?_);refine goesL_ (some 37) rfl rfl Try.func57 (by kernel_rfl) rfl #[.int .i64 a2,.int .i64 0,.int .i64 12] rfl ml ?_;(with_reducible refine (spec_l1In.calls a2 0 12 false _ A47.out).mono ?_);rintro e w' ⟨rfl,⟨nd,rfl⟩⟩;refine ⟨_,rfl,?_⟩))
      go_meet
      case rel=>exact ⟨_,(false),(by first | rfl | (simp;done) | (simp [*];done)),H',⟨by have:=HJ5.out;first | omega | exact Nat.le_refl _⟩,⟨mr HO_166000⟩,⟨mq HO_166002⟩,⟨mz BK156⟩,⟨mz BK157⟩,⟨mz BK165⟩,⟨mb HB⟩⟩
    case rest =>
     clear HC46
     try clear c40
     try clear hcz10_0
     try clear hcz10_1
     try clear hcz10_2
     try clear hcz16_0
     try clear hcz16_1
     try clear hcz16_2
     try clear hfz10_0
     try clear hfz10_1
     try clear hfz10_2
     try clear hfz16_0
     try clear hfz16_1
     try clear hfz16_2
     obtain ⟨kq,x35_45,rfl,HA,HJ45,HO_166000,HO_166002,BK156,BK157,BK165,HB⟩:=hcut
     cases kq with
     | zero=>exact absurd HA.out (by simp [spec_DevDo.j1])
     | succ kj45 =>
      have H:=HA.out
      clear HA
      simp only [spec_DevDo.j1] at H
      by_cases c49:x35_45 = true
      ·subst c49
       have H1:(if 0 ≤ (wrap64 (Int.tdiv a2 4)) then (if (wrap64 (Int.tdiv a2 4)) < (t158.length:Int) then (some ((t158.set ((wrap64 (Int.tdiv a2 4)):Int).toNat a3),t161,t162,a3,true)) else (none)) else (none)) = some (r1,r2,r3,r4,r5):=by rw [if_pos rfl] at H;exact H
       clear H
       have H:=H1
       clear H1
       obtain ⟨ji50,hji50⟩:∃ j_:Int,(wrap64 (Int.tdiv a2 4)) = j_:=⟨_,rfl⟩
       replace H:(if 0 ≤ (ji50) then (if (ji50) < (t158.length:Int) then (some ((t158.set ((ji50):Int).toNat a3),t161,t162,a3,true)) else (none)) else (none)) = some (r1,r2,r3,r4,r5):=by first | (rw [hji50] at H;exact H) | (simp only [hji50] at H ⊢;exact H)
       have hji50w:(IntKind.i64.wrap (Int.tdiv a2 4)) = ji50:=(i64_w _).trans hji50
       by_cases c51:0 ≤ (ji50)
       ·rw [if_pos c51] at H
        have c51b0:decide (0 ≤ (ji50)) = true:=decide_eq_true c51
        clear c51
        by_cases c52:(ji50) < (t158.length:Int)
        ·rw [if_pos c52] at H
         have c52b0:decide ((ji50) < (t158.length:Int)) = true:=decide_eq_true c52
         clear c52
         obtain ⟨y170,hy170⟩:∃ y_:List Int,y_ = (t158.set ((ji50):Int).toNat a3):=⟨_,rfl⟩
         replace H:(some (y170,t161,t162,a3,true)) = some (r1,r2,r3,r4,r5):=by first | (rw [hy170];with_reducible exact H) | (have H2_:=(Option.bind_some _ _).symm.trans H;rw [hy170];with_reducible exact H2_) | (have H2_:=(Option.bind_some _ _).symm.trans H;with_reducible exact H2_) | with_reducible exact H | (rw [hy170];exact H) | exact H
         have Ny170:=Aside0.mk hy170
         clear hy170
         simp only [Option.some.injEq,Prod.mk.injEq] at H
         obtain ⟨rfl,rfl,rfl,rfl,rfl⟩:=H
         have hnb54:=NB165_156.out
         have hnc54:=NB156_165.out
         have hnb55:=NB165_157.out
         have hnc55:=NB157_165.out
         have hcz56_0:=bz0 BK165
         have hcz56_1:=bz1 BK165
         have hcz56_2:=bz2 BK165
         have hfz56_0:=bf BK165 0
         have hfz56_1:=bf BK165 1
         have hfz56_2:=bf BK165 2
         have p53:0 ≤ ((ji50):Int):=of_decide_eq_true (by first | (with_reducible assumption) | assumption)
         have q53:((ji50):Int) < ((t158.length:Int):Int):=of_decide_eq_true (by first | (with_reducible assumption) | assumption)
         obtain ⟨go53,co53,eo53,gb53,gl53,cl53,HG53⟩:=Kd.R_form HO_166000.out (by omega)
         (first | cases eo53 | (injection eo53 with ea_ en_ ec_;(first | subst ea_ | (injection ea_ with ea_;subst ea_));subst ec_;clear en_))
         have GB53:=Aside0.mk gb53
         have GG53:=Aside0.mk HG53
         clear gb53 gl53 HG53
         obtain ⟨hx53_0,hf53_0⟩:=Kd.R_celln 0 HO_166000.out ((ji50):Int) p53 q53
         replace p53:=eq_true p53
         replace q53:=eq_true q53
         have HP57:=Kd.R_putg HO_166000.out ((ji50):Int) a3
         go_wp2_with (first | ((with_reducible refine gate_store (t:=3) (p:=46) rfl ?_);refine store_event (t:=3) (p:=46) (v:=?vo_w58) (w1:=(wc.setCell ⟨go53,((ji50):Int).toNat,none⟩ (.int .i64 a3))) ?hg ?ho ?hn ?hr ?_;(case ho=>rfl);(case hg=>rfl);(case hn=>rfl);(case hr=>first | (go_simp;done) | (go_simp;rfl));intro w58 hw;have hg:wc.grownBy w58 (some go53):=(by rw [hw];exact HP57.2);have hp_:Kd.R (Kd.int .i64) 3 w58 w.heap.size (fun k_=>some k_ ≠ (.slice Ao17 t162.length co17:Value).ownBlock) (.slice (some ⟨go53,0,none⟩) t158.length co13) y170:=(by rw [hw,Ny170.out];exact HP57.1);clear HP57;have n0_:=Az (hp_);have n1_:=Az (Kd.Q_after (v:=(.slice (some ⟨go53,0,none⟩) t158.length co13)) (v1:=(.slice (some ⟨go53,0,none⟩) t158.length co13)) (ok:=(fun _=>True)) (by (with_reducible repeat (first | apply Kd.Q_alloc | apply Kd.Q_drewN | apply Kd.Q_drew));exact Kd.Q_mono HO_166002.out (fun _ hk=>⟨trivial,hk⟩)) hg (.inl rfl));have n2_:=Az (blk_grown (mz BK156) hg (Kd.R_ne HO_166000.out BK156.out (by decide)));have n3_:=Az (blk_grown (mz BK157) hg (Kd.R_ne HO_166000.out BK157.out (by decide)));have n4_:=Az (blk_grown (mz BK165) hg (Kd.R_ne HO_166000.out BK165.out (by decide)));have n5_:=Az ((by rw [hw];exact below_set (HB.out) GB53.out:Below w.heap.size w w58));clear HO_166000 HO_166002 BK156 BK157 BK165 HB;have HO_166000:=n0_;have HO_166002:=n1_;have BK156:=n2_;have BK157:=n3_;have BK165:=n4_;have HB:=n5_;clear n0_ n1_ n2_ n3_ n4_ n5_ hg hw hp_;have hcz59_0:=bz0 BK165;have hcz59_1:=bz1 BK165;have hcz59_2:=bz2 BK165;have hfz59_0:=bf BK165 0;have hfz59_1:=bf BK165 1;have hfz59_2:=bf BK165 2;have hnb60:=NB157_156.out;have hnc60:=NB156_157.out;have hcz61_0:=bz0 BK157;have hcz61_1:=bz1 BK157;have hcz61_2:=bz2 BK157;have hfz61_0:=bf BK157 0;have hfz61_1:=bf BK157 1;have hfz61_2:=bf BK157 2))
         refine bodyPost_ret (results_ctt rfl _ _ gb157 26 #[.slice (some ⟨go53,0,none⟩) t158.length co13,.int .i64 t161,.slice Ao17 t162.length co17] (0,0) _ rfl (by refine ms ?_;refine blk_put (cs:=#[.slice (some ⟨go53,0,none⟩) t158.length co13,.int .i64 t161,.slice none 0 0]) ?_ 2 _ rfl;refine ms ?_;refine blk_put (cs:=#[.slice (some ⟨go53,0,none⟩) t158.length co13,.int .i64 0,.slice none 0 0]) ?_ 1 _ rfl;refine ms ?_;refine blk_put (cs:=#[.slice none 0 0,.int .i64 0,.slice none 0 0]) ?_ 0 _ rfl;refine ms ?_;exact BK157.out) Try.underlying26 rfl (by kernel_rfl)) rfl ?_
         exact ⟨_,_,by first | rfl | (simp [errW_none,errW_some] <;> rfl) | (simp only [← hji50];first | rfl | (simp [errW_none,errW_some] <;> rfl)) | (simp [*,errW_none,errW_some] <;> rfl),by (with_reducible repeat (first | apply Kd.R_alloc | apply Kd.R_drewN | apply Kd.R_drew));exact Kd.R_mono (Kd.R_far (Kd.R_far (Kd.R_far (Kd.R_types HO_166000.out BK157.out (by decide)) (fun _ hk=>hk.2) (.slice (some ⟨go53,0,none⟩) t158.length co13)) (fun _ hk=>hk.2) _) (fun _ hk=>hk.2) _) (fun _ hk=>hk.1),by (with_reducible repeat (first | apply Kd.Q_alloc | apply Kd.Q_drewN | apply Kd.Q_drew));exact Kd.Q_mono (Kd.Q_far (Kd.Q_far (Kd.Q_far (Kd.Q_types HO_166002.out BK157.out (by decide)) (fun _ hk=>hk.2) (.slice (some ⟨go53,0,none⟩) t158.length co13)) (fun _ hk=>hk.2) _) (fun _ hk=>hk.2) _) (fun _ hk=>hk.1.2),mb HB⟩
        ·rw [if_neg c52] at H
         exact absurd H (by simp)
       ·rw [if_neg c51] at H
        exact absurd H (by simp)
      ·replace c49:=Bool.eq_false_iff.mpr c49
       subst c49
       have H1:((spec_l1In.f a2 0 12).bind fun t171=>(if t171 = true then (if 0 ≤ (wrap64 (Int.tdiv a2 4)) then (if (wrap64 (Int.tdiv a2 4)) < (t158.length:Int) then (some (t158,t161,t162,rd t158 (wrap64 (Int.tdiv a2 4)),true)) else (none)) else (none)) else (if a2 = 16 then (spec_DevDo.j2 kj45 a1 a2 a3 a1 t158 t161 t162) else (spec_DevDo.j2 kj45 a1 a2 a3 false t158 t161 t162)))) = some (r1,r2,r3,r4,r5):=by rw [if_neg (show ¬ (false = true) by decide)] at H;exact H
       clear H
       have H:=H1
       clear H1
       replace H:=Option.bind_eq_some_iff.mp H
       obtain ⟨t171,A620,H⟩:=H
       replace H:(if t171 = true then (if 0 ≤ (wrap64 (Int.tdiv a2 4)) then (if (wrap64 (Int.tdiv a2 4)) < (t158.length:Int) then (some (t158,t161,t162,rd t158 (wrap64 (Int.tdiv a2 4)),true)) else (none)) else (none)) else (if a2 = 16 then (spec_DevDo.j2 kj45 a1 a2 a3 a1 t158 t161 t162) else (spec_DevDo.j2 kj45 a1 a2 a3 false t158 t161 t162))) = some (r1,r2,r3,r4,r5):=H
       have A62:=Aside0.mk A620
       clear A620
       by_cases c63:t171 = true
       ·subst c63
        have H1:(if 0 ≤ (wrap64 (Int.tdiv a2 4)) then (if (wrap64 (Int.tdiv a2 4)) < (t158.length:Int) then (some (t158,t161,t162,rd t158 (wrap64 (Int.tdiv a2 4)),true)) else (none)) else (none)) = some (r1,r2,r3,r4,r5):=by rw [if_pos rfl] at H;exact H
        clear H
        have H:=H1
        clear H1
        obtain ⟨ji64,hji64⟩:∃ j_:Int,(wrap64 (Int.tdiv a2 4)) = j_:=⟨_,rfl⟩
        replace H:(if 0 ≤ (ji64) then (if (ji64) < (t158.length:Int) then (some (t158,t161,t162,rd t158 (ji64),true)) else (none)) else (none)) = some (r1,r2,r3,r4,r5):=by first | (rw [hji64] at H;exact H) | (simp only [hji64] at H ⊢;exact H)
        (try rw [hji64] at A62)
        have hji64w:(IntKind.i64.wrap (Int.tdiv a2 4)) = ji64:=(i64_w _).trans hji64
        by_cases c65:0 ≤ (ji64)
        ·rw [if_pos c65] at H
         have c65b0:decide (0 ≤ (ji64)) = true:=decide_eq_true c65
         clear c65
         by_cases c66:(ji64) < (t158.length:Int)
         ·rw [if_pos c66] at H
          have c66b0:decide ((ji64) < (t158.length:Int)) = true:=decide_eq_true c66
          clear c66
          simp only [Option.some.injEq,Prod.mk.injEq] at H
          obtain ⟨rfl,rfl,rfl,rfl,rfl⟩:=H
          try go_wp2_with (first | ((with_reducible refine gate_callee (f:=57) rfl ?_);refine goesL_ (some 51) rfl rfl Try.func57 (by kernel_rfl) rfl #[.int .i64 a2,.int .i64 0,.int .i64 12] rfl ml ?_;(with_reducible refine (spec_l1In.calls a2 0 12 true _ A62.out).mono ?_);rintro e w' ⟨rfl,⟨nd,rfl⟩⟩;refine ⟨_,rfl,?_⟩;(try (rw [drewN_self wc];generalize hq_:World.drewN wc _ = wc;have n0_:Aside0 (Kd.R (Kd.int .i64) 3 wc w.heap.size (fun k_=>some k_ ≠ (.slice Ao17 t162.length co17:Value).ownBlock) (.slice Ao13 t158.length co13) t158):=⟨by rw [← hq_];exact (mr HO_166000)⟩;have n1_:Aside0 (Kd.Q (Kd.int .i64) 3 wc w.heap.size (fun k_=>some k_ ≠ (.slice Ao13 t158.length co13:Value).ownBlock) (.slice Ao17 t162.length co17) t162):=⟨by rw [← hq_];exact (mq HO_166002)⟩;have n2_:Aside0 (wc.heap[gb156]? = some (.cells #[.slice A0_0 l0_0.length c0_0,.int .i64 a0_1,.slice A0_2 l0_2.length c0_2] 26 (0,0))):=⟨by rw [← hq_];exact (mz BK156)⟩;have n3_:Aside0 (wc.heap[gb157]? = some (.cells #[.slice none 0 0,.int .i64 0,.slice none 0 0] 26 (0,0))):=⟨by rw [← hq_];exact (mz BK157)⟩;have n4_:Aside0 (wc.heap[gb165]? = some (.cells #[.slice Ao13 t158.length co13,.int .i64 t161,.slice Ao17 t162.length co17] 26 (0,0))):=⟨by rw [← hq_];exact (mz BK165)⟩;have n5_:Aside0 (Below w.heap.size w wc):=⟨by rw [← hq_];exact (mb HB)⟩;clear HO_166000 HO_166002 BK156 BK157 BK165 HB hq_;have HO_166000:=n0_;have HO_166002:=n1_;have BK156:=n2_;have BK157:=n3_;have BK165:=n4_;have HB:=n5_;clear n0_ n1_ n2_ n3_ n4_ n5_))))
          have n0_:=Az (Kd.R_drew HO_166000.out)
          have n1_:=Az (Kd.Q_drew HO_166002.out)
          have n2_:=Az (blk_drew BK156.out)
          have n3_:=Az (blk_drew BK157.out)
          have n4_:=Az (blk_drew BK165.out)
          have n5_:=Az (below_drew1 HB.out)
          clear HO_166000 HO_166002 BK156 BK157 BK165 HB
          have HO_166000:=n0_
          have HO_166002:=n1_
          have BK156:=n2_
          have BK157:=n3_
          have BK165:=n4_
          have HB:=n5_
          clear n0_ n1_ n2_ n3_ n4_ n5_
          have p172:0 ≤ ((ji64):Int):=of_decide_eq_true (by first | (with_reducible assumption) | assumption)
          have q172:(ji64) < (t158.length:Int):=of_decide_eq_true (by first | (with_reducible assumption) | assumption)
          obtain ⟨ad172,e172,hx172_0⟩:=Kd.at_int (Kd.R_reads' HO_166000.out).2.2 (ji64) p172 q172
          cases e172
          replace p172:=eq_true p172
          replace q172:=eq_true q172
          refine start_ (n:=10) (S:=fun w'=>w'.cell? ⟨gb165,0,none⟩ = some (.slice (some ad172) t158.length co13) ∧ w'.cell? ⟨gb165,1,none⟩ = some (.int .i64 t161) ∧ w'.cell? ⟨gb165,2,none⟩ = some (.slice Ao17 t162.length co17) ∧ w'.cell? (ad172.add ((ji64)).toNat) = some (.int .i64 (rd t158 (ji64)))) (ds:=[]) #[false,false,false,false,false,false,false,false,false,false] (by kernel_rfl) rfl rfl ⟨(blk_cell BK165.out 0).trans rfl,(blk_cell BK165.out 1).trans rfl,(blk_cell BK165.out 2).trans rfl,hx172_0⟩ (fun hHeld=>?_);refine with_tabW spec_DevDo.tab8 spec_DevDo.bits8 (fun HT_ HW_=>?_)
          generalize wc.drew = w67 at HO_166000 HO_166002 BK156 BK157 BK165 HB hx172_0 hHeld ⊢
          refine pure_ (i:=1) (N:=some 53) (v:=?_) (a':=?_) #[false,true,false,false,false,false,false,false,false,false] rfl rfl (any_of HT_.out (by kernel_rfl)) (fun _ _ _ h=>h) (Or.inl ⟨by rfl,?_⟩) ?_ ?_
          rotate_left
          ·intro w'
           go_simp
           with_reducible rfl
          rotate_left
          ·simp only [Act.put,List.setIfInBounds_toArray,List.set_cons_zero,List.set_cons_succ,i64_w,i32_w]
           rfl
          refine pure_ (i:=3) (N:=some 55) (v:=?_) (a':=?_) #[false,true,false,true,false,false,false,false,false,false] rfl rfl (any_of HT_.out (by kernel_rfl)) (fun _ _ _ h=>h) (Or.inl ⟨by rfl,?_⟩) ?_ ?_
          rotate_left
          ·intro w'
           go_simp
           with_reducible rfl
          rotate_left
          ·simp only [Act.put,List.setIfInBounds_toArray,List.set_cons_zero,List.set_cons_succ,i64_w,i32_w]
           rfl
          refine pure_ (i:=4) (N:=some 56) (v:=?_) (a':=?_) #[false,true,false,true,true,false,false,false,false,false] rfl rfl (any_of HT_.out (by kernel_rfl)) (fun _ _ _ h=>h) (Or.inl ⟨by rfl,?_⟩) ?_ ?_
          rotate_left
          ·intro w'
           go_simp
           with_reducible rfl
          rotate_left
          ·simp only [Act.put,List.setIfInBounds_toArray,List.set_cons_zero,List.set_cons_succ,i64_w,i32_w]
           rfl
          refine take_ (i:=0) (N:=some 52) (v:=?_) (a':=?_) #[true,true,false,true,true,false,false,false,false,false] rfl rfl (take_ofW HT_.out HW_.out (by kernel_rfl)) (fun _ _ _ h=>h) (Or.inl ⟨by rfl,?_⟩) hHeld ?_ ?_
          rotate_left
          ·rintro w' ⟨s0,s1,s2,s3⟩
           go_simp
           with_reducible rfl
          rotate_left
          ·simp only [Act.put,List.setIfInBounds_toArray,List.set_cons_zero,List.set_cons_succ,i64_w,i32_w]
           rfl
          refine take_ (i:=2) (N:=some 54) (v:=?_) (a':=?_) #[true,true,true,true,true,false,false,false,false,false] rfl rfl (take_ofW HT_.out HW_.out (by kernel_rfl)) (fun _ _ _ h=>h) (Or.inl ⟨by rfl,?_⟩) hHeld ?_ ?_
          rotate_left
          ·rintro w' ⟨s0,s1,s2,s3⟩
           go_simp
           with_reducible rfl
          rotate_left
          ·simp only [Act.put,List.setIfInBounds_toArray,List.set_cons_zero,List.set_cons_succ,i64_w,i32_w]
           rfl
          refine pure_ (i:=5) (N:=some 57) (v:=?_) (a':=?_) #[true,true,true,true,true,true,false,false,false,false] rfl rfl (any_of HT_.out (by kernel_rfl)) (fun _ _ _ h=>h) (Or.inl ⟨by rfl,?_⟩) ?_ ?_
          rotate_left
          ·intro w'
           go_simp
           with_reducible rfl
          rotate_left
          ·simp only [Act.put,List.setIfInBounds_toArray,List.set_cons_zero,List.set_cons_succ,i64_w,i32_w]
           rfl
          refine take_ (i:=6) (N:=some 58) (v:=?_) (a':=?_) #[true,true,true,true,true,true,true,false,false,false] rfl rfl (take_ofW HT_.out HW_.out (by kernel_rfl)) (fun _ _ _ h=>h) (Or.inl ⟨by rfl,?_⟩) hHeld ?_ ?_
          rotate_left
          ·rintro w' ⟨s0,s1,s2,s3⟩
           go_simp
           with_reducible rfl
          rotate_left
          ·simp only [Act.put,List.setIfInBounds_toArray,List.set_cons_zero,List.set_cons_succ,i64_w,i32_w]
           rfl
          refine one_ (i:=7) (N:=none) #[true,true,true,true,true,true,true,true,false,false] rfl rfl (one_of HT_.out (by kernel_rfl)) (by decide) (fun K hK=>?_)
          have hs68:w67.cell? ⟨gb157,0,none⟩ = some (.slice none 0 0):=(blk_cell BK157.out 0).trans rfl
          have hfs68:=blk_frozen BK157.out 0
          have hns68_0:=NB156_157.out
          have hns68_2:=NB165_157.out
          have hms68_0:=NB157_156.out
          have hms68_2:=NB157_165.out
          have hs69:w67.cell? ⟨gb157,1,none⟩ = some (.int .i64 0):=(blk_cell BK157.out 1).trans rfl
          have hfs69:=blk_frozen BK157.out 1
          have hns69_0:=NB156_157.out
          have hns69_2:=NB165_157.out
          have hms69_0:=NB157_156.out
          have hms69_2:=NB157_165.out
          have hs70:w67.cell? ⟨gb157,2,none⟩ = some (.slice none 0 0):=(blk_cell BK157.out 2).trans rfl
          have hfs70:=blk_frozen BK157.out 2
          have hns70_0:=NB156_157.out
          have hns70_2:=NB165_157.out
          have hms70_0:=NB157_156.out
          have hms70_2:=NB157_165.out
          refine skip_ (w1:=?_) (by rfl) rfl ?_ ?_
          rotate_left
          ·go_simp
           rfl
          refine hK.out _ _ ⟨((cell_far (p:=⟨gb157,_,none⟩) NB165_157.out _).trans (((cell_far (p:=⟨gb157,_,none⟩) NB165_157.out _).trans (((cell_far (p:=⟨gb157,_,none⟩) NB165_157.out _).trans (hHeld.1)))))),((cell_far (p:=⟨gb157,_,none⟩) NB165_157.out _).trans (((cell_far (p:=⟨gb157,_,none⟩) NB165_157.out _).trans (((cell_far (p:=⟨gb157,_,none⟩) NB165_157.out _).trans (hHeld.2.1)))))),((cell_far (p:=⟨gb157,_,none⟩) NB165_157.out _).trans (((cell_far (p:=⟨gb157,_,none⟩) NB165_157.out _).trans (((cell_far (p:=⟨gb157,_,none⟩) NB165_157.out _).trans (hHeld.2.2.1)))))),((cell_far (p:=⟨gb157,_,none⟩) (by first | exact Kd.own_blk (Kd.R_ne HO_166000.out BK157.out (by decide)) | (rw [add_block];exact Kd.own_blk (Kd.R_ne HO_166000.out BK157.out (by decide))) | (show (Addr.add _ _).block ≠ _;rw [add_block];exact Kd.own_blk (Kd.R_ne HO_166000.out BK157.out (by decide))) | (dsimp only;exact Kd.own_blk (Kd.R_ne HO_166000.out BK157.out (by decide)))) _).trans (((cell_far (p:=⟨gb157,_,none⟩) (by first | exact Kd.own_blk (Kd.R_ne HO_166000.out BK157.out (by decide)) | (rw [add_block];exact Kd.own_blk (Kd.R_ne HO_166000.out BK157.out (by decide))) | (show (Addr.add _ _).block ≠ _;rw [add_block];exact Kd.own_blk (Kd.R_ne HO_166000.out BK157.out (by decide))) | (dsimp only;exact Kd.own_blk (Kd.R_ne HO_166000.out BK157.out (by decide)))) _).trans (((cell_far (p:=⟨gb157,_,none⟩) (by first | exact Kd.own_blk (Kd.R_ne HO_166000.out BK157.out (by decide)) | (rw [add_block];exact Kd.own_blk (Kd.R_ne HO_166000.out BK157.out (by decide))) | (show (Addr.add _ _).block ≠ _;rw [add_block];exact Kd.own_blk (Kd.R_ne HO_166000.out BK157.out (by decide))) | (dsimp only;exact Kd.own_blk (Kd.R_ne HO_166000.out BK157.out (by decide)))) _).trans (hHeld.2.2.2))))))⟩ (fun hHeld=>?_)
          clear hK K
          refine pure_ (i:=8) (N:=some 9) (v:=?_) (a':=?_) #[true,true,true,true,true,true,true,true,true,false] rfl rfl (any_of HT_.out (by kernel_rfl)) (fun _ _ _ h=>h) (Or.inl ⟨by rfl,?_⟩) ?_ ?_
          rotate_left
          ·intro w'
           go_simp
           with_reducible rfl
          rotate_left
          ·simp only [Act.put,List.setIfInBounds_toArray,List.set_cons_zero,List.set_cons_succ,i64_w,i32_w]
           rfl
          refine pure_ (i:=9) (N:=some 10) (v:=?_) (a':=?_) #[true,true,true,true,true,true,true,true,true,true] rfl rfl (any_of HT_.out (by kernel_rfl)) (fun _ _ _ h=>h) (Or.inl ⟨by rfl,?_⟩) ?_ ?_
          rotate_left
          ·intro w'
           go_simp
           with_reducible rfl
          rotate_left
          ·simp only [Act.put,List.setIfInBounds_toArray,List.set_cons_zero,List.set_cons_succ,i64_w,i32_w]
           rfl
          refine done_ (done_of HT_.out (by kernel_rfl)) ?_
          try go_wp2
          refine bodyPost_ret (results_ctt rfl _ _ gb157 26 #[.slice (some ad172) t158.length co13,.int .i64 t161,.slice Ao17 t162.length co17] (0,0) _ rfl (by refine ms ?_;refine blk_put (cs:=#[.slice (some ad172) t158.length co13,.int .i64 t161,.slice none 0 0]) ?_ 2 _ rfl;refine ms ?_;refine blk_put (cs:=#[.slice (some ad172) t158.length co13,.int .i64 0,.slice none 0 0]) ?_ 1 _ rfl;refine ms ?_;refine blk_put (cs:=#[.slice none 0 0,.int .i64 0,.slice none 0 0]) ?_ 0 _ rfl;refine ms ?_;exact BK157.out) Try.underlying26 rfl (by kernel_rfl)) rfl ?_
          exact ⟨_,_,by first | rfl | (simp [errW_none,errW_some] <;> rfl) | (simp only [← hji64];first | rfl | (simp [errW_none,errW_some] <;> rfl)) | (simp [*,errW_none,errW_some] <;> rfl),by (with_reducible repeat (first | apply Kd.R_alloc | apply Kd.R_drewN | apply Kd.R_drew));exact Kd.R_mono (Kd.R_far (Kd.R_far (Kd.R_far (Kd.R_types HO_166000.out BK157.out (by decide)) (fun _ hk=>hk.2) (.slice (some ad172) t158.length co13)) (fun _ hk=>hk.2) _) (fun _ hk=>hk.2) _) (fun _ hk=>hk.1),by (with_reducible repeat (first | apply Kd.Q_alloc | apply Kd.Q_drewN | apply Kd.Q_drew));exact Kd.Q_mono (Kd.Q_far (Kd.Q_far (Kd.Q_far (Kd.Q_types HO_166002.out BK157.out (by decide)) (fun _ hk=>hk.2) (.slice (some ad172) t158.length co13)) (fun _ hk=>hk.2) _) (fun _ hk=>hk.2) _) (fun _ hk=>hk.1),mb HB⟩
         ·rw [if_neg c66] at H
          exact absurd H (by simp)
        ·rw [if_neg c65] at H
         exact absurd H (by simp)
       ·replace c63:=Bool.eq_false_iff.mpr c63
        subst c63
        have H1:(if a2 = 16 then (spec_DevDo.j2 kj45 a1 a2 a3 a1 t158 t161 t162) else (spec_DevDo.j2 kj45 a1 a2 a3 false t158 t161 t162)) = some (r1,r2,r3,r4,r5):=by rw [if_neg (show ¬ (false = true) by decide)] at H;exact H
        clear H
        have H:=H1
        clear H1
        have HC71:=Aside0.mk H
        clear H
        go_upto_region 9 with (first | ((with_reducible refine gate_callee (f:=57) rfl ?_);refine goesL_ (some 51) rfl rfl Try.func57 (by kernel_rfl) rfl #[.int .i64 a2,.int .i64 0,.int .i64 12] rfl ml ?_;(with_reducible refine (spec_l1In.calls a2 0 12 false _ A62.out).mono ?_);rintro e w' ⟨rfl,⟨nd,rfl⟩⟩;refine ⟨_,rfl,?_⟩))
        (try simp only [Act.put,List.setIfInBounds_toArray,List.set_cons_zero,List.set_cons_succ])
        go_cut [59] (fun v59 wc=>∃ (kq:Nat) (x59_70:Bool),v59 = .bool x59_70 ∧ Aside0 (spec_DevDo.j2 kq a1 a2 a3 x59_70 t158 t161 t162 = some (r1,r2,r3,r4,r5)) ∧ Aside0 (kq ≤ kj45) ∧ Aside0 (Kd.R (Kd.int .i64) 3 wc w.heap.size (fun k_=>some k_ ≠ ((.slice Ao17 t162.length co17):Value).ownBlock) (.slice Ao13 t158.length co13) t158) ∧ Aside0 (Kd.Q (Kd.int .i64) 3 wc w.heap.size (fun k_=>some k_ ≠ ((.slice Ao13 t158.length co13):Value).ownBlock) (.slice Ao17 t162.length co17) t162) ∧ Aside0 (wc.heap[gb156]? = some (.cells #[(.slice A0_0 l0_0.length c0_0),.int .i64 a0_1,(.slice A0_2 l0_2.length c0_2)] 26 (0,0))) ∧ Aside0 (wc.heap[gb157]? = some (.cells #[(.slice none 0 0),.int .i64 0,(.slice none 0 0)] 26 (0,0))) ∧ Aside0 (wc.heap[gb165]? = some (.cells #[(.slice Ao13 t158.length co13),.int .i64 t161,(.slice Ao17 t162.length co17)] 26 (0,0))) ∧ Aside0 (Below w.heap.size w wc))
        case first =>
         have H:=HC71.out
         clear HC71
         by_cases c72:a2 = 16
         ·rw [if_pos c72] at H
          have c72b0:(a2 == 16) = true:=beq_iff_eq.mpr c72
          have c72b1:(a2 != 16) = false:=bne_eq_false_iff_eq.mpr c72
          clear c72
          (first | rw [c72b0] | (simp only [i64_w,i32_w];rw [c72b0]) | skip)
          have H':=Aside0.mk H
          clear H
          go_wp2
          go_meet
          case rel=>exact ⟨_,(a1),(by first | rfl | (simp;done) | (simp [*];done)),H',⟨by have:=HJ5.out;have:=HJ45.out;first | omega | exact Nat.le_refl _⟩,⟨mr HO_166000⟩,⟨mq HO_166002⟩,⟨mz BK156⟩,⟨mz BK157⟩,⟨mz BK165⟩,⟨mb HB⟩⟩
         ·rw [if_neg c72] at H
          have c72b0:(a2 == 16) = false:=beq_eq_false_iff_ne.mpr c72
          have c72b1:(a2 != 16) = true:=bne_iff_ne.mpr c72
          (first | rw [c72b0] | (simp only [i64_w,i32_w];rw [c72b0]) | skip)
          have H':=Aside0.mk H
          clear H
          go_wp2
          go_meet
          case rel=>exact ⟨_,(false),(by first | rfl | (simp;done) | (simp [*];done)),H',⟨by have:=HJ5.out;have:=HJ45.out;first | omega | exact Nat.le_refl _⟩,⟨mr HO_166000⟩,⟨mq HO_166002⟩,⟨mz BK156⟩,⟨mz BK157⟩,⟨mz BK165⟩,⟨mb HB⟩⟩
        case rest =>
         clear HC71
         try clear c40
         try clear c49
         try clear c63
         try clear hcz10_0
         try clear hcz10_1
         try clear hcz10_2
         try clear hcz16_0
         try clear hcz16_1
         try clear hcz16_2
         try clear hfz10_0
         try clear hfz10_1
         try clear hfz10_2
         try clear hfz16_0
         try clear hfz16_1
         try clear hfz16_2
         obtain ⟨kq,x59_70,rfl,HA,HJ70,HO_166000,HO_166002,BK156,BK157,BK165,HB⟩:=hcut
         cases kq with
         | zero=>exact absurd HA.out (by simp [spec_DevDo.j2])
         | succ kj70 =>
          have H:=HA.out
          clear HA
          simp only [spec_DevDo.j2] at H
          by_cases c73:x59_70 = true
          ·subst c73
           have H1:(some (t158,a3,t162,a3,true)) = some (r1,r2,r3,r4,r5):=by rw [if_pos rfl] at H;exact H
           clear H
           have H:=H1
           clear H1
           simp only [Option.some.injEq,Prod.mk.injEq] at H
           obtain ⟨rfl,rfl,rfl,rfl,rfl⟩:=H
           have hnb74:=NB165_156.out
           have hnc74:=NB156_165.out
           have hnb75:=NB165_157.out
           have hnc75:=NB157_165.out
           have hcz76_0:=bz0 BK165
           have hcz76_1:=bz1 BK165
           have hcz76_2:=bz2 BK165
           have hfz76_0:=bf BK165 0
           have hfz76_1:=bf BK165 1
           have hfz76_2:=bf BK165 2
           have hnb77:=NB157_156.out
           have hnc77:=NB156_157.out
           have hcz78_0:=bz0 BK157
           have hcz78_1:=bz1 BK157
           have hcz78_2:=bz2 BK157
           have hfz78_0:=bf BK157 0
           have hfz78_1:=bf BK157 1
           have hfz78_2:=bf BK157 2
           go_wp2
           refine bodyPost_ret (results_ctt rfl _ _ gb157 26 #[.slice Ao13 t158.length co13,.int .i64 a3,.slice Ao17 t162.length co17] (0,0) _ rfl (by refine ms ?_;refine blk_put (cs:=#[.slice Ao13 t158.length co13,.int .i64 a3,.slice none 0 0]) ?_ 2 _ rfl;refine ms ?_;refine blk_put (cs:=#[.slice Ao13 t158.length co13,.int .i64 0,.slice none 0 0]) ?_ 1 _ rfl;refine ms ?_;refine blk_put (cs:=#[.slice none 0 0,.int .i64 0,.slice none 0 0]) ?_ 0 _ rfl;refine ms ?_;refine blk_far ?_ NB157_165.out _;refine ms ?_;exact BK157.out) Try.underlying26 rfl (by kernel_rfl)) rfl ?_
           exact ⟨_,_,by first | rfl | (simp [errW_none,errW_some] <;> rfl) | (simp [*,errW_none,errW_some] <;> rfl),by (with_reducible repeat (first | apply Kd.R_alloc | apply Kd.R_drewN | apply Kd.R_drew));exact Kd.R_mono (Kd.R_far (Kd.R_far (Kd.R_far (Kd.R_far (Kd.R_types (Kd.R_types HO_166000.out BK165.out (by decide)) BK157.out (by decide)) (fun _ hk=>hk.1.2) _) (fun _ hk=>hk.2) _) (fun _ hk=>hk.2) _) (fun _ hk=>hk.2) _) (fun _ hk=>hk.1.1),by (with_reducible repeat (first | apply Kd.Q_alloc | apply Kd.Q_drewN | apply Kd.Q_drew));exact Kd.Q_mono (Kd.Q_far (Kd.Q_far (Kd.Q_far (Kd.Q_far (Kd.Q_types (Kd.Q_types HO_166002.out BK165.out (by decide)) BK157.out (by decide)) (fun _ hk=>hk.1.2) _) (fun _ hk=>hk.2) _) (fun _ hk=>hk.2) _) (fun _ hk=>hk.2) _) (fun _ hk=>hk.1.1),mb HB⟩
          ·replace c73:=Bool.eq_false_iff.mpr c73
           subst c73
           have H1:(if a2 = 16 then ((spec_LimitOf.f 2).bind fun t173=>(if t173 = 0 then (none) else (some (t158,Int.tmod (wrap64 (t161 + 1)) t173,t162,t161,true)))) else (if a2 = 20 then (if a1 = true then (spec_DevDo.j3 kj70 a1 a2 a3 (decide ((t162.length:Int) < 4)) t158 t161 t162) else (spec_DevDo.j3 kj70 a1 a2 a3 false t158 t161 t162)) else (spec_DevDo.j3 kj70 a1 a2 a3 false t158 t161 t162))) = some (r1,r2,r3,r4,r5):=by rw [if_neg (show ¬ (false = true) by decide)] at H;exact H
           clear H
           have H:=H1
           clear H1
           by_cases c79:a2 = 16
           ·rw [if_pos c79] at H
            have c79b0:(a2 == 16) = true:=beq_iff_eq.mpr c79
            have c79b1:(a2 != 16) = false:=bne_eq_false_iff_eq.mpr c79
            clear c79
            replace H:=Option.bind_eq_some_iff.mp H
            obtain ⟨t173,A800,H⟩:=H
            replace H:(if t173 = 0 then (none) else (some (t158,Int.tmod (wrap64 (t161 + 1)) t173,t162,t161,true))) = some (r1,r2,r3,r4,r5):=H
            have A80:=Aside0.mk A800
            clear A800
            by_cases c81:t173 = 0
            ·rw [if_pos c81] at H
             exact absurd H (by simp)
            ·rw [if_neg c81] at H
             have c81b0:(t173 == 0) = false:=beq_eq_false_iff_ne.mpr c81
             have c81b1:(t173 != 0) = true:=bne_iff_ne.mpr c81
             simp only [Option.some.injEq,Prod.mk.injEq] at H
             obtain ⟨rfl,rfl,rfl,rfl,rfl⟩:=H
             have hnb82:=NB165_156.out
             have hnc82:=NB156_165.out
             have hnb83:=NB165_157.out
             have hnc83:=NB157_165.out
             have hcz84_0:=bz0 BK165
             have hcz84_1:=bz1 BK165
             have hcz84_2:=bz2 BK165
             have hfz84_0:=bf BK165 0
             have hfz84_1:=bf BK165 1
             have hfz84_2:=bf BK165 2
             go_wp2_with (first | ((with_reducible refine gate_callee (f:=58) rfl ?_);refine goesL_ (some 76) rfl rfl Try.func58 (by kernel_rfl) rfl #[.int .i64 2] rfl ml ?_;(with_reducible refine (spec_LimitOf.calls 2 t173 _ A80.out).mono ?_);rintro e w' ⟨rfl,⟨nd,rfl⟩⟩;refine ⟨_,rfl,?_⟩;(try (rw [drewN_self wc];generalize hq_:World.drewN wc _ = wc;have n0_:Aside0 (Kd.R (Kd.int .i64) 3 wc w.heap.size (fun k_=>some k_ ≠ (.slice Ao17 t162.length co17:Value).ownBlock) (.slice Ao13 t158.length co13) t158):=⟨by rw [← hq_];exact (mr HO_166000)⟩;have n1_:Aside0 (Kd.Q (Kd.int .i64) 3 wc w.heap.size (fun k_=>some k_ ≠ (.slice Ao13 t158.length co13:Value).ownBlock) (.slice Ao17 t162.length co17) t162):=⟨by rw [← hq_];exact (mq HO_166002)⟩;have n2_:Aside0 (wc.heap[gb156]? = some (.cells #[.slice A0_0 l0_0.length c0_0,.int .i64 a0_1,.slice A0_2 l0_2.length c0_2] 26 (0,0))):=⟨by rw [← hq_];exact (mz BK156)⟩;have n3_:Aside0 (wc.heap[gb157]? = some (.cells #[.slice none 0 0,.int .i64 0,.slice none 0 0] 26 (0,0))):=⟨by rw [← hq_];exact (mz BK157)⟩;have n4_:Aside0 (wc.heap[gb165]? = some (.cells #[.slice Ao13 t158.length co13,.int .i64 t161,.slice Ao17 t162.length co17] 26 (0,0))):=⟨by rw [← hq_];exact (mz BK165)⟩;have n5_:Aside0 (Below w.heap.size w wc):=⟨by rw [← hq_];exact (mb HB)⟩;clear HO_166000 HO_166002 BK156 BK157 BK165 HB hq_;have HO_166000:=n0_;have HO_166002:=n1_;have BK156:=n2_;have BK157:=n3_;have BK165:=n4_;have HB:=n5_;clear n0_ n1_ n2_ n3_ n4_ n5_));have hnb85:=NB157_156.out;have hnc85:=NB156_157.out;have hcz86_0:=bz0 BK157;have hcz86_1:=bz1 BK157;have hcz86_2:=bz2 BK157;have hfz86_0:=bf BK157 0;have hfz86_1:=bf BK157 1;have hfz86_2:=bf BK157 2;have hcz84_0:=bz0 BK165;have hcz84_1:=bz1 BK165;have hcz84_2:=bz2 BK165;have hfz84_0:=bf BK165 0;have hfz84_1:=bf BK165 1;have hfz84_2:=bf BK165 2))
             refine bodyPost_ret (results_ctt rfl _ _ gb157 26 #[.slice Ao13 t158.length co13,.int .i64 (Int.tmod (wrap64 (t161 + 1)) t173),.slice Ao17 t162.length co17] (0,0) _ rfl (by refine ms ?_;refine blk_put (cs:=#[.slice Ao13 t158.length co13,.int .i64 (Int.tmod (wrap64 (t161 + 1)) t173),.slice none 0 0]) ?_ 2 _ rfl;refine ms ?_;refine blk_put (cs:=#[.slice Ao13 t158.length co13,.int .i64 0,.slice none 0 0]) ?_ 1 _ rfl;refine ms ?_;refine blk_put (cs:=#[.slice none 0 0,.int .i64 0,.slice none 0 0]) ?_ 0 _ rfl;refine ms ?_;refine blk_far ?_ NB157_165.out _;refine ms ?_;exact BK157.out) Try.underlying26 rfl (by kernel_rfl)) rfl ?_
             exact ⟨_,_,by first | rfl | (simp [errW_none,errW_some] <;> rfl) | (simp [*,errW_none,errW_some] <;> rfl),by (with_reducible repeat (first | apply Kd.R_alloc | apply Kd.R_drewN | apply Kd.R_drew));exact Kd.R_mono (Kd.R_far (Kd.R_far (Kd.R_far (Kd.R_far (Kd.R_types (Kd.R_types HO_166000.out BK165.out (by decide)) BK157.out (by decide)) (fun _ hk=>hk.1.2) (.int .i64 (Int.tmod (wrap64 (t161 + 1)) t173))) (fun _ hk=>hk.2) _) (fun _ hk=>hk.2) (.int .i64 (Int.tmod (wrap64 (t161 + 1)) t173))) (fun _ hk=>hk.2) _) (fun _ hk=>hk.1.1),by (with_reducible repeat (first | apply Kd.Q_alloc | apply Kd.Q_drewN | apply Kd.Q_drew));exact Kd.Q_mono (Kd.Q_far (Kd.Q_far (Kd.Q_far (Kd.Q_far (Kd.Q_types (Kd.Q_types HO_166002.out BK165.out (by decide)) BK157.out (by decide)) (fun _ hk=>hk.1.2) (.int .i64 (Int.tmod (wrap64 (t161 + 1)) t173))) (fun _ hk=>hk.2) _) (fun _ hk=>hk.2) (.int .i64 (Int.tmod (wrap64 (t161 + 1)) t173))) (fun _ hk=>hk.2) _) (fun _ hk=>hk.1.1),mb HB⟩
           ·rw [if_neg c79] at H
            have c79b0:(a2 == 16) = false:=beq_eq_false_iff_ne.mpr c79
            have c79b1:(a2 != 16) = true:=bne_iff_ne.mpr c79
            have HC87:=Aside0.mk H
            clear H
            go_upto_region 16 with (fail)
            go_cut [81] (fun v81 wc=>∃ (kq:Nat) (x81_86:Bool),v81 = .bool x81_86 ∧ Aside0 (spec_DevDo.j3 kq a1 a2 a3 x81_86 t158 t161 t162 = some (r1,r2,r3,r4,r5)) ∧ Aside0 (kq ≤ kj70) ∧ Aside0 (Kd.R (Kd.int .i64) 3 wc w.heap.size (fun k_=>some k_ ≠ ((.slice Ao17 t162.length co17):Value).ownBlock) (.slice Ao13 t158.length co13) t158) ∧ Aside0 (Kd.Q (Kd.int .i64) 3 wc w.heap.size (fun k_=>some k_ ≠ ((.slice Ao13 t158.length co13):Value).ownBlock) (.slice Ao17 t162.length co17) t162) ∧ Aside0 (wc.heap[gb156]? = some (.cells #[(.slice A0_0 l0_0.length c0_0),.int .i64 a0_1,(.slice A0_2 l0_2.length c0_2)] 26 (0,0))) ∧ Aside0 (wc.heap[gb157]? = some (.cells #[(.slice none 0 0),.int .i64 0,(.slice none 0 0)] 26 (0,0))) ∧ Aside0 (wc.heap[gb165]? = some (.cells #[(.slice Ao13 t158.length co13),.int .i64 t161,(.slice Ao17 t162.length co17)] 26 (0,0))) ∧ Aside0 (Below w.heap.size w wc))
            case first =>
             have H:=HC87.out
             clear HC87
             by_cases c88:a2 = 20
             ·rw [if_pos c88] at H
              have c88b0:(a2 == 20) = true:=beq_iff_eq.mpr c88
              have c88b1:(a2 != 20) = false:=bne_eq_false_iff_eq.mpr c88
              clear c88
              (first | rw [c88b0] | (simp only [i64_w,i32_w];rw [c88b0]) | skip)
              by_cases c89:a1 = true
              ·subst c89
               have H1:(spec_DevDo.j3 kj70 true a2 a3 (decide ((t162.length:Int) < 4)) t158 t161 t162) = some (r1,r2,r3,r4,r5):=by rw [if_pos rfl] at H;exact H
               clear H
               have H:=H1
               clear H1
               have H':=Aside0.mk H
               clear H
               have hnb90:=NB165_156.out
               have hnc90:=NB156_165.out
               have hnb91:=NB165_157.out
               have hnc91:=NB157_165.out
               have hcz92_0:=bz0 BK165
               have hcz92_1:=bz1 BK165
               have hcz92_2:=bz2 BK165
               have hfz92_0:=bf BK165 0
               have hfz92_1:=bf BK165 1
               have hfz92_2:=bf BK165 2
               go_wp2
               go_meet
               case rel=>exact ⟨_,(decide ((t162.length:Int) < 4)),(by first | rfl | (simp;done) | (simp [*];done)),H',⟨by have:=HJ5.out;have:=HJ45.out;have:=HJ70.out;first | omega | exact Nat.le_refl _⟩,⟨mr HO_166000⟩,⟨mq HO_166002⟩,⟨mz BK156⟩,⟨mz BK157⟩,⟨mz BK165⟩,⟨mb HB⟩⟩
              ·replace c89:=Bool.eq_false_iff.mpr c89
               subst c89
               have H1:(spec_DevDo.j3 kj70 false a2 a3 false t158 t161 t162) = some (r1,r2,r3,r4,r5):=by rw [if_neg (show ¬ (false = true) by decide)] at H;exact H
               clear H
               have H:=H1
               clear H1
               have H':=Aside0.mk H
               clear H
               go_wp2
               go_meet
               case rel=>exact ⟨_,(false),(by first | rfl | (simp;done) | (simp [*];done)),H',⟨by have:=HJ5.out;have:=HJ45.out;have:=HJ70.out;first | omega | exact Nat.le_refl _⟩,⟨mr HO_166000⟩,⟨mq HO_166002⟩,⟨mz BK156⟩,⟨mz BK157⟩,⟨mz BK165⟩,⟨mb HB⟩⟩
             ·rw [if_neg c88] at H
              have c88b0:(a2 == 20) = false:=beq_eq_false_iff_ne.mpr c88
              have c88b1:(a2 != 20) = true:=bne_iff_ne.mpr c88
              (first | rw [c88b0] | (simp only [i64_w,i32_w];rw [c88b0]) | skip)
              have H':=Aside0.mk H
              clear H
              go_wp2
              go_meet
              case rel=>exact ⟨_,(false),(by first | rfl | (simp;done) | (simp [*];done)),H',⟨by have:=HJ5.out;have:=HJ45.out;have:=HJ70.out;first | omega | exact Nat.le_refl _⟩,⟨mr HO_166000⟩,⟨mq HO_166002⟩,⟨mz BK156⟩,⟨mz BK157⟩,⟨mz BK165⟩,⟨mb HB⟩⟩
            case rest =>
             clear HC87
             try clear c40
             try clear c49
             try clear c63
             try clear c73
             try clear c79
             try clear c79b0
             try clear c79b1
             try clear hcz10_0
             try clear hcz10_1
             try clear hcz10_2
             try clear hcz16_0
             try clear hcz16_1
             try clear hcz16_2
             try clear hfz10_0
             try clear hfz10_1
             try clear hfz10_2
             try clear hfz16_0
             try clear hfz16_1
             try clear hfz16_2
             obtain ⟨kq,x81_86,rfl,HA,HJ86,HO_166000,HO_166002,BK156,BK157,BK165,HB⟩:=hcut
             cases kq with
             | zero=>exact absurd HA.out (by simp [spec_DevDo.j3])
             | succ kj86 =>
              have H:=HA.out
              clear HA
              simp only [spec_DevDo.j3] at H
              by_cases c93:x81_86 = true
              ·subst c93
               have H1:(if t162.length < 17592186044416 then (some (t158,t161,(t162 ++ [a3]),a3,true)) else (none)) = some (r1,r2,r3,r4,r5):=by rw [if_pos rfl] at H;exact H
               clear H
               have H:=H1
               clear H1
               by_cases c94:t162.length < 17592186044416
               ·rw [if_pos c94] at H
                have LMc94:=Aside0.mk c94
                clear c94
                obtain ⟨y174,hy174⟩:∃ y_:List Int,y_ = (t162 ++ [a3]):=⟨_,rfl⟩
                replace H:(some (t158,t161,y174,a3,true)) = some (r1,r2,r3,r4,r5):=by first | (rw [hy174];with_reducible exact H) | (have H2_:=(Option.bind_some _ _).symm.trans H;rw [hy174];with_reducible exact H2_) | (have H2_:=(Option.bind_some _ _).symm.trans H;with_reducible exact H2_) | with_reducible exact H | (rw [hy174];exact H) | exact H
                have Ny174:=Aside0.mk hy174
                clear hy174
                simp only [Option.some.injEq,Prod.mk.injEq] at H
                obtain ⟨rfl,rfl,rfl,rfl,rfl⟩:=H
                have hnb95:=NB165_156.out
                have hnc95:=NB156_165.out
                have hnb96:=NB165_157.out
                have hnc96:=NB157_165.out
                have hcz97_0:=bz0 BK165
                have hcz97_1:=bz1 BK165
                have hcz97_2:=bz2 BK165
                have hfz97_0:=bf BK165 0
                have hfz97_1:=bf BK165 1
                have hfz97_2:=bf BK165 2
                go_wp2_with (first | ((with_reducible refine gate_builtin (b:=.append) (xs:=#[.tmp 94,.tmp 96]) rfl ?_);(try (refine gate_guard (by rfl) ?_;dsimp only));at_builtin;refine Kd.Q_append (Kd.int .i64) (w0:=w) w.heap.size rfl (.tmp 94) (.tmp 96) 24 3 (.int .i64 0) 8 rfl Try.underlying24 info3 rfl (by decide) (by omega) (.slice Ao17 t162.length co17) t162 a3 [.int .i64 a3] (fun k_=>some k_ ≠ (.slice Ao13 t158.length co13:Value).ownBlock) (fun _=>False) rfl rfl ?aP (fun _ hk=>hk.elim) ?aF ?aO ?aB ?aS ?aL ?_;(case aP=>exact rfl);(case aB=>exact (mb HB));(case aF=>exact (fun k_ hk=>Kd.fresh' (Kd.R_lt (mr HO_166000)) k_ hk));(case aO=>exact (mq HO_166002));(case aS=>exact (below_size (mb HB)));(case aL=>have:=LMc94.out;omega);intro v175 w98 ho hb hg hat;rw [← Ny174.out] at ho;have n0_:=Az (Kd.R_after (ok:=(fun _=>True)) (by (with_reducible repeat (first | apply Kd.R_alloc | apply Kd.R_drewN | apply Kd.R_drew));exact Kd.R_mono HO_166000.out (fun _ hk=>⟨trivial,hk⟩)) hg hat);have n1_:=Az (blk_grown (mz BK156) hg (Kd.Q_ne HO_166002.out BK156.out (by decide)));have n2_:=Az (blk_grown (mz BK157) hg (Kd.Q_ne HO_166002.out BK157.out (by decide)));have n3_:=Az (blk_grown (mz BK165) hg (Kd.Q_ne HO_166002.out BK165.out (by decide)));have n4_:=Az (hb);have n5_:=Az (ho);clear HO_166000 BK156 BK157 BK165 HB HO_166002;have HO_166000:=n0_;have BK156:=n1_;have BK157:=n2_;have BK165:=n3_;have HB:=n4_;have HO176:=n5_;clear n0_ n1_ n2_ n3_ n4_ n5_ ho hb hg hat;obtain ⟨Ao99,co99,eo99,_⟩:=Kd.Q_slice HO176.out;subst eo99;have hcz100_0:=bz0 BK165;have hcz100_1:=bz1 BK165;have hcz100_2:=bz2 BK165;have hfz100_0:=bf BK165 0;have hfz100_1:=bf BK165 1;have hfz100_2:=bf BK165 2;have hnb101:=NB157_156.out;have hnc101:=NB156_157.out;have hcz102_0:=bz0 BK157;have hcz102_1:=bz1 BK157;have hcz102_2:=bz2 BK157;have hfz102_0:=bf BK157 0;have hfz102_1:=bf BK157 1;have hfz102_2:=bf BK157 2))
                refine bodyPost_ret (results_ctt rfl _ _ gb157 26 #[.slice Ao13 t158.length co13,.int .i64 t161,.slice Ao99 y174.length co99] (0,0) _ rfl (by refine ms ?_;refine blk_put (cs:=#[.slice Ao13 t158.length co13,.int .i64 t161,.slice none 0 0]) ?_ 2 _ rfl;refine ms ?_;refine blk_put (cs:=#[.slice Ao13 t158.length co13,.int .i64 0,.slice none 0 0]) ?_ 1 _ rfl;refine ms ?_;refine blk_put (cs:=#[.slice none 0 0,.int .i64 0,.slice none 0 0]) ?_ 0 _ rfl;refine ms ?_;refine blk_far ?_ NB157_165.out _;refine ms ?_;exact BK157.out) Try.underlying26 rfl (by kernel_rfl)) rfl ?_
                exact ⟨_,_,by first | rfl | (simp [errW_none,errW_some] <;> rfl) | (simp [*,errW_none,errW_some] <;> rfl),by (with_reducible repeat (first | apply Kd.R_alloc | apply Kd.R_drewN | apply Kd.R_drew));exact Kd.R_mono (Kd.R_far (Kd.R_far (Kd.R_far (Kd.R_far (Kd.R_types (Kd.R_types HO_166000.out BK165.out (by decide)) BK157.out (by decide)) (fun _ hk=>hk.1.2) _) (fun _ hk=>hk.2) _) (fun _ hk=>hk.2) _) (fun _ hk=>hk.2) _) (fun _ hk=>hk.1.1.2),by (with_reducible repeat (first | apply Kd.Q_alloc | apply Kd.Q_drewN | apply Kd.Q_drew));exact Kd.Q_mono (Kd.Q_far (Kd.Q_far (Kd.Q_far (Kd.Q_far (Kd.Q_types (Kd.Q_types HO176.out BK165.out (by decide)) BK157.out (by decide)) (fun _ hk=>hk.1.2) _) (fun _ hk=>hk.2) _) (fun _ hk=>hk.2) _) (fun _ hk=>hk.2) _) (fun _ hk=>hk.1.1),mb HB⟩
               ·rw [if_neg c94] at H
                exact absurd H (by simp)
              ·replace c93:=Bool.eq_false_iff.mpr c93
               subst c93
               have H1:(if a2 = 20 then (if a1 = true then (some (t158,t161,t162,0,false)) else (if (t162.length:Int) > 0 then (if 0 < (t162.length:Int) then (if 1 ≤ (t162.length:Int) then (some (t158,t161,(t162.drop (1:Int).toNat),rd t162 0,true)) else (none)) else (none)) else (some (t158,t161,t162,0,false)))) else (some (t158,t161,t162,0,false))) = some (r1,r2,r3,r4,r5):=by rw [if_neg (show ¬ (false = true) by decide)] at H;exact H
               clear H
               have H:=H1
               clear H1
               by_cases c103:a2 = 20
               ·rw [if_pos c103] at H
                have c103b0:(a2 == 20) = true:=beq_iff_eq.mpr c103
                have c103b1:(a2 != 20) = false:=bne_eq_false_iff_eq.mpr c103
                clear c103
                by_cases c104:a1 = true
                ·subst c104
                 have H1:(some (t158,t161,t162,0,false)) = some (r1,r2,r3,r4,r5):=by rw [if_pos rfl] at H;exact H
                 clear H
                 have H:=H1
                 clear H1
                 simp only [Option.some.injEq,Prod.mk.injEq] at H
                 obtain ⟨rfl,rfl,rfl,rfl,rfl⟩:=H
                 have hnb105:=NB165_156.out
                 have hnc105:=NB156_165.out
                 have hnb106:=NB165_157.out
                 have hnc106:=NB157_165.out
                 have hcz107_0:=bz0 BK165
                 have hcz107_1:=bz1 BK165
                 have hcz107_2:=bz2 BK165
                 have hfz107_0:=bf BK165 0
                 have hfz107_1:=bf BK165 1
                 have hfz107_2:=bf BK165 2
                 have hnb108:=NB157_156.out
                 have hnc108:=NB156_157.out
                 have hcz109_0:=bz0 BK157
                 have hcz109_1:=bz1 BK157
                 have hcz109_2:=bz2 BK157
                 have hfz109_0:=bf BK157 0
                 have hfz109_1:=bf BK157 1
                 have hfz109_2:=bf BK157 2
                 go_wp2
                 refine bodyPost_ret (results_ctt rfl _ _ gb157 26 #[.slice Ao13 t158.length co13,.int .i64 t161,.slice Ao17 t162.length co17] (0,0) _ rfl (by refine ms ?_;refine blk_put (cs:=#[.slice Ao13 t158.length co13,.int .i64 t161,.slice none 0 0]) ?_ 2 _ rfl;refine ms ?_;refine blk_put (cs:=#[.slice Ao13 t158.length co13,.int .i64 0,.slice none 0 0]) ?_ 1 _ rfl;refine ms ?_;refine blk_put (cs:=#[.slice none 0 0,.int .i64 0,.slice none 0 0]) ?_ 0 _ rfl;refine ms ?_;exact BK157.out) Try.underlying26 rfl (by kernel_rfl)) rfl ?_
                 exact ⟨_,_,by first | rfl | (simp [errW_none,errW_some] <;> rfl) | (simp [*,errW_none,errW_some] <;> rfl),by (with_reducible repeat (first | apply Kd.R_alloc | apply Kd.R_drewN | apply Kd.R_drew));exact Kd.R_mono (Kd.R_far (Kd.R_far (Kd.R_far (Kd.R_types HO_166000.out BK157.out (by decide)) (fun _ hk=>hk.2) _) (fun _ hk=>hk.2) _) (fun _ hk=>hk.2) _) (fun _ hk=>hk.1),by (with_reducible repeat (first | apply Kd.Q_alloc | apply Kd.Q_drewN | apply Kd.Q_drew));exact Kd.Q_mono (Kd.Q_far (Kd.Q_far (Kd.Q_far (Kd.Q_types HO_166002.out BK157.out (by decide)) (fun _ hk=>hk.2) _) (fun _ hk=>hk.2) _) (fun _ hk=>hk.2) _) (fun _ hk=>hk.1),mb HB⟩
                ·replace c104:=Bool.eq_false_iff.mpr c104
                 subst c104
                 have H1:(if (t162.length:Int) > 0 then (if 0 < (t162.length:Int) then (if 1 ≤ (t162.length:Int) then (some (t158,t161,(t162.drop (1:Int).toNat),rd t162 0,true)) else (none)) else (none)) else (some (t158,t161,t162,0,false))) = some (r1,r2,r3,r4,r5):=by rw [if_neg (show ¬ (false = true) by decide)] at H;exact H
                 clear H
                 have H:=H1
                 clear H1
                 by_cases c110:(t162.length:Int) > 0
                 ·rw [if_pos c110] at H
                  have c110b0:decide (0 < (t162.length:Int)) = true:=decide_eq_true c110
                  have c110b1:decide (0 < t162.length) = true:=decide_eq_true (by omega)
                  clear c110
                  by_cases c111:0 < (t162.length:Int)
                  ·rw [if_pos c111] at H
                   have c111b0:decide (0 < (t162.length:Int)) = true:=decide_eq_true c111
                   have c111b1:decide (0 < t162.length) = true:=decide_eq_true (by omega)
                   clear c111
                   by_cases c112:1 ≤ (t162.length:Int)
                   ·rw [if_pos c112] at H
                    have c112b0:=eq_true c112
                    have c112b1:decide (1 ≤ (t162.length:Int)) = true:=decide_eq_true c112
                    clear c112
                    obtain ⟨y178,hy178⟩:∃ y_:List Int,y_ = (t162.drop (1:Int).toNat):=⟨_,rfl⟩
                    replace H:(some (t158,t161,y178,rd t162 0,true)) = some (r1,r2,r3,r4,r5):=by first | (rw [hy178];with_reducible exact H) | (have H2_:=(Option.bind_some _ _).symm.trans H;rw [hy178];with_reducible exact H2_) | (have H2_:=(Option.bind_some _ _).symm.trans H;with_reducible exact H2_) | with_reducible exact H | (rw [hy178];exact H) | exact H
                    have Ny178:=Aside0.mk hy178
                    clear hy178
                    simp only [Option.some.injEq,Prod.mk.injEq] at H
                    obtain ⟨rfl,rfl,rfl,rfl,rfl⟩:=H
                    have hnb113:=NB165_156.out
                    have hnc113:=NB156_165.out
                    have hnb114:=NB165_157.out
                    have hnc114:=NB157_165.out
                    have hcz115_0:=bz0 BK165
                    have hcz115_1:=bz1 BK165
                    have hcz115_2:=bz2 BK165
                    have hfz115_0:=bf BK165 0
                    have hfz115_1:=bf BK165 1
                    have hfz115_2:=bf BK165 2
                    have p177:0 ≤ (0:Int):=(by omega)
                    have q177:0 < (t162.length:Int):=of_decide_eq_true (by first | (with_reducible assumption) | assumption)
                    obtain ⟨ad177,e177,hx177_0⟩:=Kd.at_int (Kd.Q_reads' HO_166002.out).2.2 0 p177 q177
                    cases e177
                    have qi177:(0 < t162.length) = True:=eq_true (by omega)
                    (try rw [show ((0:Int)).toNat = 0 from rfl] at hx177_0)
                    (try rw [Addr.add_zero'] at hx177_0)
                    replace p177:=eq_true p177
                    replace q177:=eq_true q177
                    have q116:(1:Int) ≤ ((t162.length:Int):Int):=of_decide_eq_true (by first | (with_reducible assumption) | assumption)
                    obtain ⟨i0116,hi0116,_,hsz116,_⟩:=info_parts info3
                    have hcut116:=cut_from (P:=Try.prog) 24 3 .i64 Try.underlying24 hi0116 1 hsz116 (some ad177) t162.length co17 1 (by omega) q116
                    have hr116:=Kd.Q_drop (k:=(1:Int).toNat) HO_166002.out (by omega)
                    obtain ⟨A116,hA116⟩:∃ A1,A1 = (if co17 = (1:Int).toNat then (some ad177) else ((some ad177):Option Addr).map (·.add ((1:Int).toNat * 1))):=⟨_,rfl⟩
                    obtain ⟨c116,hc116⟩:∃ c1,c1 = co17 - (1:Int).toNat:=⟨_,rfl⟩
                    have hy116:y178.length = t162.length - (1:Int).toNat:=(by rw [Ny178.out,List.length_drop])
                    rw [← Ny178.out] at hr116
                    rw [← hy116,← hA116,← hc116] at hcut116
                    replace hr116:Kd.Q (Kd.int .i64) 3 wc w.heap.size (fun k_=>some k_ ≠ (.slice Ao13 t158.length co13:Value).ownBlock) (.slice A116 y178.length c116) y178:=(by rw [hA116,hc116,hy116];exact hr116)
                    have HE116:Aside0 ((Value.slice A116 y178.length c116).ownBlock = (.slice (some ad177) t162.length co17:Value).ownBlock):=⟨by rw [hA116];split <;> (cases ((some ad177):Option Addr) <;> rfl)⟩
                    clear hy116 hi0116 hsz116 HO_166002 hA116 hc116
                    have HO180:=Aside0.mk hr116
                    clear hr116
                    replace q116:=eq_true q116
                    have n_:=Az (Kd.R_mono (ok':=fun k_=>some k_ ≠ (.slice A116 y178.length c116:Value).ownBlock) HO_166000.out (fun k_ hk=>(by rw [HE116.out];exact hk)))
                    clear HO_166000
                    have HO_166000:=n_
                    clear n_
                    have hnb117:=NB157_156.out
                    have hnc117:=NB156_157.out
                    have hcz118_0:=bz0 BK157
                    have hcz118_1:=bz1 BK157
                    have hcz118_2:=bz2 BK157
                    have hfz118_0:=bf BK157 0
                    have hfz118_1:=bf BK157 1
                    have hfz118_2:=bf BK157 2
                    go_wp2
                    refine bodyPost_ret (results_ctt rfl _ _ gb157 26 #[.slice Ao13 t158.length co13,.int .i64 t161,.slice A116 y178.length c116] (0,0) _ rfl (by refine ms ?_;refine blk_put (cs:=#[.slice Ao13 t158.length co13,.int .i64 t161,.slice none 0 0]) ?_ 2 _ rfl;refine ms ?_;refine blk_put (cs:=#[.slice Ao13 t158.length co13,.int .i64 0,.slice none 0 0]) ?_ 1 _ rfl;refine ms ?_;refine blk_put (cs:=#[.slice none 0 0,.int .i64 0,.slice none 0 0]) ?_ 0 _ rfl;refine ms ?_;refine blk_far ?_ NB157_165.out _;refine ms ?_;exact BK157.out) Try.underlying26 rfl (by kernel_rfl)) rfl ?_
                    exact ⟨_,_,by first | rfl | (simp [errW_none,errW_some] <;> rfl) | (simp [*,errW_none,errW_some] <;> rfl),by (with_reducible repeat (first | apply Kd.R_alloc | apply Kd.R_drewN | apply Kd.R_drew));exact Kd.R_mono (Kd.R_far (Kd.R_far (Kd.R_far (Kd.R_far (Kd.R_types (Kd.R_types HO_166000.out BK165.out (by decide)) BK157.out (by decide)) (fun _ hk=>hk.1.2) _) (fun _ hk=>hk.2) _) (fun _ hk=>hk.2) _) (fun _ hk=>hk.2) _) (fun _ hk=>hk.1.1),by (with_reducible repeat (first | apply Kd.Q_alloc | apply Kd.Q_drewN | apply Kd.Q_drew));exact Kd.Q_mono (Kd.Q_far (Kd.Q_far (Kd.Q_far (Kd.Q_far (Kd.Q_types (Kd.Q_types HO180.out BK165.out (by decide)) BK157.out (by decide)) (fun _ hk=>hk.1.2) _) (fun _ hk=>hk.2) _) (fun _ hk=>hk.2) _) (fun _ hk=>hk.2) _) (fun _ hk=>hk.1.1),mb HB⟩
                   ·rw [if_neg c112] at H
                    exact absurd H (by simp)
                  ·rw [if_neg c111] at H
                   exact absurd H (by simp)
                 ·rw [if_neg c110] at H
                  have c110b0:decide (0 < (t162.length:Int)) = false:=decide_eq_false c110
                  have c110b1:decide (0 < t162.length) = false:=decide_eq_false (by omega)
                  clear c110
                  simp only [Option.some.injEq,Prod.mk.injEq] at H
                  obtain ⟨rfl,rfl,rfl,rfl,rfl⟩:=H
                  have hnb119:=NB165_156.out
                  have hnc119:=NB156_165.out
                  have hnb120:=NB165_157.out
                  have hnc120:=NB157_165.out
                  have hcz121_0:=bz0 BK165
                  have hcz121_1:=bz1 BK165
                  have hcz121_2:=bz2 BK165
                  have hfz121_0:=bf BK165 0
                  have hfz121_1:=bf BK165 1
                  have hfz121_2:=bf BK165 2
                  have hnb122:=NB157_156.out
                  have hnc122:=NB156_157.out
                  have hcz123_0:=bz0 BK157
                  have hcz123_1:=bz1 BK157
                  have hcz123_2:=bz2 BK157
                  have hfz123_0:=bf BK157 0
                  have hfz123_1:=bf BK157 1
                  have hfz123_2:=bf BK157 2
                  go_wp2
                  refine bodyPost_ret (results_ctt rfl _ _ gb157 26 #[.slice Ao13 t158.length co13,.int .i64 t161,.slice Ao17 t162.length co17] (0,0) _ rfl (by refine ms ?_;refine blk_put (cs:=#[.slice Ao13 t158.length co13,.int .i64 t161,.slice none 0 0]) ?_ 2 _ rfl;refine ms ?_;refine blk_put (cs:=#[.slice Ao13 t158.length co13,.int .i64 0,.slice none 0 0]) ?_ 1 _ rfl;refine ms ?_;refine blk_put (cs:=#[.slice none 0 0,.int .i64 0,.slice none 0 0]) ?_ 0 _ rfl;refine ms ?_;exact BK157.out) Try.underlying26 rfl (by kernel_rfl)) rfl ?_
                  exact ⟨_,_,by first | rfl | (simp [errW_none,errW_some] <;> rfl) | (simp [*,errW_none,errW_some] <;> rfl),by (with_reducible repeat (first | apply Kd.R_alloc | apply Kd.R_drewN | apply Kd.R_drew));exact Kd.R_mono (Kd.R_far (Kd.R_far (Kd.R_far (Kd.R_types HO_166000.out BK157.out (by decide)) (fun _ hk=>hk.2) _) (fun _ hk=>hk.2) _) (fun _ hk=>hk.2) _) (fun _ hk=>hk.1),by (with_reducible repeat (first | apply Kd.Q_alloc | apply Kd.Q_drewN | apply Kd.Q_drew));exact Kd.Q_mono (Kd.Q_far (Kd.Q_far (Kd.Q_far (Kd.Q_types HO_166002.out BK157.out (by decide)) (fun _ hk=>hk.2) _) (fun _ hk=>hk.2) _) (fun _ hk=>hk.2) _) (fun _ hk=>hk.1),mb HB⟩
               ·rw [if_neg c103] at H
                have c103b0:(a2 == 20) = false:=beq_eq_false_iff_ne.mpr c103
                have c103b1:(a2 != 20) = true:=bne_iff_ne.mpr c103
                simp only [Option.some.injEq,Prod.mk.injEq] at H
                obtain ⟨rfl,rfl,rfl,rfl,rfl⟩:=H
                have hnb124:=NB165_156.out
                have hnc124:=NB156_165.out
                have hnb125:=NB165_157.out
                have hnc125:=NB157_165.out
                have hcz126_0:=bz0 BK165
                have hcz126_1:=bz1 BK165
                have hcz126_2:=bz2 BK165
                have hfz126_0:=bf BK165 0
                have hfz126_1:=bf BK165 1
                have hfz126_2:=bf BK165 2
                have hnb127:=NB157_156.out
                have hnc127:=NB156_157.out
                have hcz128_0:=bz0 BK157
                have hcz128_1:=bz1 BK157
                have hcz128_2:=bz2 BK157
                have hfz128_0:=bf BK157 0
                have hfz128_1:=bf BK157 1
                have hfz128_2:=bf BK157 2
                go_wp2
                refine bodyPost_ret (results_ctt rfl _ _ gb157 26 #[.slice Ao13 t158.length co13,.int .i64 t161,.slice Ao17 t162.length co17] (0,0) _ rfl (by refine ms ?_;refine blk_put (cs:=#[.slice Ao13 t158.length co13,.int .i64 t161,.slice none 0 0]) ?_ 2 _ rfl;refine ms ?_;refine blk_put (cs:=#[.slice Ao13 t158.length co13,.int .i64 0,.slice none 0 0]) ?_ 1 _ rfl;refine ms ?_;refine blk_put (cs:=#[.slice none 0 0,.int .i64 0,.slice none 0 0]) ?_ 0 _ rfl;refine ms ?_;exact BK157.out) Try.underlying26 rfl (by kernel_rfl)) rfl ?_
                exact ⟨_,_,by first | rfl | (simp [errW_none,errW_some] <;> rfl) | (simp [*,errW_none,errW_some] <;> rfl),by (with_reducible repeat (first | apply Kd.R_alloc | apply Kd.R_drewN | apply Kd.R_drew));exact Kd.R_mono (Kd.R_far (Kd.R_far (Kd.R_far (Kd.R_types HO_166000.out BK157.out (by decide)) (fun _ hk=>hk.2) _) (fun _ hk=>hk.2) _) (fun _ hk=>hk.2) _) (fun _ hk=>hk.1),by (with_reducible repeat (first | apply Kd.Q_alloc | apply Kd.Q_drewN | apply Kd.Q_drew));exact Kd.Q_mono (Kd.Q_far (Kd.Q_far (Kd.Q_far (Kd.Q_types HO_166002.out BK157.out (by decide)) (fun _ hk=>hk.2) _) (fun _ hk=>hk.2) _) (fun _ hk=>hk.2) _) (fun _ hk=>hk.1),mb HB⟩
end Go.Proofs.Ythikbgjlcdkoaaa.MFnModels

