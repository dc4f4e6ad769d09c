-- Written for this claim by a program of the session (wip/mark): contracts by hand.
import Derived.Test.YtkolojgkpmbbbaaMFnExactPostsAtx0
import Derived.Test.YtkolojgkpmbbbaaMFnExactPostsAtx1
import Derived.Test.YtkolojgkpmbbbaaMFnExactPostsAtx2
import Derived.Test.YtkolojgkpmbbbaaMFnExactPostsAtx3
import Derived.Test.YtkolojgkpmbbbaaMFnExactPostsAtx4
namespace Go.Proofs.Ytkolojgkpmbbbaa.MFnExactPostsAt
open Go.RowKit Go.Proofs.YtkolojgkpmbbbaaW.PrintWords Go.Proofs.YtkolojgkpmbbbaaW.PrintLast Go.Proofs.YtkolojgkpmbbbaaW.PrintMore
attribute [local go_sem] max2_int min2_int max_two min_two max_three min_three max_four min_four   -- for this text's walks alone
set_option linter.unusedVariables false
set_option linter.unusedSimpArgs false

/-! ### laws_markPostS: function 20: what is held while element i is out -/
structure MidP (w0 w W : World) (P : Nat → Prop) (g n cap : Nat) (xs : List S59) (i : Int) (oki : Nat → Prop) (c : List Value) (v7 : Value) (l : List Int) : Prop where
  h : Kd.H k59 59 W w0.heap.size P (.slice (some ⟨g, 0, none⟩) n cap) xs i oki c
  r : Kd.R (Kd.int .i64) 3 W w0.heap.size oki v7 l
  b : Below w0.heap.size w0 W
  k : Kept w W P
  ne : ∀ k, oki k → k ≠ g
  pg : P g
  bg : w0.heap.size ≤ g
theorem MidP.cell {w0 w W : World} {P : Nat → Prop} {g n cap : Nat} {xs : List S59} {i : Int} {oki : Nat → Prop} {c : List Value} {v7 : Value} {l : List Int} (m : MidP w0 w W P g n cap xs i oki c v7 l) (h0 : 0 ≤ i) (h1 : i < n) (j : Nat) (u : Value) (hu : c[j]? = some u) : W.cell? ⟨g, i.toNat * 8 + j, none⟩ = some u := by
  obtain ⟨_, _, _, _, _, h, _⟩ := Kd.H_raw m.h h0 h1
  exact h j u hu
theorem MidP.frozen {w0 w W : World} {P : Nat → Prop} {g n cap : Nat} {xs : List S59} {i : Int} {oki : Nat → Prop} {c : List Value} {v7 : Value} {l : List Int} (m : MidP w0 w W P g n cap xs i oki c v7 l) (o : Nat) : W.frozen? ⟨g, o, none⟩ = false := by
  obtain ⟨_, f, h⟩ := m.h
  obtain ⟨cells, hc⟩ := Kd.R_typed h g (by simp [Value.ownBlock])
  exact blk_frozen hc o
theorem MidP.put {w0 w W : World} {P : Nat → Prop} {g n cap : Nat} {xs : List S59} {i : Int} {oki : Nat → Prop} {c : List Value} {v7 : Value} {l : List Int} (m : MidP w0 w W P g n cap xs i oki c v7 l) (h0 : 0 ≤ i) (h1 : i < n) (j : Nat) (hj : j < 8) (u : Value) (hu : u.oneCell' = true) {c' : List Value} (hc : c.take j ++ [u] ++ c.drop (j + 1) = c') :
    MidP w0 w (W.setCell ⟨g, i.toNat * 8 + j, none⟩ u) P g n cap xs i oki c' v7 l := by
  subst hc
  have h2 := Kd.H_seg m.h h0 h1 (seg := [u]) (j := j) (show j + 1 ≤ 8 by omega) (fun q hq => by rw [List.mem_singleton.1 hq]; exact hu)
  exact ⟨h2.1, Kd.R_far (p := ⟨g, i.toNat * 8 + j, none⟩) m.r m.ne u, below_set m.b m.bg, m.k.setCell (p := ⟨g, i.toNat * 8 + j, none⟩) (.inl m.pg) u, m.ne, m.pg, m.bg⟩
/-- Behind the call that writes the inner row: the element is put back. -/
theorem MidP.back {w0 w W W1 : World} {P : Nat → Prop} {g n cap : Nat} {xs : List S59} {i : Int} {oki : Nat → Prop} {c : List Value} {v7 : Value} {l l' : List Int} {z : S59} (m : MidP w0 w W P g n cap xs i oki c v7 l) (hP : ∀ k, oki k → P k)
    (hr : Kd.R (Kd.int .i64) 3 W1 w0.heap.size (fun k_ => (oki k_ ∨ W.heap.size ≤ k_)) v7 l') (hb : Below w0.heap.size w0 W1) (hk : Kept W W1 (fun k_ => oki k_)) (hc : c = [.int .i64 z.f0, .int .i64 z.f1, .bool z.f2.f0, .int .i64 z.f2.f1, .int .i64 z.f2.f2, .int .i64 z.f2.f3, .bool z.f2.f4, v7]) (hl : z.f2.f5 = l') :
    Kd.S k59 59 W1 w0.heap.size P (.slice (some ⟨g, 0, none⟩) n cap) (xs.set i.toNat z) ∧ Below w0.heap.size w0 W1 ∧ Kept w W1 P := by
  subst hc; subst hl
  refine ⟨Kd.H_back (okp := oki) (Kd.H_kept m.h hk (fun k _ hn => hn)) (k59_mkM _ _ _ z ?_) (fun k h => h), hb, m.k.then_ hk (fun k h => .inl (hP k h))⟩
  exact Kd.R_mono (Kd.R_tight rfl hr) (fun k hk2 => m.r.1 k hk2.symm)
def laws_markPostS.l0 : Nat → List (S59) → Int → Int → Option (Int × List (S59))
  | 0, _, _, _ => none
  | k + 1, x0_1, x1_1, x5_1 => if x5_1 < (x0_1.length : Int) then (if 0 ≤ x5_1 then ((laws_markIntS.f k (rd_T59 x0_1 x5_1).f2.f5 (wrap64 ((wrap64 ((wrap64 ((wrap64 ((wrap64 ((wrap64 ((wrap64 (x1_1 + 1)) + 1)) + 1)) + 1)) + 1)) + 1)) + 1))).bind fun t_ => (laws_markPostS.l0 k (x0_1.set (x5_1 : Int).toNat (⟨x1_1, (wrap64 (x1_1 + 1)), (⟨((Int.tmod (wrap64 ((wrap64 (x1_1 + 1)) + 1)) 3) == 0), (wrap64 ((wrap64 ((wrap64 (x1_1 + 1)) + 1)) + 1)), (wrap64 ((wrap64 ((wrap64 ((wrap64 (x1_1 + 1)) + 1)) + 1)) + 1)), (wrap64 ((wrap64 ((wrap64 ((wrap64 ((wrap64 (x1_1 + 1)) + 1)) + 1)) + 1)) + 1)), ((Int.tmod (wrap64 ((wrap64 ((wrap64 ((wrap64 ((wrap64 ((wrap64 (x1_1 + 1)) + 1)) + 1)) + 1)) + 1)) + 1)) 3) == 0), t_.2⟩ : S57)⟩ : S59)) t_.1 (wrap64 (x5_1 + 1)))) else (none)) else (some (x1_1, x0_1))
def laws_markPostS.f (k : Nat) (l0 : List (S59)) (a1 : Int) : Option (Int × List (S59)) := laws_markPostS.l0 k l0 a1 0
theorem laws_markPostS.mono_l : ∀ k, (∀ y0 y1 y2, LeO (laws_markPostS.l0 k y0 y1 y2) (laws_markPostS.l0 (k + 1) y0 y1 y2))
  | 0 => fun _ _ _ r h => by simp [laws_markPostS.l0] at h
  | k + 1 => by
    have ih0 := laws_markPostS.mono_l k
    · intro y0 y1 y2
      unfold laws_markPostS.l0
      repeat' first
      | (with_reducible exact ih0 _ _ _)
      | (with_reducible exact laws_markIntS.mono _ _ _)
      | (with_reducible exact LeO.refl _)
      | (with_reducible exact LeO.none _)
      | (with_reducible refine LeO.ite ?_ ?_)
      | (with_reducible refine LeO.bind ?_ (fun _ => ?_))
      | exact ih0 _ _ _
      | exact laws_markIntS.mono _ _ _
      | exact LeO.none _
      | refine LeO.ite ?_ ?_
      | refine LeO.bind ?_ (fun _ => ?_)
theorem laws_markPostS.mono : ∀ a0 a1 k, LeO (laws_markPostS.f k a0 a1) (laws_markPostS.f (k + 1) a0 a1) := by
  intro a0 a1 k
  have ih0 := laws_markPostS.mono_l k
  unfold laws_markPostS.f
  exact ih0 _ _ _
set_option maxHeartbeats 8000000 in
set_option maxRecDepth 100000 in
theorem laws_markPostS.calls (k : Nat) (P0_ : Nat → Prop) (u9000_ : Value) (l0 : List (S59)) (a1 : Int) (r1 : Int) (r2 : List (S59)) (w0 w : World) (hB : Below w0.heap.size w0 w) (ho0 : Kd.S k59 59 w w0.heap.size P0_ u9000_ l0) (h : laws_markPostS.f k l0 a1 = some (r1, r2)) :
    Calls Try.prog 20 #[u9000_, .int .i64 a1] w fun e w' => e = .returned (.int .i64 r1) ∧ Kd.S k59 59 w' w0.heap.size P0_ u9000_ r2 ∧ Below w0.heap.size w0 w' ∧ Kept w w' (fun k_ => P0_ k_) := by
  have HO0 := Aside0.mk ho0
  have HK := Aside0.mk (Kept.refl w (fun k_ => P0_ k_))
  have HB := Aside0.mk hB
  clear hB ho0
  have H' := Aside0.mk (show (laws_markPostS.l0 k l0 a1 0) = some (r1, r2) from h)
  clear h
  go_enter Try.func20, Try.ntmps20
  go_wp2
  go_loopg [1, 5] k (fun kq v1 v5 w' => ∃ (x0_1 : List (S59)) (x1_1 : Int) (x5_1 : Int), v1 = .int .i64 x1_1 ∧ v5 = .int .i64 x5_1 ∧ Aside0 (laws_markPostS.l0 kq x0_1 x1_1 x5_1 = some (r1, r2)) ∧ Aside0 (kq ≤ k) ∧ Aside0 (Kd.S k59 59 w' w0.heap.size P0_ u9000_ x0_1) ∧ Aside0 (Kept w w' (fun k_ => P0_ k_)) ∧ Aside0 (Below w0.heap.size w0 w'))
  case atStart => exact ⟨l0, a1, 0, (by first | rfl | (simp; done) | (simp [*]; done)), (by first | rfl | (simp; done) | (simp [*]; done)), H', ⟨Nat.le_refl _⟩, ⟨by (with_reducible repeat (first | apply Kd.S_alloc | apply Kd.S_drewN | apply Kd.S_drew)); exact HO0.out⟩, ⟨by repeat (first | (with_reducible first | exact HK.out | apply Kept.alloc | apply Kept.drewN | apply Kept.drew) | exact HK.out)⟩, ⟨by repeat (first | (with_reducible first | exact HB.out | apply below_alloc | apply pw_below_drewN | apply below_drew1) | exact HB.out)⟩⟩
  case round =>
    clear H'
    try clear p2
    obtain ⟨x0_1, x1_1, x5_1, rfl, rfl, HA, HK1, HO_0, HK, HB⟩ := hrel
    cases gk with
    | zero => exact absurd HA.out (by simp [laws_markPostS.l0])
    | succ k1 =>
      have H := HA.out
      clear HA
      simp only [laws_markPostS.l0] at H
      by_cases c3 : x5_1 < (x0_1.length : Int)
      · rw [if_pos c3] at H
        have c3b0 : decide (x5_1 < (x0_1.length : Int)) = true := decide_eq_true c3
        have qq_ := Aside0.mk c3
        by_cases c4 : 0 ≤ x5_1
        · rw [if_pos c4] at H
          have c4b0 : decide (0 ≤ x5_1) = true := decide_eq_true c4
          have pp_ := Aside0.mk c4
          replace H := Option.bind_eq_some_iff.mp H
          obtain ⟨⟨t1_, t2_⟩, A0_, H⟩ := H
          have A_ := Aside0.mk A0_
          clear A0_
          obtain ⟨y_, hy_⟩ : ∃ y_ : List (S59), y_ = (x0_1.set (x5_1 : Int).toNat (⟨x1_1, (wrap64 (x1_1 + 1)), (⟨((Int.tmod (wrap64 ((wrap64 (x1_1 + 1)) + 1)) 3) == 0), (wrap64 ((wrap64 ((wrap64 (x1_1 + 1)) + 1)) + 1)), (wrap64 ((wrap64 ((wrap64 ((wrap64 (x1_1 + 1)) + 1)) + 1)) + 1)), (wrap64 ((wrap64 ((wrap64 ((wrap64 ((wrap64 (x1_1 + 1)) + 1)) + 1)) + 1)) + 1)), ((Int.tmod (wrap64 ((wrap64 ((wrap64 ((wrap64 ((wrap64 ((wrap64 (x1_1 + 1)) + 1)) + 1)) + 1)) + 1)) + 1)) 3) == 0), t2_⟩ : S57)⟩ : S59)) := ⟨_, rfl⟩
          replace H : (laws_markPostS.l0 k1 y_ t1_ (wrap64 (x5_1 + 1))) = some (r1, r2) := by rw [hy_]; exact H
          have Ny := Aside0.mk hy_
          clear hy_
          have H' := Aside0.mk H
          clear H
          obtain ⟨go, co, eo, gb, gl, cl⟩ := Kd.S_form HO_0.out (by omega)
          subst eo
          obtain ⟨oki, c, hcl, hM, hcc, hfr, hok, hH⟩ := Kd.S_elem HO_0.out z59 x5_1 c4 c3
          obtain ⟨v7, rfl, g7⟩ := k59_openM hM
          obtain ⟨z_, hz_⟩ : ∃ z_ : S59, z_ = rd_T59 x0_1 x5_1 := ⟨_, rfl⟩
          have A_ : Aside0 (laws_markIntS.f k1 z_.f2.f5 (wrap64 ((wrap64 ((wrap64 ((wrap64 ((wrap64 ((wrap64 ((wrap64 (x1_1 + 1)) + 1)) + 1)) + 1)) + 1)) + 1)) + 1)) = some (t1_, t2_)) := ⟨by rw [hz_]; exact A_.out⟩
          have m_ : MidP w0 w wr P0_ go x0_1.length co x0_1 x5_1 oki [.int .i64 z_.f0, .int .i64 z_.f1, .bool z_.f2.f0, .int .i64 z_.f2.f1, .int .i64 z_.f2.f2, .int .i64 z_.f2.f3, .bool z_.f2.f4, v7] v7 z_.f2.f5 := (by rw [hz_]; exact ⟨hH, g7, HB.out, HK.out, fun k h => (hok k h).2, HO_0.out.choose_spec.1 go (by simp [Value.ownBlock]), gb⟩)
          have M0 := Aside0.mk m_
          have hok_ := Aside0.mk hok
          clear m_ hH g7 hcc hfr hok hM hcl gl cl HO_0 HB HK gb
          have hx0 : wr.cell? ⟨go, (x5_1 : Int).toNat * 8, none⟩ = some (.int .i64 z_.f0) := M0.out.cell c4 c3 0 _ rfl
          have hf0 := M0.out.frozen ((x5_1 : Int).toNat * 8)
          replace c4 := eq_true c4
          replace c3 := eq_true c3
          go_wp2_with (first | ((with_reducible refine gate_store (t := 3) (p := 16) rfl ?_); refine store_event (t := 3) (p := 16) (v := ?vo_w0) (w1 := (wr.setCell ⟨go, (x5_1 : Int).toNat * 8, none⟩ (.int .i64 x1_1))) ?hg ?ho ?hn ?hr ?_; (case ho => rfl); (case hg => rfl); (case hn => rfl); (case hr => first | (go_simp; done) | (go_simp; rfl)); intro w_1 hw_; have m_ : MidP w0 w w_1 P0_ go x0_1.length co x0_1 x5_1 oki [.int .i64 x1_1, .int .i64 z_.f1, .bool z_.f2.f0, .int .i64 z_.f2.f1, .int .i64 z_.f2.f2, .int .i64 z_.f2.f3, .bool z_.f2.f4, v7] v7 z_.f2.f5 := (by rw [hw_]; exact M0.out.put pp_.out qq_.out 0 (by decide) _ rfl rfl); have M1 := Aside0.mk m_; clear m_ hw_ M0; have hx1 := M1.out.cell pp_.out qq_.out 1 _ rfl; have hf1 := M1.out.frozen ((x5_1 : Int).toNat * 8 + 1)) | ((with_reducible refine gate_store (t := 3) (p := 23) rfl ?_); refine store_event (t := 3) (p := 23) (v := ?vo_w1) (w1 := (w_1.setCell ⟨go, (x5_1 : Int).toNat * 8 + 1, none⟩ (.int .i64 (wrap64 (x1_1 + 1))))) ?hg ?ho ?hn ?hr ?_; (case ho => rfl); (case hg => rfl); (case hn => rfl); (case hr => first | (go_simp; done) | (go_simp; rfl)); intro w_2 hw_; have m_ : MidP w0 w w_2 P0_ go x0_1.length co x0_1 x5_1 oki [.int .i64 x1_1, .int .i64 (wrap64 (x1_1 + 1)), .bool z_.f2.f0, .int .i64 z_.f2.f1, .int .i64 z_.f2.f2, .int .i64 z_.f2.f3, .bool z_.f2.f4, v7] v7 z_.f2.f5 := (by rw [hw_]; exact M1.out.put pp_.out qq_.out 1 (by decide) _ rfl rfl); have M2 := Aside0.mk m_; clear m_ hw_ M1; have hx2 := M2.out.cell pp_.out qq_.out 2 _ rfl; have hf2 := M2.out.frozen ((x5_1 : Int).toNat * 8 + 2)) | ((with_reducible refine gate_store (t := 4) (p := 33) rfl ?_); refine store_event (t := 4) (p := 33) (v := ?vo_w2) (w1 := (w_2.setCell ⟨go, (x5_1 : Int).toNat * 8 + 2, none⟩ (.bool ((Int.tmod (wrap64 ((wrap64 (x1_1 + 1)) + 1)) 3) == 0)))) ?hg ?ho ?hn ?hr ?_; (case ho => rfl); (case hg => rfl); (case hn => rfl); (case hr => first | (go_simp; done) | (go_simp; rfl)); intro w_3 hw_; have m_ : MidP w0 w w_3 P0_ go x0_1.length co x0_1 x5_1 oki [.int .i64 x1_1, .int .i64 (wrap64 (x1_1 + 1)), .bool ((Int.tmod (wrap64 ((wrap64 (x1_1 + 1)) + 1)) 3) == 0), .int .i64 z_.f2.f1, .int .i64 z_.f2.f2, .int .i64 z_.f2.f3, .bool z_.f2.f4, v7] v7 z_.f2.f5 := (by rw [hw_]; exact M2.out.put pp_.out qq_.out 2 (by decide) _ rfl rfl); have M3 := Aside0.mk m_; clear m_ hw_ M2; have hx3 := M3.out.cell pp_.out qq_.out 3 _ rfl; have hf3 := M3.out.frozen ((x5_1 : Int).toNat * 8 + 3)) | ((with_reducible refine gate_store (t := 3) (p := 41) rfl ?_); refine store_event (t := 3) (p := 41) (v := ?vo_w3) (w1 := (w_3.setCell ⟨go, (x5_1 : Int).toNat * 8 + 3, none⟩ (.int .i64 (wrap64 ((wrap64 ((wrap64 (x1_1 + 1)) + 1)) + 1))))) ?hg ?ho ?hn ?hr ?_; (case ho => rfl); (case hg => rfl); (case hn => rfl); (case hr => first | (go_simp; done) | (go_simp; rfl)); intro w_4 hw_; have m_ : MidP w0 w w_4 P0_ go x0_1.length co x0_1 x5_1 oki [.int .i64 x1_1, .int .i64 (wrap64 (x1_1 + 1)), .bool ((Int.tmod (wrap64 ((wrap64 (x1_1 + 1)) + 1)) 3) == 0), .int .i64 (wrap64 ((wrap64 ((wrap64 (x1_1 + 1)) + 1)) + 1)), .int .i64 z_.f2.f2, .int .i64 z_.f2.f3, .bool z_.f2.f4, v7] v7 z_.f2.f5 := (by rw [hw_]; exact M3.out.put pp_.out qq_.out 3 (by decide) _ rfl rfl); have M4 := Aside0.mk m_; clear m_ hw_ M3; have hx4 := M4.out.cell pp_.out qq_.out 4 _ rfl; have hf4 := M4.out.frozen ((x5_1 : Int).toNat * 8 + 4)) | ((with_reducible refine gate_store (t := 3) (p := 49) rfl ?_); refine store_event (t := 3) (p := 49) (v := ?vo_w4) (w1 := (w_4.setCell ⟨go, (x5_1 : Int).toNat * 8 + 4, none⟩ (.int .i64 (wrap64 ((wrap64 ((wrap64 ((wrap64 (x1_1 + 1)) + 1)) + 1)) + 1))))) ?hg ?ho ?hn ?hr ?_; (case ho => rfl); (case hg => rfl); (case hn => rfl); (case hr => first | (go_simp; done) | (go_simp; rfl)); intro w_5 hw_; have m_ : MidP w0 w w_5 P0_ go x0_1.length co x0_1 x5_1 oki [.int .i64 x1_1, .int .i64 (wrap64 (x1_1 + 1)), .bool ((Int.tmod (wrap64 ((wrap64 (x1_1 + 1)) + 1)) 3) == 0), .int .i64 (wrap64 ((wrap64 ((wrap64 (x1_1 + 1)) + 1)) + 1)), .int .i64 (wrap64 ((wrap64 ((wrap64 ((wrap64 (x1_1 + 1)) + 1)) + 1)) + 1)), .int .i64 z_.f2.f3, .bool z_.f2.f4, v7] v7 z_.f2.f5 := (by rw [hw_]; exact M4.out.put pp_.out qq_.out 4 (by decide) _ rfl rfl); have M5 := Aside0.mk m_; clear m_ hw_ M4; have hx5 := M5.out.cell pp_.out qq_.out 5 _ rfl; have hf5 := M5.out.frozen ((x5_1 : Int).toNat * 8 + 5)) | ((with_reducible refine gate_store (t := 3) (p := 57) rfl ?_); refine store_event (t := 3) (p := 57) (v := ?vo_w5) (w1 := (w_5.setCell ⟨go, (x5_1 : Int).toNat * 8 + 5, none⟩ (.int .i64 (wrap64 ((wrap64 ((wrap64 ((wrap64 ((wrap64 (x1_1 + 1)) + 1)) + 1)) + 1)) + 1))))) ?hg ?ho ?hn ?hr ?_; (case ho => rfl); (case hg => rfl); (case hn => rfl); (case hr => first | (go_simp; done) | (go_simp; rfl)); intro w_6 hw_; have m_ : MidP w0 w w_6 P0_ go x0_1.length co x0_1 x5_1 oki [.int .i64 x1_1, .int .i64 (wrap64 (x1_1 + 1)), .bool ((Int.tmod (wrap64 ((wrap64 (x1_1 + 1)) + 1)) 3) == 0), .int .i64 (wrap64 ((wrap64 ((wrap64 (x1_1 + 1)) + 1)) + 1)), .int .i64 (wrap64 ((wrap64 ((wrap64 ((wrap64 (x1_1 + 1)) + 1)) + 1)) + 1)), .int .i64 (wrap64 ((wrap64 ((wrap64 ((wrap64 ((wrap64 (x1_1 + 1)) + 1)) + 1)) + 1)) + 1)), .bool z_.f2.f4, v7] v7 z_.f2.f5 := (by rw [hw_]; exact M5.out.put pp_.out qq_.out 5 (by decide) _ rfl rfl); have M6 := Aside0.mk m_; clear m_ hw_ M5; have hx6 := M6.out.cell pp_.out qq_.out 6 _ rfl; have hf6 := M6.out.frozen ((x5_1 : Int).toNat * 8 + 6)) | ((with_reducible refine gate_store (t := 4) (p := 67) rfl ?_); refine store_event (t := 4) (p := 67) (v := ?vo_w6) (w1 := (w_6.setCell ⟨go, (x5_1 : Int).toNat * 8 + 6, none⟩ (.bool ((Int.tmod (wrap64 ((wrap64 ((wrap64 ((wrap64 ((wrap64 ((wrap64 (x1_1 + 1)) + 1)) + 1)) + 1)) + 1)) + 1)) 3) == 0)))) ?hg ?ho ?hn ?hr ?_; (case ho => rfl); (case hg => rfl); (case hn => rfl); (case hr => first | (go_simp; done) | (go_simp; rfl)); intro w_7 hw_; have m_ : MidP w0 w w_7 P0_ go x0_1.length co x0_1 x5_1 oki [.int .i64 x1_1, .int .i64 (wrap64 (x1_1 + 1)), .bool ((Int.tmod (wrap64 ((wrap64 (x1_1 + 1)) + 1)) 3) == 0), .int .i64 (wrap64 ((wrap64 ((wrap64 (x1_1 + 1)) + 1)) + 1)), .int .i64 (wrap64 ((wrap64 ((wrap64 ((wrap64 (x1_1 + 1)) + 1)) + 1)) + 1)), .int .i64 (wrap64 ((wrap64 ((wrap64 ((wrap64 ((wrap64 (x1_1 + 1)) + 1)) + 1)) + 1)) + 1)), .bool ((Int.tmod (wrap64 ((wrap64 ((wrap64 ((wrap64 ((wrap64 ((wrap64 (x1_1 + 1)) + 1)) + 1)) + 1)) + 1)) + 1)) 3) == 0), v7] v7 z_.f2.f5 := (by rw [hw_]; exact M6.out.put pp_.out qq_.out 6 (by decide) _ rfl rfl); have M7 := Aside0.mk m_; clear m_ hw_ M6; have hx7 := M7.out.cell pp_.out qq_.out 7 _ rfl; have hf7 := M7.out.frozen ((x5_1 : Int).toNat * 8 + 7)) | ((with_reducible refine gate_callee (f := 35) rfl ?_); refine goesL_ (some 77) rfl rfl Try.func35 (by kernel_rfl) rfl #[v7, .int .i64 (wrap64 ((wrap64 ((wrap64 ((wrap64 ((wrap64 ((wrap64 ((wrap64 (x1_1 + 1)) + 1)) + 1)) + 1)) + 1)) + 1)) + 1))] rfl (by (try simp only [List.map_toArray, List.map_cons, List.map_nil]); first | done | rfl) ?_; (with_reducible refine (laws_markIntS.calls k1 _ v7 _ _ t1_ t2_ w0 _ M7.out.b M7.out.r A_.out).mono ?_); rintro e w_8 ⟨rfl, hr_, hb_, hk_⟩; refine ⟨_, rfl, ?_⟩; have HE := Aside0.mk (M7.out.back (fun k h => (hok_.out k h).1) hr_ hb_ hk_ (z := (⟨x1_1, (wrap64 (x1_1 + 1)), (⟨((Int.tmod (wrap64 ((wrap64 (x1_1 + 1)) + 1)) 3) == 0), (wrap64 ((wrap64 ((wrap64 (x1_1 + 1)) + 1)) + 1)), (wrap64 ((wrap64 ((wrap64 ((wrap64 (x1_1 + 1)) + 1)) + 1)) + 1)), (wrap64 ((wrap64 ((wrap64 ((wrap64 ((wrap64 (x1_1 + 1)) + 1)) + 1)) + 1)) + 1)), ((Int.tmod (wrap64 ((wrap64 ((wrap64 ((wrap64 ((wrap64 ((wrap64 (x1_1 + 1)) + 1)) + 1)) + 1)) + 1)) + 1)) 3) == 0), t2_⟩ : S57)⟩ : S59)) rfl rfl); clear hr_ hb_ hk_))
          obtain ⟨HS, HB, HK⟩ := HE.out
          rw [← Ny.out] at HS
          have HO_0 := Aside0.mk HS
          have HB := Aside0.mk HB
          have HK := Aside0.mk HK
          clear HE HS
          go_roundg k1
          case measure => have := HK1.out; omega
          case rel => exact ⟨y_, t1_, (wrap64 (x5_1 + 1)), (by first | rfl | (simp; done) | (simp [*]; done)), (by first | rfl | (simp; done) | (simp [*]; done)), H', ⟨by have := HK1.out; omega⟩, ⟨by (with_reducible repeat (first | apply Kd.S_alloc | apply Kd.S_drewN | apply Kd.S_drew)); exact HO_0.out⟩, ⟨by repeat (first | (with_reducible first | exact HK.out | apply Kept.alloc | apply Kept.drewN | apply Kept.drew) | exact HK.out)⟩, ⟨by repeat (first | (with_reducible first | exact HB.out | apply below_alloc | apply pw_below_drewN | apply below_drew1) | exact HB.out)⟩⟩
        · rw [if_neg c4] at H
          exact absurd H (by simp)
      · rw [if_neg c3] at H
        have c3b0 : decide (x5_1 < (x0_1.length : Int)) = false := decide_eq_false c3
        clear c3
        simp only [Option.some.injEq, Prod.mk.injEq] at H
        obtain ⟨rfl, rfl⟩ := H
        obtain ⟨Ao9, co9, eo9⟩ := Kd.S_slice HO_0.out
        subst eo9
        go_wp2
        go_ret
        exact ⟨by first | rfl | (simp [errW_none, errW_some] <;> rfl) | (simp [*, errW_none, errW_some] <;> rfl), by (with_reducible repeat (first | apply Kd.S_alloc | apply Kd.S_drewN | apply Kd.S_drew)); exact HO_0.out, by repeat (first | (with_reducible first | exact HB.out | apply below_alloc | apply pw_below_drewN | apply below_drew1) | exact HB.out), by repeat (first | (with_reducible first | exact HK.out | apply Kept.alloc | apply Kept.drewN | apply Kept.drew) | exact HK.out)⟩

/-! ### laws_markScript: function 19 -/
def laws_markScript.f (k : Nat) (l0 : List (S59)) (l1 : List Int) (l2 : List Int) (a1 : Int) : Option (Int) := (laws_markPostS.f k l0 a1).bind fun t1 => (laws_markIntS.f k l1 t1.1).bind fun t2 => (laws_markIntS.f k l2 t2.1).bind fun t3 => some t3.1
set_option maxHeartbeats 8000000 in
set_option maxRecDepth 100000 in
theorem laws_markScript.calls (k : Nat) (P : Nat → Prop) (v0 v1 v2 : Value) (l0 : List (S59)) (l1 : List Int) (l2 : List Int) (a1 : Int) (r : Int) (w0 w : World) (hB : Below w0.heap.size w0 w) (hP : ∀ k, P k → k < w.heap.size)
    (h0 : Kd.S k59 59 w w0.heap.size (fun k_ => P k_ ∧ some k_ ≠ v1.ownBlock ∧ some k_ ≠ v2.ownBlock) v0 l0) (h1 : Kd.R (Kd.int .i64) 3 w w0.heap.size (fun k_ => P k_ ∧ some k_ ≠ v2.ownBlock) v1 l1) (h2 : Kd.R (Kd.int .i64) 3 w w0.heap.size (fun k_ => P k_ ∧ some k_ ≠ v1.ownBlock) v2 l2) (h : laws_markScript.f k l0 l1 l2 a1 = some r) :
    Calls Try.prog 19 #[.agg #[v0, v1, v2], .int .i64 a1] w fun e w' => e = .returned (.int .i64 r) ∧ Below w0.heap.size w0 w' ∧ Kept w w' P := by
  have hu30 := Try.underlying30
  obtain ⟨⟨t1_, s1_⟩, A1_, h⟩ := Option.bind_eq_some_iff.mp h
  obtain ⟨⟨t2_, s2_⟩, A2_, h⟩ := Option.bind_eq_some_iff.mp h
  obtain ⟨⟨t3_, s3_⟩, A3_, h⟩ := Option.bind_eq_some_iff.mp h
  obtain rfl : t3_ = r := Option.some.inj h
  clear h
  have A1_ := Aside0.mk A1_
  have A2_ : Aside0 (laws_markIntS.f k l1 t1_ = some (t2_, s2_)) := ⟨A2_⟩
  have A3_ : Aside0 (laws_markIntS.f k l2 t2_ = some (t3_, s3_)) := ⟨A3_⟩
  have O1 := Aside0.mk h1.1
  have O2 := Aside0.mk h2.1
  have H0 := Aside0.mk h0
  have H1 := Aside0.mk (Kd.R_tight rfl h1)
  have H2 := Aside0.mk (Kd.R_tight rfl h2)
  have HB := Aside0.mk hB
  have HP := Aside0.mk hP
  clear h0 h1 h2 hB hP
  obtain ⟨A0, c0, e0⟩ := Kd.S_slice H0.out
  generalize l0.length = n0 at e0
  subst e0
  obtain ⟨A1, c1, e1⟩ := Kd.R_slice H1.out
  generalize l1.length = n1 at e1
  subst e1
  obtain ⟨A2, c2, e2⟩ := Kd.R_slice H2.out
  generalize l2.length = n2 at e2
  subst e2
  go_enter Try.func19, Try.ntmps19
  go_wp2_with (first | ((with_reducible refine gate_dst (N := 2) rfl ?_); refine box_event ?hg (N := 2) ?hd (cs := #[.slice A0 n0 c0, .slice A1 n1 c1, .slice A2 n2 c2]) (t := 30) ?hr ?_; (case hd => rfl); (case hg => rfl); (case hr => first | (go_simp; done) | (go_simp; rfl)); intro gb hg w_0 hbox hb; have BX := Aside0.mk hbox; have GN := Aside0.mk ((by rw [hg]; exact Nat.le_refl _) : w.heap.size ≤ gb); replace HB := Aside0.mk (below_step HB.out hb); have HK := Aside0.mk (Kept.of_below hb P); replace H0 := Aside0.mk (Kd.S_below H0.out hb); replace H1 := Aside0.mk (Kd.R_below H1.out hb); replace H2 := Aside0.mk (Kd.R_below H2.out hb); clear hg hbox hb; have hxa_0 : w_0.cell? ⟨gb, 0, none⟩ = some (.slice A0 n0 c0) := (blk_cell BX.out 0).trans rfl; have hfa_0 := blk_frozen BX.out 0; have hxa_1 : w_0.cell? ⟨gb, 1, none⟩ = some (.slice A1 n1 c1) := (blk_cell BX.out 1).trans rfl; have hfa_1 := blk_frozen BX.out 1; have hxa_2 : w_0.cell? ⟨gb, 2, none⟩ = some (.slice A2 n2 c2) := (blk_cell BX.out 2).trans rfl; have hfa_2 := blk_frozen BX.out 2) | ((with_reducible refine gate_callee (f := 20) rfl ?_); refine goesL_ (some 8) rfl rfl Try.func20 (by kernel_rfl) rfl #[.slice A0 n0 c0, .int .i64 a1] rfl (by (try simp only [List.map_toArray, List.map_cons, List.map_nil]); first | done | rfl) ?_; (with_reducible refine (laws_markPostS.calls k _ _ _ _ t1_ s1_ w0 _ HB.out H0.out A1_.out).mono ?_); rintro e w_1 ⟨rfl, _, hb, hk⟩; refine ⟨_, rfl, ?_⟩; replace HB := Aside0.mk hb; replace BX := Aside0.mk (blk_kept BX.out hk (fun h => absurd (HP.out _ h.1) (Nat.not_lt.2 GN.out))); replace H1 := Aside0.mk (Kd.R_kept H1.out hk (fun k e h => h.2.1 e)); replace H2 := Aside0.mk (Kd.R_kept H2.out hk (fun k e h => h.2.2 e)); replace HK := Aside0.mk (HK.out.then_ hk (fun k h => .inl h.1)); clear hb hk H0; have hxb_0 : w_1.cell? ⟨gb, 0, none⟩ = some (.slice A0 n0 c0) := (blk_cell BX.out 0).trans rfl; have hfb_0 := blk_frozen BX.out 0; have hxb_1 : w_1.cell? ⟨gb, 1, none⟩ = some (.slice A1 n1 c1) := (blk_cell BX.out 1).trans rfl; have hfb_1 := blk_frozen BX.out 1; have hxb_2 : w_1.cell? ⟨gb, 2, none⟩ = some (.slice A2 n2 c2) := (blk_cell BX.out 2).trans rfl; have hfb_2 := blk_frozen BX.out 2) | ((with_reducible refine gate_callee (f := 35) rfl ?_); refine goesL_ (some 12) rfl rfl Try.func35 (by kernel_rfl) rfl #[.slice A1 n1 c1, .int .i64 t1_] rfl (by (try simp only [List.map_toArray, List.map_cons, List.map_nil]); first | done | rfl) ?_; (with_reducible refine (laws_markIntS.calls k _ _ _ _ t2_ s2_ w0 _ HB.out H1.out A2_.out).mono ?_); rintro e w_2 ⟨rfl, _, hb, hk⟩; refine ⟨_, rfl, ?_⟩; replace HB := Aside0.mk hb; replace BX := Aside0.mk (blk_kept BX.out hk (fun h => absurd (HP.out _ (O1.out _ h.symm).1) (Nat.not_lt.2 GN.out))); replace H2 := Aside0.mk (Kd.R_kept H2.out hk (fun k e h => (O2.out k e.symm).2 h)); replace HK := Aside0.mk (HK.out.then_ hk (fun k h => .inl (O1.out k h.symm).1)); clear hb hk H1; have hxc_0 : w_2.cell? ⟨gb, 0, none⟩ = some (.slice A0 n0 c0) := (blk_cell BX.out 0).trans rfl; have hfc_0 := blk_frozen BX.out 0; have hxc_1 : w_2.cell? ⟨gb, 1, none⟩ = some (.slice A1 n1 c1) := (blk_cell BX.out 1).trans rfl; have hfc_1 := blk_frozen BX.out 1; have hxc_2 : w_2.cell? ⟨gb, 2, none⟩ = some (.slice A2 n2 c2) := (blk_cell BX.out 2).trans rfl; have hfc_2 := blk_frozen BX.out 2) | ((with_reducible refine gate_callee (f := 35) rfl ?_); refine goesL_ (some 16) rfl rfl Try.func35 (by kernel_rfl) rfl #[.slice A2 n2 c2, .int .i64 t2_] rfl (by (try simp only [List.map_toArray, List.map_cons, List.map_nil]); first | done | rfl) ?_; (with_reducible refine (laws_markIntS.calls k _ _ _ _ t3_ s3_ w0 _ HB.out H2.out A3_.out).mono ?_); rintro e w_3 ⟨rfl, _, hb, hk⟩; refine ⟨_, rfl, ?_⟩; replace HB := Aside0.mk hb; replace HK := Aside0.mk (HK.out.then_ hk (fun k h => .inl (O2.out k h.symm).1)); clear hb hk H2))
  go_ret
  exact ⟨rfl, HB.out, HK.out⟩

/-! ### laws_FnExactPostsAt: function 5 -/
def IV (a b k : Nat) : Prop := a ≤ k ∧ k < b
theorem iv_apart {a b c d k : Nat} (h : b ≤ c) : IV a b k → ¬ IV c d k := fun h1 h2 => by have := h1.2; have := h2.1; omega
theorem iv_apart' {a b c d k : Nat} (h : d ≤ a) : IV a b k → ¬ IV c d k := fun h1 h2 => by have := h1.1; have := h2.2; omega
theorem iv_lt {a b c k : Nat} (h1 : IV a b k) (h : b ≤ c) : k < c := by have := h1.2; omega
theorem iv_ne_le {a b g k : Nat} (h1 : IV a b k) (h : b ≤ g) : k ≠ g := by have := h1.2; omega
theorem S_iv {ok : Nat → Prop} {v : Value} {xs : List S59} {w W W1 : World} (h : Kd.S k59 59 W1 W.heap.size ok v xs) (hw : w.heap.size ≤ W.heap.size) : Kd.S k59 59 W1 w.heap.size (IV W.heap.size W1.heap.size) v xs := Kd.S_lower (Kd.S_mono (Kd.S_bound h) (fun k hk => ⟨hk.2.1, hk.2.2.1⟩)) hw
theorem S_iv2 {ok : Nat → Prop} {v : Value} {xs : List S59} {w W W1 : World} (h : Kd.S k59 59 W1 W.heap.size ok v xs) (hw : w.heap.size ≤ W.heap.size) : Kd.S k59 59 W1 w.heap.size (fun k => IV W.heap.size W1.heap.size k ∧ ok k) v xs := Kd.S_lower (Kd.S_mono (Kd.S_bound h) (fun k hk => ⟨⟨hk.2.1, hk.2.2.1⟩, hk.1⟩)) hw
theorem R_iv2 {ok : Nat → Prop} {v : Value} {xs : List Int} {w W W1 : World} (h : Kd.R (Kd.int .i64) 3 W1 W.heap.size ok v xs) (hw : w.heap.size ≤ W.heap.size) : Kd.R (Kd.int .i64) 3 W1 w.heap.size (fun k => IV W.heap.size W1.heap.size k ∧ ok k) v xs := Kd.R_lower (Kd.R_mono (Kd.R_bound h) (fun k hk => ⟨⟨hk.2.1, hk.2.2.1⟩, hk.1⟩)) hw
theorem gen_world {P : Program} {ops : Array Oper} {Q : Exit → Act → World → Prop} {l : List Oper} {a : Act} {W : World} (F : World → Prop) (hF : F W) (h : ∀ W', F W' → wpList P ops Q l a W') : wpList P ops Q l a W := h W hF
def laws_FnExactPostsAt.f (k : Nat) (l0_0 : List (S65)) (l0_1 : List Int) (l0_2 : List Int) (a1 : Int) : Option Bool := (laws_szScript.f k l0_0 l0_1 l0_2 1048576).bind fun t => if t < 0 then some true else (laws_toScript.f k l0_0 l0_1 l0_2).bind fun x => (spec_PostsAt.f k x.1 x.2.1 x.2.2 a1).bind fun r => (impl_PostsAt.f k x.1 x.2.1 x.2.2 a1).bind fun g => (laws_eqPostS.f k g r).bind fun e1 => (laws_eqScript.f k x.1 x.2.1 x.2.2 x.1 x.2.1 x.2.2).bind fun e2 => (laws_markScript.f k x.1 x.2.1 x.2.2 1).bind fun m0 => (laws_markPostS.f k g 1).bind fun m => (laws_heldPostS.f k m.2 1).bind fun q => if e1 = true ∧ e2 = true ∧ 0 ≤ m0 ∧ 0 ≤ q ∧ q = m.1 then some true else none
set_option maxHeartbeats 16000000 in
set_option maxRecDepth 100000 in
theorem laws_FnExactPostsAt.calls (k : Nat) (A0_0 : Option Addr) (c0_0 : Nat) (l0_0 : List (S65)) (A0_1 : Option Addr) (c0_1 : Nat) (l0_1 : List Int) (A0_2 : Option Addr) (c0_2 : Nat) (l0_2 : List Int) (a1 : Int) (w : World) (hr0_0 : Kd.C k65 w A0_0 l0_0.length l0_0) (hc0_0 : l0_0.length ≤ c0_0) (hr0_1 : Kd.C (Kd.int .i64) w A0_1 l0_1.length l0_1) (hc0_1 : l0_1.length ≤ c0_1) (hr0_2 : Kd.C (Kd.int .i64) w A0_2 l0_2.length l0_2) (hc0_2 : l0_2.length ≤ c0_2) (h : laws_FnExactPostsAt.f k l0_0 l0_1 l0_2 a1 = some true) :
    Calls Try.prog 5 #[.agg #[.slice A0_0 l0_0.length c0_0, .slice A0_1 l0_1.length c0_1, .slice A0_2 l0_2.length c0_2], .int .i64 a1] w fun e w' => e = .returned (.bool true) ∧ Below w.heap.size w w' := by
  have hu25 := Try.underlying25
  have hu30 := Try.underlying30
  have HR0_0 := Aside0.mk hr0_0
  have HC0_0 := Aside0.mk hc0_0
  have HR0_1 := Aside0.mk hr0_1
  have HC0_1 := Aside0.mk hc0_1
  have HR0_2 := Aside0.mk hr0_2
  have HC0_2 := Aside0.mk hc0_2
  clear hr0_0 hc0_0 hr0_1 hc0_1 hr0_2 hc0_2
  have HB := Aside0.mk (Below.refl w.heap.size w)
  obtain ⟨t_, E1, h⟩ := Option.bind_eq_some_iff.mp h
  have E1 := Aside0.mk E1
  by_cases c : t_ < 0
  · clear h
    have c0 : decide (t_ < 0) = true := decide_eq_true c
    clear c
    go_enter Try.func5, Try.ntmps5
    go_wp2_with (first | ((with_reducible refine gate_dst (N := 2) rfl ?_); refine box_event ?hg (N := 2) ?hd (cs := #[.slice A0_0 l0_0.length c0_0, .slice A0_1 l0_1.length c0_1, .slice A0_2 l0_2.length c0_2]) (t := 25) ?hr ?_; (case hd => rfl); (case hg => rfl); (case hr => first | (go_simp; done) | (go_simp; rfl)); intro ga hg w_0 hbox hb; replace HB := Aside0.mk (below_step HB.out hb); have BA := Aside0.mk hbox; clear hg hbox hb; have hza_0 : w_0.cell? ⟨ga, 0, none⟩ = some (.slice A0_0 l0_0.length c0_0) := (blk_cell BA.out 0).trans rfl; have hya_0 := blk_frozen BA.out 0; have hza_1 : w_0.cell? ⟨ga, 1, none⟩ = some (.slice A0_1 l0_1.length c0_1) := (blk_cell BA.out 1).trans rfl; have hya_1 := blk_frozen BA.out 1; have hza_2 : w_0.cell? ⟨ga, 2, none⟩ = some (.slice A0_2 l0_2.length c0_2) := (blk_cell BA.out 2).trans rfl; have hya_2 := blk_frozen BA.out 2) | ((with_reducible refine gate_callee (f := 6) rfl ?_); refine goesL_ (some 15) rfl rfl Try.func6 (by kernel_rfl) rfl #[.agg #[.slice A0_0 l0_0.length c0_0, .slice A0_1 l0_1.length c0_1, .slice A0_2 l0_2.length c0_2], .int .i64 1048576] rfl (by (try simp only [List.map_toArray, List.map_cons, List.map_nil]); first | done | rfl) ?_; (with_reducible refine (laws_szScript.calls k _ _ l0_0 _ _ l0_1 _ _ l0_2 1048576 t_ _ (Kd.C_below HR0_0.out HB.out) HC0_0.out (Kd.C_below HR0_1.out HB.out) HC0_1.out (Kd.C_below HR0_2.out HB.out) HC0_2.out E1.out).mono ?_); rintro e w_1 ⟨rfl, hb⟩; refine ⟨_, rfl, ?_⟩; replace BA := Aside0.mk (blk_below BA.out hb); replace HB := Aside0.mk (below_step HB.out hb); clear hb; have hzb_0 : w_1.cell? ⟨ga, 0, none⟩ = some (.slice A0_0 l0_0.length c0_0) := (blk_cell BA.out 0).trans rfl; have hyb_0 := blk_frozen BA.out 0; have hzb_1 : w_1.cell? ⟨ga, 1, none⟩ = some (.slice A0_1 l0_1.length c0_1) := (blk_cell BA.out 1).trans rfl; have hyb_1 := blk_frozen BA.out 1; have hzb_2 : w_1.cell? ⟨ga, 2, none⟩ = some (.slice A0_2 l0_2.length c0_2) := (blk_cell BA.out 2).trans rfl; have hyb_2 := blk_frozen BA.out 2))
    go_ret
    exact ⟨rfl, HB.out⟩
  · rw [if_neg c] at h
    have c0 : decide (t_ < 0) = false := decide_eq_false c
    clear c
    obtain ⟨⟨p, wa, sa⟩, E2, h⟩ := Option.bind_eq_some_iff.mp h
    obtain ⟨r_, E3, h⟩ := Option.bind_eq_some_iff.mp h
    obtain ⟨g_, E4, h⟩ := Option.bind_eq_some_iff.mp h
    obtain ⟨e1_, E5, h⟩ := Option.bind_eq_some_iff.mp h
    obtain ⟨e2_, E6, h⟩ := Option.bind_eq_some_iff.mp h
    obtain ⟨m0_, E7, h⟩ := Option.bind_eq_some_iff.mp h
    obtain ⟨⟨m_, gm_⟩, E8, h⟩ := Option.bind_eq_some_iff.mp h
    obtain ⟨q_, E9, h⟩ := Option.bind_eq_some_iff.mp h
    obtain ⟨rfl, rfl, hm0, hq0, hqm⟩ : e1_ = true ∧ e2_ = true ∧ 0 ≤ m0_ ∧ 0 ≤ q_ ∧ q_ = m_ := by
      by_cases hh : e1_ = true ∧ e2_ = true ∧ 0 ≤ m0_ ∧ 0 ≤ q_ ∧ q_ = m_
      · exact hh
      · have h2 : (if e1_ = true ∧ e2_ = true ∧ 0 ≤ m0_ ∧ 0 ≤ q_ ∧ q_ = m_ then some true else none) = some true := h
        rw [if_neg hh] at h2; cases h2
    subst hqm
    clear h
    have E2 : Aside0 (laws_toScript.f k l0_0 l0_1 l0_2 = some (p, wa, sa)) := ⟨E2⟩
    have E3 : Aside0 (spec_PostsAt.f k p wa sa a1 = some r_) := ⟨E3⟩
    have E4 : Aside0 (impl_PostsAt.f k p wa sa a1 = some g_) := ⟨E4⟩
    have E5 : Aside0 (laws_eqPostS.f k g_ r_ = some true) := ⟨E5⟩
    have E6 : Aside0 (laws_eqScript.f k p wa sa p wa sa = some true) := ⟨E6⟩
    have E7 : Aside0 (laws_markScript.f k p wa sa 1 = some m0_) := ⟨E7⟩
    have E8 : Aside0 (laws_markPostS.f k g_ 1 = some (q_, gm_)) := ⟨E8⟩
    have E9 : Aside0 (laws_heldPostS.f k gm_ 1 = some q_) := ⟨E9⟩
    have d0 : decide (m0_ < 0) = false := decide_eq_false (by omega)
    have d1 : decide (q_ < 0) = false := decide_eq_false (by omega)
    have d2 : (q_ != q_) = false := by simp
    clear hm0 hq0
    go_enter Try.func5, Try.ntmps5
    go_wp2_with (first | ((with_reducible refine gate_dst (N := 2) rfl ?_); refine box_event ?hg (N := 2) ?hd (cs := #[.slice A0_0 l0_0.length c0_0, .slice A0_1 l0_1.length c0_1, .slice A0_2 l0_2.length c0_2]) (t := 25) ?hr ?_; (case hd => rfl); (case hg => rfl); (case hr => first | (go_simp; done) | (go_simp; rfl)); intro ga hg w_0 hbox hb; replace HB := Aside0.mk (below_step HB.out hb); have BA := Aside0.mk hbox; clear hg hbox hb; have hza_0 : w_0.cell? ⟨ga, 0, none⟩ = some (.slice A0_0 l0_0.length c0_0) := (blk_cell BA.out 0).trans rfl; have hya_0 := blk_frozen BA.out 0; have hza_1 : w_0.cell? ⟨ga, 1, none⟩ = some (.slice A0_1 l0_1.length c0_1) := (blk_cell BA.out 1).trans rfl; have hya_1 := blk_frozen BA.out 1; have hza_2 : w_0.cell? ⟨ga, 2, none⟩ = some (.slice A0_2 l0_2.length c0_2) := (blk_cell BA.out 2).trans rfl; have hya_2 := blk_frozen BA.out 2) | ((with_reducible refine gate_callee (f := 6) rfl ?_); refine goesL_ (some 15) rfl rfl Try.func6 (by kernel_rfl) rfl #[.agg #[.slice A0_0 l0_0.length c0_0, .slice A0_1 l0_1.length c0_1, .slice A0_2 l0_2.length c0_2], .int .i64 1048576] rfl (by (try simp only [List.map_toArray, List.map_cons, List.map_nil]); first | done | rfl) ?_; (with_reducible refine (laws_szScript.calls k _ _ l0_0 _ _ l0_1 _ _ l0_2 1048576 t_ _ (Kd.C_below HR0_0.out HB.out) HC0_0.out (Kd.C_below HR0_1.out HB.out) HC0_1.out (Kd.C_below HR0_2.out HB.out) HC0_2.out E1.out).mono ?_); rintro e w_1 ⟨rfl, hb⟩; refine ⟨_, rfl, ?_⟩; replace BA := Aside0.mk (blk_below BA.out hb); replace HB := Aside0.mk (below_step HB.out hb); clear hb; have hzb_0 : w_1.cell? ⟨ga, 0, none⟩ = some (.slice A0_0 l0_0.length c0_0) := (blk_cell BA.out 0).trans rfl; have hyb_0 := blk_frozen BA.out 0; have hzb_1 : w_1.cell? ⟨ga, 1, none⟩ = some (.slice A0_1 l0_1.length c0_1) := (blk_cell BA.out 1).trans rfl; have hyb_1 := blk_frozen BA.out 1; have hzb_2 : w_1.cell? ⟨ga, 2, none⟩ = some (.slice A0_2 l0_2.length c0_2) := (blk_cell BA.out 2).trans rfl; have hyb_2 := blk_frozen BA.out 2) | ((with_reducible refine gate_callee (f := 8) rfl ?_); refine goesL_ (some 19) rfl rfl Try.func8 (by kernel_rfl) rfl #[.agg #[.slice A0_0 l0_0.length c0_0, .slice A0_1 l0_1.length c0_1, .slice A0_2 l0_2.length c0_2]] rfl (by (try simp only [List.map_toArray, List.map_cons, List.map_nil]); first | done | rfl) ?_; (with_reducible refine (laws_toScript.calls k _ _ l0_0 _ _ l0_1 _ _ l0_2 p wa sa _ (Kd.C_below HR0_0.out HB.out) HC0_0.out (Kd.C_below HR0_1.out HB.out) HC0_1.out (Kd.C_below HR0_2.out HB.out) HC0_2.out E2.out).mono ?_); rintro e w_2 ⟨t0, t1, t2, rfl, ho0, ho1, ho2, hb⟩; refine ⟨_, rfl, ?_⟩; replace BA := Aside0.mk (blk_below BA.out hb); replace HB := Aside0.mk (below_step HB.out hb); have T0 := Aside0.mk ho0; have T1 := Aside0.mk ho1; have T2 := Aside0.mk ho2; clear hb ho0 ho1 ho2; obtain ⟨Y0, y0, eY0_⟩ := Kd.S_slice T0.out; subst eY0_; obtain ⟨Y1, y1, eY1_⟩ := Kd.R_slice T1.out; subst eY1_; obtain ⟨Y2, y2, eY2_⟩ := Kd.R_slice T2.out; subst eY2_) | ((with_reducible refine gate_callee (f := 16) rfl ?_); refine goesL_ (some 21) rfl rfl Try.func16 (by kernel_rfl) rfl #[.agg #[.slice Y0 p.length y0, .slice Y1 wa.length y1, .slice Y2 sa.length y2], .int .i64 a1] rfl (by (try simp only [List.map_toArray, List.map_cons, List.map_nil]); first | done | rfl) ?_; (with_reducible refine (spec_PostsAt.calls k _ _ p _ _ wa _ _ sa a1 r_ _ (Kd.S_reads' T0.out).2.2 (Kd.S_reads' T0.out).2.1 (Kd.R_reads' T1.out).2.2 (Kd.R_reads' T1.out).2.1 (Kd.R_reads' T2.out).2.2 (Kd.R_reads' T2.out).2.1 E3.out).mono ?_); rintro e w_3 ⟨vw, rfl, ho, hb⟩; refine ⟨_, rfl, ?_⟩; have SW := Aside0.mk (S_iv ho HB.out.size); have L3 := Aside0.mk hb.size; replace BA := Aside0.mk (blk_below BA.out hb); replace HB := Aside0.mk (below_step HB.out hb); have GA := Aside0.mk (blk_lt BA.out); clear hb ho T0 T1 T2; obtain ⟨W0, wc, ew_⟩ := Kd.S_slice SW.out; subst ew_; have hzc_0 : w_3.cell? ⟨ga, 0, none⟩ = some (.slice A0_0 l0_0.length c0_0) := (blk_cell BA.out 0).trans rfl; have hyc_0 := blk_frozen BA.out 0; have hzc_1 : w_3.cell? ⟨ga, 1, none⟩ = some (.slice A0_1 l0_1.length c0_1) := (blk_cell BA.out 1).trans rfl; have hyc_1 := blk_frozen BA.out 1; have hzc_2 : w_3.cell? ⟨ga, 2, none⟩ = some (.slice A0_2 l0_2.length c0_2) := (blk_cell BA.out 2).trans rfl; have hyc_2 := blk_frozen BA.out 2) | ((with_reducible refine gate_callee (f := 8) rfl ?_); refine goesL_ (some 23) rfl rfl Try.func8 (by kernel_rfl) rfl #[.agg #[.slice A0_0 l0_0.length c0_0, .slice A0_1 l0_1.length c0_1, .slice A0_2 l0_2.length c0_2]] rfl (by (try simp only [List.map_toArray, List.map_cons, List.map_nil]); first | done | rfl) ?_; (with_reducible refine (laws_toScript.calls k _ _ l0_0 _ _ l0_1 _ _ l0_2 p wa sa _ (Kd.C_below HR0_0.out HB.out) HC0_0.out (Kd.C_below HR0_1.out HB.out) HC0_1.out (Kd.C_below HR0_2.out HB.out) HC0_2.out E2.out).mono ?_); rintro e w_4 ⟨t0, t1, t2, rfl, ho0, ho1, ho2, hb⟩; refine ⟨_, rfl, ?_⟩; have S0 := Aside0.mk (S_iv2 ho0 HB.out.size); have R1 := Aside0.mk (R_iv2 ho1 HB.out.size); have R2 := Aside0.mk (R_iv2 ho2 HB.out.size); have L4 := Aside0.mk hb.size; replace BA := Aside0.mk (blk_below BA.out hb); replace HB := Aside0.mk (below_step HB.out hb); replace SW := Aside0.mk (Kd.S_below SW.out hb); clear hb ho0 ho1 ho2; obtain ⟨X0, d0, e0_⟩ := Kd.S_slice S0.out; subst e0_; obtain ⟨X1, d1, e1_⟩ := Kd.R_slice R1.out; subst e1_; obtain ⟨X2, d2, e2_⟩ := Kd.R_slice R2.out; subst e2_) | ((with_reducible refine gate_dst (N := 7) rfl ?_); refine box_event ?hg (N := 7) ?hd (cs := #[.slice none 0 0, .slice none 0 0, .slice none 0 0]) (t := 30) ?hr ?_; (case hd => rfl); (case hg => rfl); (case hr => first | (go_simp; done) | (go_simp; rfl)); intro gx hg w_5 hbox hb; have BX := Aside0.mk hbox; have GXw := Aside0.mk ((by rw [hg]; exact HB.out.size) : w.heap.size ≤ gx); have GX := Aside0.mk ((by rw [hg]; exact Nat.le_refl _) : w_4.heap.size ≤ gx); have L5 := Aside0.mk hb.size; replace BA := Aside0.mk (blk_below BA.out hb); replace HB := Aside0.mk (below_step HB.out hb); replace SW := Aside0.mk (Kd.S_below SW.out hb); replace S0 := Aside0.mk (Kd.S_below S0.out hb); replace R1 := Aside0.mk (Kd.R_below R1.out hb); replace R2 := Aside0.mk (Kd.R_below R2.out hb); have XA := Aside0.mk ((fun h => absurd (h ▸ GA.out) (Nat.not_lt.2 (Nat.le_trans L4.out GX.out))) : ga ≠ gx); clear hg hbox hb; have hzd_0 : w_5.cell? ⟨gx, 0, none⟩ = some (.slice none 0 0) := (blk_cell BX.out 0).trans rfl; have hyd_0 := blk_frozen BX.out 0; have hzd_1 : w_5.cell? ⟨gx, 1, none⟩ = some (.slice none 0 0) := (blk_cell BX.out 1).trans rfl; have hyd_1 := blk_frozen BX.out 1; have hzd_2 : w_5.cell? ⟨gx, 2, none⟩ = some (.slice none 0 0) := (blk_cell BX.out 2).trans rfl; have hyd_2 := blk_frozen BX.out 2) | ((with_reducible refine gate_callee (f := 17) rfl ?_); refine gen_world (fun W' => Below w.heap.size w W' ∧ W'.heap[ga]? = some (.cells #[.slice A0_0 l0_0.length c0_0, .slice A0_1 l0_1.length c0_1, .slice A0_2 l0_2.length c0_2] 25 (0, 0)) ∧ W'.heap[gx]? = some (.cells #[.slice X0 p.length d0, .slice X1 wa.length d1, .slice X2 sa.length d2] 30 (0, 0)) ∧ Kd.S k59 59 W' w.heap.size (IV w_2.heap.size w_3.heap.size) (.slice W0 r_.length wc) r_ ∧ Kd.S k59 59 W' w.heap.size (fun k_ => IV w_3.heap.size w_4.heap.size k_ ∧ some k_ ≠ (.slice X1 wa.length d1 : Value).ownBlock ∧ some k_ ≠ (.slice X2 sa.length d2 : Value).ownBlock) (.slice X0 p.length d0) p ∧ Kd.R (Kd.int .i64) 3 W' w.heap.size (fun k_ => IV w_3.heap.size w_4.heap.size k_ ∧ some k_ ≠ (.slice X2 sa.length d2 : Value).ownBlock) (.slice X1 wa.length d1) wa ∧ Kd.R (Kd.int .i64) 3 W' w.heap.size (fun k_ => IV w_3.heap.size w_4.heap.size k_ ∧ some k_ ≠ (.slice X1 wa.length d1 : Value).ownBlock) (.slice X2 sa.length d2) sa ∧ w_5.heap.size ≤ W'.heap.size) ?hF_ ?_; (case hF_ => exact ⟨below_set (below_set (below_set HB.out GXw.out) GXw.out) GXw.out, blk_far (blk_far (blk_far BA.out XA.out _) XA.out _) XA.out _, blk_put (blk_put (blk_put BX.out 0 _ rfl) 1 _ rfl) 2 _ rfl, Kd.S_far (p := ⟨gx, 2, none⟩) (Kd.S_far (p := ⟨gx, 1, none⟩) (Kd.S_far (p := ⟨gx, 0, none⟩) SW.out (fun k h => iv_ne_le h (Nat.le_trans L4.out GX.out)) _) (fun k h => iv_ne_le h (Nat.le_trans L4.out GX.out)) _) (fun k h => iv_ne_le h (Nat.le_trans L4.out GX.out)) _, Kd.S_far (p := ⟨gx, 2, none⟩) (Kd.S_far (p := ⟨gx, 1, none⟩) (Kd.S_far (p := ⟨gx, 0, none⟩) S0.out (fun k h => iv_ne_le h.1 GX.out) _) (fun k h => iv_ne_le h.1 GX.out) _) (fun k h => iv_ne_le h.1 GX.out) _, Kd.R_far (p := ⟨gx, 2, none⟩) (Kd.R_far (p := ⟨gx, 1, none⟩) (Kd.R_far (p := ⟨gx, 0, none⟩) R1.out (fun k h => iv_ne_le h.1 GX.out) _) (fun k h => iv_ne_le h.1 GX.out) _) (fun k h => iv_ne_le h.1 GX.out) _, Kd.R_far (p := ⟨gx, 2, none⟩) (Kd.R_far (p := ⟨gx, 1, none⟩) (Kd.R_far (p := ⟨gx, 0, none⟩) R2.out (fun k h => iv_ne_le h.1 GX.out) _) (fun k h => iv_ne_le h.1 GX.out) _) (fun k h => iv_ne_le h.1 GX.out) _, by simp [World.setCell]⟩); rintro w_6 ⟨hb_, ba_, bx_, sw_, s0_, r1_, r2_, l6_⟩; clear HB BA BX SW S0 R1 R2; have HB := Aside0.mk hb_; have BA := Aside0.mk ba_; have BX := Aside0.mk bx_; have SW := Aside0.mk sw_; have S0 := Aside0.mk s0_; have R1 := Aside0.mk r1_; have R2 := Aside0.mk r2_; have L6 := Aside0.mk l6_; clear hb_ ba_ bx_ sw_ s0_ r1_ r2_ l6_; refine goesL_ (some 26) rfl rfl Try.func17 (by kernel_rfl) rfl #[.agg #[.slice X0 p.length d0, .slice X1 wa.length d1, .slice X2 sa.length d2], .int .i64 a1] rfl (by (try simp only [List.map_toArray, List.map_cons, List.map_nil]); first | done | rfl) ?_; (with_reducible refine (impl_PostsAt.calls k _ _ p _ _ wa _ _ sa a1 g_ _ (Kd.S_reads' S0.out).2.2 (Kd.S_reads' S0.out).2.1 (Kd.R_reads' R1.out).2.2 (Kd.R_reads' R1.out).2.1 (Kd.R_reads' R2.out).2.2 (Kd.R_reads' R2.out).2.1 E4.out).mono ?_); rintro e w_7 ⟨vg, rfl, ho, hb⟩; refine ⟨_, rfl, ?_⟩; have SG := Aside0.mk (S_iv ho HB.out.size); have L7 := Aside0.mk hb.size; replace BA := Aside0.mk (blk_below BA.out hb); replace HB := Aside0.mk (below_step HB.out hb); replace BX := Aside0.mk (blk_below BX.out hb); replace SW := Aside0.mk (Kd.S_below SW.out hb); replace S0 := Aside0.mk (Kd.S_below S0.out hb); replace R1 := Aside0.mk (Kd.R_below R1.out hb); replace R2 := Aside0.mk (Kd.R_below R2.out hb); clear hb ho; obtain ⟨G0, gc, eg_⟩ := Kd.S_slice SG.out; subst eg_) | ((with_reducible refine gate_callee (f := 18) rfl ?_); refine goesL_ (some 29) rfl rfl Try.func18 (by kernel_rfl) rfl #[.slice G0 g_.length gc, .slice W0 r_.length wc] rfl (by (try simp only [List.map_toArray, List.map_cons, List.map_nil]); first | done | rfl) ?_; (with_reducible refine (laws_eqPostS.calls k _ _ g_ _ _ r_ true _ (Kd.S_reads' SG.out).2.2 (Kd.S_reads' SG.out).2.1 (Kd.S_reads' SW.out).2.2 (Kd.S_reads' SW.out).2.1 E5.out).mono ?_); rintro e w_8 ⟨rfl, hb⟩; refine ⟨_, rfl, ?_⟩; have L8 := Aside0.mk hb.size; replace BA := Aside0.mk (blk_below BA.out hb); replace HB := Aside0.mk (below_step HB.out hb); replace BX := Aside0.mk (blk_below BX.out hb); replace SW := Aside0.mk (Kd.S_below SW.out hb); replace S0 := Aside0.mk (Kd.S_below S0.out hb); replace R1 := Aside0.mk (Kd.R_below R1.out hb); replace R2 := Aside0.mk (Kd.R_below R2.out hb); replace SG := Aside0.mk (Kd.S_below SG.out hb); clear hb))
    have L46 := Aside0.mk (Nat.le_trans L5.out L6.out)
    have L36 := Aside0.mk (Nat.le_trans L4.out L46.out)
    replace BA := Aside0.mk (blk_drew BA.out)
    replace HB := Aside0.mk (below_drew1 HB.out)
    replace BX := Aside0.mk (blk_drew BX.out)
    replace SW := Aside0.mk (Kd.S_drew SW.out)
    replace S0 := Aside0.mk (Kd.S_drew S0.out)
    replace R1 := Aside0.mk (Kd.R_drew R1.out)
    replace R2 := Aside0.mk (Kd.R_drew R2.out)
    replace SG := Aside0.mk (Kd.S_drew SG.out)
    refine start_ (n := 5) (S := fun w' => w'.cell? ⟨gx, 0, none⟩ = some (.slice X0 p.length d0) ∧ w'.cell? ⟨gx, 1, none⟩ = some (.slice X1 wa.length d1) ∧ w'.cell? ⟨gx, 2, none⟩ = some (.slice X2 sa.length d2) ∧ w'.cell? ⟨ga, 0, none⟩ = some (.slice A0_0 l0_0.length c0_0) ∧ w'.cell? ⟨ga, 1, none⟩ = some (.slice A0_1 l0_1.length c0_1) ∧ w'.cell? ⟨ga, 2, none⟩ = some (.slice A0_2 l0_2.length c0_2)) (ds := []) #[false, false, false, false, false] (by kernel_rfl) rfl rfl ⟨(blk_cell BX.out 0).trans rfl, (blk_cell BX.out 1).trans rfl, (blk_cell BX.out 2).trans rfl, (blk_cell BA.out 0).trans rfl, (blk_cell BA.out 1).trans rfl, (blk_cell BA.out 2).trans rfl⟩ (fun hHeld => ?_)
    have hdr : w_8.drew.heap.size = w_8.heap.size := rfl
    generalize w_8.drew = w_9 at BA HB BX SW S0 R1 R2 SG hHeld hdr ⊢
    have L9 := Aside0.mk hdr
    clear hdr
    refine take_ (i := 0) (N := some 31) (v := ?_) (a' := ?_) #[true, false, false, false, false] rfl rfl (by kernel_rfl) (fun _ _ _ h => h) (Or.inl ⟨by rfl, ?_⟩) hHeld ?_ ?_
    rotate_left
    · rintro w' ⟨s0, s1, s2, s3, s4, s5⟩
      go_simp
      with_reducible rfl
    rotate_left
    · simp only [Act.put, List.setIfInBounds_toArray, List.set_cons_zero, List.set_cons_succ, i64_w, i32_w]
      rfl
    refine take_ (i := 1) (N := some 32) (v := ?_) (a' := ?_) #[true, true, false, false, false] rfl rfl (by kernel_rfl) (fun _ _ _ h => h) (Or.inl ⟨by rfl, ?_⟩) hHeld ?_ ?_
    rotate_left
    · rintro w' ⟨s0, s1, s2, s3, s4, s5⟩
      go_simp
      with_reducible rfl
    rotate_left
    · simp only [Act.put, List.setIfInBounds_toArray, List.set_cons_zero, List.set_cons_succ, i64_w, i32_w]
      rfl
    refine one_ (i := 2) (N := some 33) #[true, true, true, false, false] rfl rfl (by kernel_rfl) (by decide) (fun K hK => ?_)
    refine goes_ Try.func8 (by kernel_rfl) rfl #[.agg #[.slice A0_0 l0_0.length c0_0, .slice A0_1 l0_1.length c0_1, .slice A0_2 l0_2.length c0_2]] (by rfl) rfl rfl (by (try simp only [List.map_toArray, List.map_cons, List.map_nil]); first | done | rfl) ?_
    with_reducible refine (laws_toScript.calls k _ _ l0_0 _ _ l0_1 _ _ l0_2 p wa sa _ (Kd.C_below HR0_0.out HB.out) HC0_0.out (Kd.C_below HR0_1.out HB.out) HC0_1.out (Kd.C_below HR0_2.out HB.out) HC0_2.out E2.out).mono ?_
    rintro e w_10 ⟨t0, t1, t2, rfl, ho0, ho1, ho2, hb⟩
    refine ⟨_, rfl, ?_⟩
    have L10 := Aside0.mk hb.size
    replace BA := Aside0.mk (blk_below BA.out hb)
    replace BX := Aside0.mk (blk_below BX.out hb)
    replace SW := Aside0.mk (Kd.S_below SW.out hb)
    replace S0 := Aside0.mk (Kd.S_below S0.out hb)
    replace R1 := Aside0.mk (Kd.R_below R1.out hb)
    replace R2 := Aside0.mk (Kd.R_below R2.out hb)
    replace SG := Aside0.mk (Kd.S_below SG.out hb)
    replace HB := Aside0.mk (below_step HB.out hb)
    have T0 := Aside0.mk ho0
    have T1 := Aside0.mk ho1
    have T2 := Aside0.mk ho2
    clear hb ho0 ho1 ho2
    obtain ⟨Y0, y0, eY0_⟩ := Kd.S_slice T0.out
    subst eY0_
    obtain ⟨Y1, y1, eY1_⟩ := Kd.R_slice T1.out
    subst eY1_
    obtain ⟨Y2, y2, eY2_⟩ := Kd.R_slice T2.out
    subst eY2_
    refine hK.out _ _ ⟨(blk_cell BX.out 0).trans rfl, (blk_cell BX.out 1).trans rfl, (blk_cell BX.out 2).trans rfl, (blk_cell BA.out 0).trans rfl, (blk_cell BA.out 1).trans rfl, (blk_cell BA.out 2).trans rfl⟩ (fun hHeld => ?_)
    clear hK K
    refine norm_ (a' := ?_) ?_ ?_
    rotate_left
    · show Act.put _ (some 33) _ = _
      simp only [Act.put, List.setIfInBounds_toArray, List.set_cons_zero, List.set_cons_succ, i64_w, i32_w]
      rfl
    refine one_ (i := 3) (N := some 34) #[true, true, true, true, false] rfl rfl (by kernel_rfl) (by decide) (fun K hK => ?_)
    refine goes_ Try.func10 (by kernel_rfl) rfl #[.agg #[.slice X0 p.length d0, .slice X1 wa.length d1, .slice X2 sa.length d2], .agg #[.slice Y0 p.length y0, .slice Y1 wa.length y1, .slice Y2 sa.length y2]] (by rfl) rfl rfl (by (try simp only [List.map_toArray, List.map_cons, List.map_nil]); first | done | rfl) ?_
    with_reducible refine (laws_eqScript.calls k _ _ p _ _ wa _ _ sa _ _ p _ _ wa _ _ sa true _ (Kd.S_reads' S0.out).2.2 (Kd.S_reads' S0.out).2.1 (Kd.R_reads' R1.out).2.2 (Kd.R_reads' R1.out).2.1 (Kd.R_reads' R2.out).2.2 (Kd.R_reads' R2.out).2.1 (Kd.S_reads' T0.out).2.2 (Kd.S_reads' T0.out).2.1 (Kd.R_reads' T1.out).2.2 (Kd.R_reads' T1.out).2.1 (Kd.R_reads' T2.out).2.2 (Kd.R_reads' T2.out).2.1 E6.out).mono ?_
    rintro e w_11 ⟨rfl, hb⟩
    refine ⟨_, rfl, ?_⟩
    have L11 := Aside0.mk hb.size
    replace BA := Aside0.mk (blk_below BA.out hb)
    replace BX := Aside0.mk (blk_below BX.out hb)
    replace SW := Aside0.mk (Kd.S_below SW.out hb)
    replace S0 := Aside0.mk (Kd.S_below S0.out hb)
    replace R1 := Aside0.mk (Kd.R_below R1.out hb)
    replace R2 := Aside0.mk (Kd.R_below R2.out hb)
    replace SG := Aside0.mk (Kd.S_below SG.out hb)
    replace T0 := Aside0.mk (Kd.S_below T0.out hb)
    replace T1 := Aside0.mk (Kd.R_below T1.out hb)
    replace T2 := Aside0.mk (Kd.R_below T2.out hb)
    replace HB := Aside0.mk (below_step HB.out hb)
    clear hb T0 T1 T2
    refine hK.out _ _ ⟨(blk_cell BX.out 0).trans rfl, (blk_cell BX.out 1).trans rfl, (blk_cell BX.out 2).trans rfl, (blk_cell BA.out 0).trans rfl, (blk_cell BA.out 1).trans rfl, (blk_cell BA.out 2).trans rfl⟩ (fun hHeld => ?_)
    clear hK K
    refine norm_ (a' := ?_) ?_ ?_
    rotate_left
    · show Act.put _ (some 34) _ = _
      simp only [Act.put, List.setIfInBounds_toArray, List.set_cons_zero, List.set_cons_succ, i64_w, i32_w]
      rfl
    refine pure_ (i := 4) (N := some 35) (v := ?_) (a' := ?_) #[true, true, true, true, true] rfl rfl (by kernel_rfl) (fun _ _ _ h => h) (Or.inl ⟨by rfl, ?_⟩) ?_ ?_
    rotate_left
    · intro w'
      go_simp
      with_reducible rfl
    rotate_left
    · simp only [Act.put, List.setIfInBounds_toArray, List.set_cons_zero, List.set_cons_succ, i64_w, i32_w]
      rfl
    refine done_ (by kernel_rfl) ?_
    obtain ⟨hz0, hz1, hz2, hz3, hz4, hz5⟩ := hHeld
    have hq0 := blk_frozen BX.out 0
    have hq1 := blk_frozen BX.out 1
    have hq2 := blk_frozen BX.out 2
    have L11a := Aside0.mk (Nat.le_trans L46.out (Nat.le_trans L7.out (Nat.le_trans L8.out (Nat.le_trans (Nat.le_of_eq L9.out.symm) (Nat.le_trans L10.out L11.out)))))
    go_wp2_with (first | ((with_reducible refine gate_callee (f := 19) rfl ?_); refine goesL_ (some 38) rfl rfl Try.func19 (by kernel_rfl) rfl #[.agg #[.slice X0 p.length d0, .slice X1 wa.length d1, .slice X2 sa.length d2], .int .i64 1] rfl (by (try simp only [List.map_toArray, List.map_cons, List.map_nil]); first | done | rfl) ?_; (with_reducible refine (laws_markScript.calls k (IV w_3.heap.size w_4.heap.size) _ _ _ p wa sa 1 m0_ w _ HB.out (fun k h => iv_lt h L11a.out) S0.out R1.out R2.out E7.out).mono ?_); rintro e w_12 ⟨rfl, hb, hk⟩; refine ⟨_, rfl, ?_⟩; replace HB := Aside0.mk hb; replace SW := Aside0.mk (Kd.S_kept SW.out hk (fun k => iv_apart (Nat.le_refl _))); replace SG := Aside0.mk (Kd.S_kept SG.out hk (fun k => iv_apart' L46.out)); replace BA := Aside0.mk (blk_kept BA.out hk (fun h => absurd GA.out (Nat.not_lt.2 h.1))); clear hb hk S0 R1 R2 BX) | (go_at_call 18; (with_reducible refine (laws_eqPostS.calls k _ _ g_ _ _ r_ true _ (Kd.S_reads' SG.out).2.2 (Kd.S_reads' SG.out).2.1 (Kd.S_reads' SW.out).2.2 (Kd.S_reads' SW.out).2.1 E5.out).mono ?_); rintro e w_13 ⟨rfl, hb⟩; replace BA := Aside0.mk (blk_below BA.out hb); replace SW := Aside0.mk (Kd.S_below SW.out hb); replace SG := Aside0.mk (Kd.S_below SG.out hb); replace HB := Aside0.mk (below_step HB.out hb); clear hb) | ((with_reducible refine gate_callee (f := 20) rfl ?_); refine goesL_ (some 49) rfl rfl Try.func20 (by kernel_rfl) rfl #[.slice G0 g_.length gc, .int .i64 1] rfl (by (try simp only [List.map_toArray, List.map_cons, List.map_nil]); first | done | rfl) ?_; (with_reducible refine (laws_markPostS.calls k (IV w_6.heap.size w_7.heap.size) _ g_ 1 q_ gm_ w _ HB.out SG.out E8.out).mono ?_); rintro e w_14 ⟨rfl, hs, hb, hk⟩; refine ⟨_, rfl, ?_⟩; replace HB := Aside0.mk hb; replace SG := Aside0.mk hs; replace SW := Aside0.mk (Kd.S_kept SW.out hk (fun k => iv_apart L36.out)); replace BA := Aside0.mk (blk_kept BA.out hk (fun h => absurd GA.out (Nat.not_lt.2 (Nat.le_trans L36.out h.1)))); clear hb hk hs; have hgl := (Kd.S_reads' SG.out).1; have HGL := Aside0.mk hgl; clear hgl) | ((with_reducible refine gate_callee (f := 21) rfl ?_); refine goesL_ (some 52) rfl rfl Try.func21 (by kernel_rfl) rfl #[.slice G0 gm_.length gc, .int .i64 1] rfl (by (try simp only [List.map_toArray, List.map_cons, List.map_nil]); first | done | rfl | (rw [← HGL.out] <;> rfl)) ?_; (with_reducible refine (laws_heldPostS.calls k _ _ gm_ 1 q_ _ ?sa_52 ?sb_52 E9.out).mono ?_); (case sa_52 => exact (Kd.S_reads' SG.out).2.2); (case sb_52 => exact HGL.out ▸ (Kd.S_reads' SG.out).2.1); rintro e w_15 ⟨rfl, hd⟩; refine ⟨_, rfl, ?_⟩; have hb := hd.below; replace BA := Aside0.mk (blk_below BA.out hb); replace SW := Aside0.mk (Kd.S_below SW.out hb); replace SG := Aside0.mk (Kd.S_below SG.out hb); replace HB := Aside0.mk (below_step HB.out hb); clear hb hd; have hze_0 : w_15.cell? ⟨ga, 0, none⟩ = some (.slice A0_0 l0_0.length c0_0) := (blk_cell BA.out 0).trans rfl; have hye_0 := blk_frozen BA.out 0; have hze_1 : w_15.cell? ⟨ga, 1, none⟩ = some (.slice A0_1 l0_1.length c0_1) := (blk_cell BA.out 1).trans rfl; have hye_1 := blk_frozen BA.out 1; have hze_2 : w_15.cell? ⟨ga, 2, none⟩ = some (.slice A0_2 l0_2.length c0_2) := (blk_cell BA.out 2).trans rfl; have hye_2 := blk_frozen BA.out 2) | ((with_reducible refine gate_callee (f := 8) rfl ?_); refine goesL_ (some 59) rfl rfl Try.func8 (by kernel_rfl) rfl #[.agg #[.slice A0_0 l0_0.length c0_0, .slice A0_1 l0_1.length c0_1, .slice A0_2 l0_2.length c0_2]] rfl (by (try simp only [List.map_toArray, List.map_cons, List.map_nil]); first | done | rfl) ?_; (with_reducible refine (laws_toScript.calls k _ _ l0_0 _ _ l0_1 _ _ l0_2 p wa sa _ (Kd.C_below HR0_0.out HB.out) HC0_0.out (Kd.C_below HR0_1.out HB.out) HC0_1.out (Kd.C_below HR0_2.out HB.out) HC0_2.out E2.out).mono ?_); rintro e w_16 ⟨t0, t1, t2, rfl, ho0, ho1, ho2, hb⟩; refine ⟨_, rfl, ?_⟩; replace SW := Aside0.mk (Kd.S_below SW.out hb); replace SG := Aside0.mk (Kd.S_below SG.out hb); replace HB := Aside0.mk (below_step HB.out hb); have T0 := Aside0.mk ho0; have T1 := Aside0.mk ho1; have T2 := Aside0.mk ho2; clear hb ho0 ho1 ho2; obtain ⟨U0, u0, eU0_⟩ := Kd.S_slice T0.out; subst eU0_; obtain ⟨U1, u1, eU1_⟩ := Kd.R_slice T1.out; subst eU1_; obtain ⟨U2, u2, eU2_⟩ := Kd.R_slice T2.out; subst eU2_) | ((with_reducible refine gate_callee (f := 17) rfl ?_); refine goesL_ (some 61) rfl rfl Try.func17 (by kernel_rfl) rfl #[.agg #[.slice U0 p.length u0, .slice U1 wa.length u1, .slice U2 sa.length u2], .int .i64 a1] rfl (by (try simp only [List.map_toArray, List.map_cons, List.map_nil]); first | done | rfl) ?_; (with_reducible refine (impl_PostsAt.calls k _ _ p _ _ wa _ _ sa a1 g_ _ (Kd.S_reads' T0.out).2.2 (Kd.S_reads' T0.out).2.1 (Kd.R_reads' T1.out).2.2 (Kd.R_reads' T1.out).2.1 (Kd.R_reads' T2.out).2.2 (Kd.R_reads' T2.out).2.1 E4.out).mono ?_); rintro e w_17 ⟨vh, rfl, ho, hb⟩; refine ⟨_, rfl, ?_⟩; replace SW := Aside0.mk (Kd.S_below SW.out hb); replace SG := Aside0.mk (Kd.S_below SG.out hb); replace HB := Aside0.mk (below_step HB.out hb); have SH := Aside0.mk ho; clear hb ho T0 T1 T2; obtain ⟨H0, hc, eh_⟩ := Kd.S_slice SH.out; subst eh_) | ((with_reducible refine gate_callee (f := 18) rfl ?_); refine goesL_ (some 64) rfl rfl Try.func18 (by kernel_rfl) rfl #[.slice H0 g_.length hc, .slice W0 r_.length wc] rfl (by (try simp only [List.map_toArray, List.map_cons, List.map_nil]); first | done | rfl) ?_; (with_reducible refine (laws_eqPostS.calls k _ _ g_ _ _ r_ true _ (Kd.S_reads' SH.out).2.2 (Kd.S_reads' SH.out).2.1 (Kd.S_reads' SW.out).2.2 (Kd.S_reads' SW.out).2.1 E5.out).mono ?_); rintro e w_18 ⟨rfl, hb⟩; refine ⟨_, rfl, ?_⟩; replace SG := Aside0.mk (Kd.S_below SG.out hb); replace HB := Aside0.mk (below_step HB.out hb); clear hb SH) | ((with_reducible refine gate_callee (f := 21) rfl ?_); refine goesL_ (some 68) rfl rfl Try.func21 (by kernel_rfl) rfl #[.slice G0 gm_.length gc, .int .i64 1] rfl (by (try simp only [List.map_toArray, List.map_cons, List.map_nil]); first | done | rfl | (rw [← HGL.out] <;> rfl)) ?_; (with_reducible refine (laws_heldPostS.calls k _ _ gm_ 1 q_ _ ?sa_68 ?sb_68 E9.out).mono ?_); (case sa_68 => exact (Kd.S_reads' SG.out).2.2); (case sb_68 => exact HGL.out ▸ (Kd.S_reads' SG.out).2.1); rintro e w_19 ⟨rfl, hd⟩; refine ⟨_, rfl, ?_⟩; have hb := hd.below; replace HB := Aside0.mk (below_step HB.out hb); clear hb hd))
    go_ret
    exact ⟨rfl, HB.out⟩


end Go.Proofs.Ytkolojgkpmbbbaa.MFnExactPostsAt
