-- Written by a program of this session out of the translation.
import Derived.Test.YtbobnopnfjcajaaPx0
import Derived.Test.YtbobnopnfjcajaaPz
import Derived.Test.YtbobnopnfjcajaaPx28
import Derived.Test.YtbobnopnfjcajaaPx29
namespace Go.Proofs.Ytbobnopnfjcajaa.P
open Go.RowKit Go.Proofs.YtbobnopnfjcajaaW.PrintWords Go.Proofs.YtbobnopnfjcajaaW.PrintLast Go.Proofs.YtbobnopnfjcajaaW.PrintMore
attribute [local go_sem] max2_int min2_int max_two min_two max_three min_three max_four min_four   -- for this text's walks alone
set_option linter.unusedVariables false
set_option linter.unusedSimpArgs false

/-! ### moraineref4_First: function 18 -/
def moraineref4_First.f (k : Nat) (l0 : List Int) : Option (Bool × List Int × (List (S25)) × Int × Int) := if (l0.length : Int) > 65536 then (some (false, ([] : List Int), ([] : List (S25)), 0, 44)) else ((moraineref4_reader_item.f k l0 0 0 0 (l0.length : Int) 1).bind fun bt479 => (if bt479.2.2.2.2.2 = 0 then (some (bt479.1, bt479.2.1, bt479.2.2.1, bt479.2.2.2.1, 0)) else (some (false, ([] : List Int), ([] : List (S25)), 0, bt479.2.2.2.2.2))))
theorem moraineref4_First.mono : ∀ a0 k, LeO (moraineref4_First.f k a0) (moraineref4_First.f (k + 1) a0) := by
  intro a0 k
  unfold moraineref4_First.f
  repeat' first
      | (with_reducible exact moraineref4_reader_item.mono _ _ _ _ _ _ _)
      | (with_reducible exact LeO.refl _)
      | (with_reducible exact LeO.none _)
      | (with_reducible refine LeO.ite ?_ ?_)
      | (with_reducible refine LeO.bind ?_ (fun _ => ?_))
      | exact moraineref4_reader_item.mono _ _ _ _ _ _ _
      | exact LeO.none _
      | refine LeO.ite ?_ ?_
      | refine LeO.bind ?_ (fun _ => ?_)
def moraineref4_First.T6 : Bool × List (List Nat × List Nat) := (true, [([], []), ([], []), ([1], [1]), ([2], [2]), ([3], [3]), ([0, 0], [0]), ([5, 0, 5], []), ([4, 6, 0, 1, 2, 3, 4, 5, 6], [4])])
def moraineref4_First.B6 : List Nat := [0, 0, 2, 6, 14, 1, 33, 127]
theorem moraineref4_First.tab6 : rtab .any (opsOf Try.f18 6) = moraineref4_First.T6 := by kernel_rfl
theorem moraineref4_First.bits6 : waitsOk moraineref4_First.T6.2 moraineref4_First.B6 = true := by kernel_rfl
set_option maxHeartbeats 8000000 in
set_option maxRecDepth 100000 in
theorem moraineref4_First.calls (k : Nat) (A0 : Option Addr) (c0 : Nat) (l0 : List Int) (r1 : Bool) (r2 : List Int) (r3 : List (S25)) (r4 : Int) (r5 : Int) (w : World) (hr0 : Kd.C (Kd.int .u8) w A0 l0.length l0) (hc0 : l0.length ≤ c0) (h : moraineref4_First.f k l0 = some (r1, r2, r3, r4, r5)) :
    Calls Try.prog 18 #[.slice A0 l0.length c0] w fun e w' => ∃ v1_ v2_ : Value, e = .returned (.tuple #[.agg #[.bool r1, v1_, v2_], .int .i64 r4, .int .i64 r5]) ∧ Kd.R (Kd.int .u8) 5 w' w.heap.size (fun _ => True) v1_ r2 ∧ Kd.R k25 25 w' w.heap.size (fun k_ => some k_ ≠ (v1_ : Value).ownBlock) v2_ r3 ∧ Below w.heap.size w w' := by
  have hu25 := Try.underlying25
  have hu65 := Try.underlying65
  have HR0 := Aside0.mk hr0
  have HC0 := Aside0.mk hc0
  clear hr0 hc0
  have HB := Aside0.mk (Below.refl w.heap.size w)
  have H : (if (l0.length : Int) > 65536 then (some (false, ([] : List Int), ([] : List (S25)), 0, 44)) else ((moraineref4_reader_item.f k l0 0 0 0 (l0.length : Int) 1).bind fun bt479 => (if bt479.2.2.2.2.2 = 0 then (some (bt479.1, bt479.2.1, bt479.2.2.1, bt479.2.2.2.1, 0)) else (some (false, ([] : List Int), ([] : List (S25)), 0, bt479.2.2.2.2.2))))) = some (r1, r2, r3, r4, r5) := h
  clear h
  by_cases c2 : (l0.length : Int) > 65536
  · rw [if_pos c2] at H
    have c2b0 : decide (65536 < (l0.length : Int)) = true := decide_eq_true c2
    have c2b1 : decide (65536 < l0.length) = true := decide_eq_true (by omega)
    clear c2
    simp only [Option.some.injEq, Prod.mk.injEq] at H
    obtain ⟨rfl, rfl, rfl, rfl, rfl⟩ := H
    go_enter Try.func18, Try.ntmps18
    go_wp2_with (first | ((with_reducible refine gate_dst (N := 2) rfl ?_); refine box_event ?hg (N := 2) ?hd (cs := #[.bool false, .slice none 0 0, .slice none 0 0]) (t := 25) ?hr ?_; (case hd => rfl); (case hg => rfl); (case hr => first | (go_simp; done) | (go_simp; rfl)); intro gb477 hg w3 hbox hb; have n0_ := Aside0.mk (below_step (zw2 HB.out) hb); have n1_ := Aside0.mk (hbox); have n2_ := Aside0.mk ((by rw [hg]; exact (below_size (zw2 HB.out)) : w.heap.size ≤ gb477)); have n3_ := Aside0.mk ((by rw [hg]; exact (below_size (zw2 HB.out)) : w.heap.size ≤ gb477)); clear HB; have HB := n0_; have BK477 := n1_; have GW477 := n2_; have GE477 := n3_; clear n0_ n1_ n2_ n3_; clear hb hbox hg; have hcz4_0 : w3.cell? ⟨gb477, 0, none⟩ = some (.bool false) := (blk_cell BK477.out 0).trans rfl; have hcz4_1 : w3.cell? ⟨gb477, 1, none⟩ = some (.slice none 0 0) := (blk_cell BK477.out 1).trans rfl; have hcz4_2 : w3.cell? ⟨gb477, 2, none⟩ = some (.slice none 0 0) := (blk_cell BK477.out 2).trans rfl; have hfz4_0 := blk_frozen BK477.out 0; have hfz4_1 := blk_frozen BK477.out 1; have hfz4_2 := blk_frozen BK477.out 2))
    refine bodyPost_ret (results_ctt rfl _ _ gb477 25 #[.bool false, .slice none 0 0, .slice none 0 0] (0, 0) _ rfl (by (with_reducible repeat (first | refine blk_drewN ?_ _ | refine blk_drew ?_ | refine blk_alloc ?_ _)); refine blk_put (cs := #[.bool false, .slice none 0 0, .slice none 0 0]) ?_ 2 _ rfl; (with_reducible repeat (first | refine blk_drewN ?_ _ | refine blk_drew ?_ | refine blk_alloc ?_ _)); refine blk_put (cs := #[.bool false, .slice none 0 0, .slice none 0 0]) ?_ 1 _ rfl; (with_reducible repeat (first | refine blk_drewN ?_ _ | refine blk_drew ?_ | refine blk_alloc ?_ _)); refine blk_put (cs := #[.bool false, .slice none 0 0, .slice none 0 0]) ?_ 0 _ rfl; (with_reducible repeat (first | refine blk_drewN ?_ _ | refine blk_drew ?_ | refine blk_alloc ?_ _)); exact BK477.out) Try.underlying25 rfl (by kernel_rfl)) rfl ?_
    exact ⟨_, _, by first | rfl | (simp [errW_none, errW_some] <;> rfl) | (simp [*, errW_none, errW_some] <;> rfl), by first | exact Kd.R_nil _ _ _ _ _ | exact Kd.N_nil _ _ _ _ _ | exact Kd.V_nil _ _ _ _ _ | exact Kd.Q_nil _ _ _ _ _ | exact Kd.S_nil _ _ _ _ _, by first | exact Kd.R_nil _ _ _ _ _ | exact Kd.N_nil _ _ _ _ _ | exact Kd.V_nil _ _ _ _ _ | exact Kd.Q_nil _ _ _ _ _ | exact Kd.S_nil _ _ _ _ _, by repeat (first | (with_reducible first | exact HB.out | apply below_alloc | apply pw_below_drewN | apply below_drew1 | refine below_set ?_ GE477.out) | exact HB.out)⟩
  · rw [if_neg c2] at H
    have c2b0 : decide (65536 < (l0.length : Int)) = false := decide_eq_false c2
    have c2b1 : decide (65536 < l0.length) = false := decide_eq_false (by omega)
    clear c2
    replace H := Option.bind_eq_some_iff.mp H
    obtain ⟨⟨t479, t480, t483, t486, t487, t488⟩, A50, H⟩ := H
    replace H : (if t488 = 0 then (some (t479, t480, t483, t486, 0)) else (some (false, ([] : List Int), ([] : List (S25)), 0, t488))) = some (r1, r2, r3, r4, r5) := H
    have A5 := Aside0.mk A50
    clear A50
    by_cases c6 : t488 = 0
    · rw [if_pos c6] at H
      have c6b0 : (t488 == 0) = true := beq_iff_eq.mpr c6
      have c6b1 : (t488 != 0) = false := bne_eq_false_iff_eq.mpr c6
      clear c6
      simp only [Option.some.injEq, Prod.mk.injEq] at H
      obtain ⟨rfl, rfl, rfl, rfl, rfl⟩ := H
      go_enter Try.func18, Try.ntmps18
      go_wp2_with (first | ((with_reducible refine gate_dst (N := 2) rfl ?_); refine box_event ?hg (N := 2) ?hd (cs := #[.bool false, .slice none 0 0, .slice none 0 0]) (t := 25) ?hr ?_; (case hd => rfl); (case hg => rfl); (case hr => first | (go_simp; done) | (go_simp; rfl)); intro gb477 hg w7 hbox hb; have n0_ := Aside0.mk (below_step (zw2 HB.out) hb); have n1_ := Aside0.mk (hbox); have n2_ := Aside0.mk ((by rw [hg]; exact (below_size (zw2 HB.out)) : w.heap.size ≤ gb477)); have n3_ := Aside0.mk ((by rw [hg]; exact (below_size (zw2 HB.out)) : w.heap.size ≤ gb477)); clear HB; have HB := n0_; have BK477 := n1_; have GW477 := n2_; have GE477 := n3_; clear n0_ n1_ n2_ n3_; clear hb hbox hg) | ((with_reducible refine gate_dst (N := 14) rfl ?_); refine box_event ?hg (N := 14) ?hd (cs := #[.slice A0 l0.length c0, .int .i64 0, .int .i64 0]) (t := 65) ?hr ?_; (case hd => rfl); (case hg => rfl); (case hr => first | (go_simp; done) | (go_simp; rfl)); intro gb478 hg w8 hbox hb; have n0_ := Aside0.mk (blk_below (g := gb477) (o := .cells #[.bool false, .slice none 0 0, .slice none 0 0] 25 (0, 0)) (zw0 BK477.out) hb); have n1_ := Aside0.mk (below_step (zw3 HB.out GE477.out) hb); have n2_ := Aside0.mk (hbox); have n3_ := Aside0.mk ((by rw [hg]; exact (below_size (zw3 HB.out GE477.out)) : w.heap.size ≤ gb478)); have n4_ := Aside0.mk ((by rw [hg]; exact (below_size (zw3 HB.out GE477.out)) : w.heap.size ≤ gb478)); have n5_ := Aside0.mk ((by rw [hg]; exact Nat.ne_of_lt (blk_lt (g := gb477) (o := .cells #[.bool false, .slice none 0 0, .slice none 0 0] 25 (0, 0)) (zw0 BK477.out)) : gb477 ≠ gb478)); have n6_ := Aside0.mk ((by rw [hg]; exact Nat.ne_of_gt (blk_lt (g := gb477) (o := .cells #[.bool false, .slice none 0 0, .slice none 0 0] 25 (0, 0)) (zw0 BK477.out)) : gb478 ≠ gb477)); clear BK477; clear HB; have BK477 := n0_; have HB := n1_; have BK478 := n2_; have GW478 := n3_; have GE478 := n4_; have NB477_478 := n5_; have NB478_477 := n6_; clear n0_ n1_ n2_ n3_ n4_ n5_ n6_; clear hb hbox hg; have HI478 := Aside0.mk (⟨_, _, BK478.out, GE478.out, ⟨HR0.out, HC0.out⟩⟩ : IsS65 w _ gb478 l0 0 0); clear BK478) | ((with_reducible refine gate_callee (f := 29) rfl ?_); refine goesL_ (some 19) rfl rfl Try.func29 (by kernel_rfl) rfl #[.pointer (some ⟨gb478, 0, none⟩), .int .i64 0, .int .i64 (l0.length : Int), .int .i64 1] rfl zw6 ?_; (with_reducible refine (moraineref4_reader_item.calls k gb478 l0 0 0 0 (l0.length : Int) 1 t479 t480 t483 t486 t487 t488 w _ ?side1 ?side2 A5.out).mono ?_); (case side1 => exact zw24 HI478.out NB478_477.out); (case side2 => exact zw18 HB.out HI478.out GE477.out); rintro e w9 ⟨v481, v484, rfl, ho0, ho1, hi, hb, hk⟩; refine ⟨_, rfl, ?_⟩; have n0_ := Aside0.mk (KeepBut.blk hk (g' := gb477) (o := .cells #[.bool false, .slice none 0 0, .slice none 0 0] 25 (0, 0)) (zw0 BK477.out) NB477_478.out (by simp)); have n1_ := Aside0.mk (Kd.R_lower ho0 (below_size (zw18 HB.out HI478.out GE477.out))); have n2_ := Aside0.mk (Kd.R_lower (Kd.R_newB ho1 (g := gb477) (o := .cells #[.bool false, .slice none 0 0, .slice none 0 0] 25 (0, 0)) (zw0 BK477.out)) (below_size (zw18 HB.out HI478.out GE477.out))); have n3_ := Aside0.mk (hb); have n4_ := Aside0.mk (hi); clear BK477; clear HB; clear HI478; have BK477 := n0_; have HO482 := n1_; have HO485 := n2_; have HB := n3_; have HI478 := n4_; clear n0_ n1_ n2_ n3_ n4_; (try clear hb); (try clear hb2); (try clear hk); (try clear hi); (try clear ho0); (try clear ho1)) | ((with_reducible refine gate_dst (N := 6) rfl ?_); refine box_event ?hg (N := 6) ?hd (cs := #[.bool false, .slice none 0 0, .slice none 0 0]) (t := 25) ?hr ?_; (case hd => rfl); (case hg => rfl); (case hr => first | (go_simp; done) | (go_simp; rfl)); intro gb489 hg w10 hbox hb; have n0_ := Aside0.mk (Kd.R_below (zw1 HO482.out) hb); have n1_ := Aside0.mk (Kd.R_below (Kd.R_elderB (zw1 HO485.out) gb489 (Nat.le_of_eq hg.symm)) hb); have n2_ := Aside0.mk (blk_below (g := gb477) (o := .cells #[.bool false, .slice none 0 0, .slice none 0 0] 25 (0, 0)) (zw0 BK477.out) hb); have n3_ := Aside0.mk (IsS65.below (zw24 HI478.out NB478_477.out) hb); have n4_ := Aside0.mk (below_step (zw18 HB.out HI478.out GE477.out) hb); have n5_ := Aside0.mk (hbox); have n6_ := Aside0.mk ((by rw [hg]; exact (below_size (zw18 HB.out HI478.out GE477.out)) : w.heap.size ≤ gb489)); have n7_ := Aside0.mk ((by rw [hg]; exact (below_size (zw18 HB.out HI478.out GE477.out)) : w.heap.size ≤ gb489)); have n8_ := Aside0.mk ((by rw [hg]; exact Nat.ne_of_lt (blk_lt (g := gb477) (o := .cells #[.bool false, .slice none 0 0, .slice none 0 0] 25 (0, 0)) (zw0 BK477.out)) : gb477 ≠ gb489)); have n9_ := Aside0.mk ((by rw [hg]; exact Nat.ne_of_gt (blk_lt (g := gb477) (o := .cells #[.bool false, .slice none 0 0, .slice none 0 0] 25 (0, 0)) (zw0 BK477.out)) : gb489 ≠ gb477)); have n10_ := Aside0.mk ((by rw [hg]; exact Nat.ne_of_lt (IsS65.lt (show IsS65 w _ gb478 l0 t487 t488 from by repeat (first | (with_reducible first | exact HI478.out | apply IsS65.alloc | apply IsS65.drewN | apply IsS65.drew | apply IsS65.set_1 | apply IsS65.set_2 | refine IsS65.far ?_ NB478_477.out _) | exact HI478.out))) : gb478 ≠ gb489)); have n11_ := Aside0.mk ((by rw [hg]; exact Nat.ne_of_gt (IsS65.lt (show IsS65 w _ gb478 l0 t487 t488 from by repeat (first | (with_reducible first | exact HI478.out | apply IsS65.alloc | apply IsS65.drewN | apply IsS65.drew | apply IsS65.set_1 | apply IsS65.set_2 | refine IsS65.far ?_ NB478_477.out _) | exact HI478.out))) : gb489 ≠ gb478)); clear HO482; clear HO485; clear BK477; clear HI478; clear HB; have HO482 := n0_; have HO485 := n1_; have BK477 := n2_; have HI478 := n3_; have HB := n4_; have BK489 := n5_; have GW489 := n6_; have GE489 := n7_; have NB477_489 := n8_; have NB489_477 := n9_; have NB478_489 := n10_; have NB489_478 := n11_; clear n0_ n1_ n2_ n3_ n4_ n5_ n6_ n7_ n8_ n9_ n10_ n11_; clear hb hbox hg; have hnb11 := NB489_477.out; have hnc11 := NB477_489.out; have hnb12 := NB489_478.out; have hnc12 := NB478_489.out; have hcz13_0 : w10.cell? ⟨gb489, 0, none⟩ = some (.bool false) := (blk_cell BK489.out 0).trans rfl; have hcz13_1 : w10.cell? ⟨gb489, 1, none⟩ = some (.slice none 0 0) := (blk_cell BK489.out 1).trans rfl; have hcz13_2 : w10.cell? ⟨gb489, 2, none⟩ = some (.slice none 0 0) := (blk_cell BK489.out 2).trans rfl; have hfz13_0 := blk_frozen BK489.out 0; have hfz13_1 := blk_frozen BK489.out 1; have hfz13_2 := blk_frozen BK489.out 2; obtain ⟨Ao14, co14, eo14⟩ := Kd.R_slice HO482.out; subst eo14; obtain ⟨Ao15, co15, eo15⟩ := Kd.R_slice HO485.out; subst eo15; obtain ⟨ASz16_0, cSz16_0, HGz16, hgz16, ⟨HSz16_0, HCSz16_0⟩⟩ := HI478.out; have hcz16_0 := cellS65_0 HGz16; have hcz16_1 := cellS65_1 HGz16; have hcz16_2 := cellS65_2 HGz16; have hfz16_1 := blk_frozen HGz16 1; have hfz16_2 := blk_frozen HGz16 2; clear HGz16 hgz16; have hnb17 := NB477_478.out; have hnc17 := NB478_477.out; have hcz18_0 : w10.cell? ⟨gb477, 0, none⟩ = some (.bool false) := (blk_cell BK477.out 0).trans rfl; have hcz18_1 : w10.cell? ⟨gb477, 1, none⟩ = some (.slice none 0 0) := (blk_cell BK477.out 1).trans rfl; have hcz18_2 : w10.cell? ⟨gb477, 2, none⟩ = some (.slice none 0 0) := (blk_cell BK477.out 2).trans rfl; have hfz18_0 := blk_frozen BK477.out 0; have hfz18_1 := blk_frozen BK477.out 1; have hfz18_2 := blk_frozen BK477.out 2))
      refine bodyPost_ret (results_ctt rfl _ _ gb477 25 #[.bool t479, .slice Ao14 t480.length co14, .slice Ao15 t483.length co15] (0, 0) _ rfl (by (with_reducible repeat (first | refine blk_drewN ?_ _ | refine blk_drew ?_ | refine blk_alloc ?_ _)); refine blk_put (cs := #[.bool t479, .slice Ao14 t480.length co14, .slice none 0 0]) ?_ 2 _ rfl; (with_reducible repeat (first | refine blk_drewN ?_ _ | refine blk_drew ?_ | refine blk_alloc ?_ _)); refine blk_put (cs := #[.bool t479, .slice none 0 0, .slice none 0 0]) ?_ 1 _ rfl; (with_reducible repeat (first | refine blk_drewN ?_ _ | refine blk_drew ?_ | refine blk_alloc ?_ _)); refine blk_put (cs := #[.bool false, .slice none 0 0, .slice none 0 0]) ?_ 0 _ rfl; (with_reducible repeat (first | refine blk_drewN ?_ _ | refine blk_drew ?_ | refine blk_alloc ?_ _)); refine blk_far ?_ NB477_489.out _; (with_reducible repeat (first | refine blk_drewN ?_ _ | refine blk_drew ?_ | refine blk_alloc ?_ _)); refine blk_far ?_ NB477_489.out _; (with_reducible repeat (first | refine blk_drewN ?_ _ | refine blk_drew ?_ | refine blk_alloc ?_ _)); refine blk_far ?_ NB477_489.out _; (with_reducible repeat (first | refine blk_drewN ?_ _ | refine blk_drew ?_ | refine blk_alloc ?_ _)); exact BK477.out) Try.underlying25 rfl (by kernel_rfl)) rfl ?_
      exact ⟨_, _, by first | rfl | (simp [errW_none, errW_some] <;> rfl) | (simp [*, errW_none, errW_some] <;> rfl), by (with_reducible repeat (first | apply Kd.R_alloc | apply Kd.R_drewN | apply Kd.R_drew)); exact Kd.R_mono (Kd.R_far (p := ⟨gb477, 2, none⟩) (Kd.R_far (p := ⟨gb477, 1, none⟩) (Kd.R_far (p := ⟨gb477, 0, none⟩) (Kd.R_far (p := ⟨gb489, 2, none⟩) (Kd.R_far (p := ⟨gb489, 1, none⟩) (Kd.R_far (p := ⟨gb489, 0, none⟩) (Kd.R_types (Kd.R_types HO482.out BK489.out (by decide)) BK477.out (by decide)) (fun _ hk => hk.1.2) (.bool t479)) (fun _ hk => hk.1.2) (.slice Ao14 t480.length co14)) (fun _ hk => hk.1.2) (.slice Ao15 t483.length co15)) (fun _ hk => hk.2) (.bool t479)) (fun _ hk => hk.2) (.slice Ao14 t480.length co14)) (fun _ hk => hk.2) (.slice Ao15 t483.length co15)) (fun _ hk => trivial), by (with_reducible repeat (first | apply Kd.R_alloc | apply Kd.R_drewN | apply Kd.R_drew)); exact Kd.R_mono (Kd.R_far (p := ⟨gb477, 2, none⟩) (Kd.R_far (p := ⟨gb477, 1, none⟩) (Kd.R_far (p := ⟨gb477, 0, none⟩) (Kd.R_far (p := ⟨gb489, 2, none⟩) (Kd.R_far (p := ⟨gb489, 1, none⟩) (Kd.R_far (p := ⟨gb489, 0, none⟩) (Kd.R_mono (Kd.R_mono HO485.out (fun k_ hk => (⟨hk, hk.2⟩ : _ ∧ k_ ≠ gb489))) (fun k_ hk => (⟨hk, hk.1.1.2⟩ : _ ∧ k_ ≠ gb477))) (fun _ hk => hk.1.2) (.bool t479)) (fun _ hk => hk.1.2) (.slice Ao14 t480.length co14)) (fun _ hk => hk.1.2) (.slice Ao15 t483.length co15)) (fun _ hk => hk.2) (.bool t479)) (fun _ hk => hk.2) (.slice Ao14 t480.length co14)) (fun _ hk => hk.2) (.slice Ao15 t483.length co15)) (fun _ hk => hk.1.1.1.1), by repeat (first | (with_reducible first | exact HB.out | apply below_alloc | apply pw_below_drewN | apply below_drew1 | refine below_set ?_ (IsS65.ge HI478.out) | refine below_set ?_ GE477.out | refine below_set ?_ GE489.out) | exact HB.out)⟩
    · rw [if_neg c6] at H
      have c6b0 : (t488 == 0) = false := beq_eq_false_iff_ne.mpr c6
      have c6b1 : (t488 != 0) = true := bne_iff_ne.mpr c6
      simp only [Option.some.injEq, Prod.mk.injEq] at H
      obtain ⟨rfl, rfl, rfl, rfl, rfl⟩ := H
      go_enter Try.func18, Try.ntmps18
      try go_wp2_with (first | ((with_reducible refine gate_dst (N := 2) rfl ?_); refine box_event ?hg (N := 2) ?hd (cs := #[.bool false, .slice none 0 0, .slice none 0 0]) (t := 25) ?hr ?_; (case hd => rfl); (case hg => rfl); (case hr => first | (go_simp; done) | (go_simp; rfl)); intro gb477 hg w19 hbox hb; have n0_ := Aside0.mk (below_step (zw2 HB.out) hb); have n1_ := Aside0.mk (hbox); have n2_ := Aside0.mk ((by rw [hg]; exact (below_size (zw2 HB.out)) : w.heap.size ≤ gb477)); have n3_ := Aside0.mk ((by rw [hg]; exact (below_size (zw2 HB.out)) : w.heap.size ≤ gb477)); clear HB; have HB := n0_; have BK477 := n1_; have GW477 := n2_; have GE477 := n3_; clear n0_ n1_ n2_ n3_; clear hb hbox hg) | ((with_reducible refine gate_dst (N := 14) rfl ?_); refine box_event ?hg (N := 14) ?hd (cs := #[.slice A0 l0.length c0, .int .i64 0, .int .i64 0]) (t := 65) ?hr ?_; (case hd => rfl); (case hg => rfl); (case hr => first | (go_simp; done) | (go_simp; rfl)); intro gb478 hg w20 hbox hb; have n0_ := Aside0.mk (blk_below (g := gb477) (o := .cells #[.bool false, .slice none 0 0, .slice none 0 0] 25 (0, 0)) (zw0 BK477.out) hb); have n1_ := Aside0.mk (below_step (zw3 HB.out GE477.out) hb); have n2_ := Aside0.mk (hbox); have n3_ := Aside0.mk ((by rw [hg]; exact (below_size (zw3 HB.out GE477.out)) : w.heap.size ≤ gb478)); have n4_ := Aside0.mk ((by rw [hg]; exact (below_size (zw3 HB.out GE477.out)) : w.heap.size ≤ gb478)); have n5_ := Aside0.mk ((by rw [hg]; exact Nat.ne_of_lt (blk_lt (g := gb477) (o := .cells #[.bool false, .slice none 0 0, .slice none 0 0] 25 (0, 0)) (zw0 BK477.out)) : gb477 ≠ gb478)); have n6_ := Aside0.mk ((by rw [hg]; exact Nat.ne_of_gt (blk_lt (g := gb477) (o := .cells #[.bool false, .slice none 0 0, .slice none 0 0] 25 (0, 0)) (zw0 BK477.out)) : gb478 ≠ gb477)); clear BK477; clear HB; have BK477 := n0_; have HB := n1_; have BK478 := n2_; have GW478 := n3_; have GE478 := n4_; have NB477_478 := n5_; have NB478_477 := n6_; clear n0_ n1_ n2_ n3_ n4_ n5_ n6_; clear hb hbox hg; have HI478 := Aside0.mk (⟨_, _, BK478.out, GE478.out, ⟨HR0.out, HC0.out⟩⟩ : IsS65 w _ gb478 l0 0 0); clear BK478) | ((with_reducible refine gate_callee (f := 29) rfl ?_); refine goesL_ (some 19) rfl rfl Try.func29 (by kernel_rfl) rfl #[.pointer (some ⟨gb478, 0, none⟩), .int .i64 0, .int .i64 (l0.length : Int), .int .i64 1] rfl zw6 ?_; (with_reducible refine (moraineref4_reader_item.calls k gb478 l0 0 0 0 (l0.length : Int) 1 t479 t480 t483 t486 t487 t488 w _ ?side1 ?side2 A5.out).mono ?_); (case side1 => exact zw24 HI478.out NB478_477.out); (case side2 => exact zw18 HB.out HI478.out GE477.out); rintro e w21 ⟨v481, v484, rfl, ho0, ho1, hi, hb, hk⟩; refine ⟨_, rfl, ?_⟩; have n0_ := Aside0.mk (KeepBut.blk hk (g' := gb477) (o := .cells #[.bool false, .slice none 0 0, .slice none 0 0] 25 (0, 0)) (zw0 BK477.out) NB477_478.out (by simp)); have n1_ := Aside0.mk (Kd.R_lower ho0 (below_size (zw18 HB.out HI478.out GE477.out))); have n2_ := Aside0.mk (Kd.R_lower (Kd.R_newB ho1 (g := gb477) (o := .cells #[.bool false, .slice none 0 0, .slice none 0 0] 25 (0, 0)) (zw0 BK477.out)) (below_size (zw18 HB.out HI478.out GE477.out))); have n3_ := Aside0.mk (hb); have n4_ := Aside0.mk (hi); clear BK477; clear HB; clear HI478; have BK477 := n0_; have HO482 := n1_; have HO485 := n2_; have HB := n3_; have HI478 := n4_; clear n0_ n1_ n2_ n3_ n4_; (try clear hb); (try clear hb2); (try clear hk); (try clear hi); (try clear ho0); (try clear ho1)) | ((with_reducible refine gate_dst (N := 6) rfl ?_); refine box_event ?hg (N := 6) ?hd (cs := #[.bool false, .slice none 0 0, .slice none 0 0]) (t := 25) ?hr ?_; (case hd => rfl); (case hg => rfl); (case hr => first | (go_simp; done) | (go_simp; rfl)); intro gb489 hg w22 hbox hb; have n0_ := Aside0.mk (Kd.R_below (zw1 HO482.out) hb); have n1_ := Aside0.mk (Kd.R_below (Kd.R_elderB (zw1 HO485.out) gb489 (Nat.le_of_eq hg.symm)) hb); have n2_ := Aside0.mk (blk_below (g := gb477) (o := .cells #[.bool false, .slice none 0 0, .slice none 0 0] 25 (0, 0)) (zw0 BK477.out) hb); have n3_ := Aside0.mk (IsS65.below (zw24 HI478.out NB478_477.out) hb); have n4_ := Aside0.mk (below_step (zw18 HB.out HI478.out GE477.out) hb); have n5_ := Aside0.mk (hbox); have n6_ := Aside0.mk ((by rw [hg]; exact (below_size (zw18 HB.out HI478.out GE477.out)) : w.heap.size ≤ gb489)); have n7_ := Aside0.mk ((by rw [hg]; exact (below_size (zw18 HB.out HI478.out GE477.out)) : w.heap.size ≤ gb489)); have n8_ := Aside0.mk ((by rw [hg]; exact Nat.ne_of_lt (blk_lt (g := gb477) (o := .cells #[.bool false, .slice none 0 0, .slice none 0 0] 25 (0, 0)) (zw0 BK477.out)) : gb477 ≠ gb489)); have n9_ := Aside0.mk ((by rw [hg]; exact Nat.ne_of_gt (blk_lt (g := gb477) (o := .cells #[.bool false, .slice none 0 0, .slice none 0 0] 25 (0, 0)) (zw0 BK477.out)) : gb489 ≠ gb477)); have n10_ := Aside0.mk ((by rw [hg]; exact Nat.ne_of_lt (IsS65.lt (show IsS65 w _ gb478 l0 t487 t488 from by repeat (first | (with_reducible first | exact HI478.out | apply IsS65.alloc | apply IsS65.drewN | apply IsS65.drew | apply IsS65.set_1 | apply IsS65.set_2 | refine IsS65.far ?_ NB478_477.out _) | exact HI478.out))) : gb478 ≠ gb489)); have n11_ := Aside0.mk ((by rw [hg]; exact Nat.ne_of_gt (IsS65.lt (show IsS65 w _ gb478 l0 t487 t488 from by repeat (first | (with_reducible first | exact HI478.out | apply IsS65.alloc | apply IsS65.drewN | apply IsS65.drew | apply IsS65.set_1 | apply IsS65.set_2 | refine IsS65.far ?_ NB478_477.out _) | exact HI478.out))) : gb489 ≠ gb478)); clear HO482; clear HO485; clear BK477; clear HI478; clear HB; have HO482 := n0_; have HO485 := n1_; have BK477 := n2_; have HI478 := n3_; have HB := n4_; have BK489 := n5_; have GW489 := n6_; have GE489 := n7_; have NB477_489 := n8_; have NB489_477 := n9_; have NB478_489 := n10_; have NB489_478 := n11_; clear n0_ n1_ n2_ n3_ n4_ n5_ n6_ n7_ n8_ n9_ n10_ n11_; clear hb hbox hg; have hnb23 := NB489_477.out; have hnc23 := NB477_489.out; have hnb24 := NB489_478.out; have hnc24 := NB478_489.out; have hcz25_0 : w22.cell? ⟨gb489, 0, none⟩ = some (.bool false) := (blk_cell BK489.out 0).trans rfl; have hcz25_1 : w22.cell? ⟨gb489, 1, none⟩ = some (.slice none 0 0) := (blk_cell BK489.out 1).trans rfl; have hcz25_2 : w22.cell? ⟨gb489, 2, none⟩ = some (.slice none 0 0) := (blk_cell BK489.out 2).trans rfl; have hfz25_0 := blk_frozen BK489.out 0; have hfz25_1 := blk_frozen BK489.out 1; have hfz25_2 := blk_frozen BK489.out 2; obtain ⟨Ao26, co26, eo26⟩ := Kd.R_slice HO482.out; subst eo26; obtain ⟨Ao27, co27, eo27⟩ := Kd.R_slice HO485.out; subst eo27; obtain ⟨ASz28_0, cSz28_0, HGz28, hgz28, ⟨HSz28_0, HCSz28_0⟩⟩ := HI478.out; have hcz28_0 := cellS65_0 HGz28; have hcz28_1 := cellS65_1 HGz28; have hcz28_2 := cellS65_2 HGz28; have hfz28_1 := blk_frozen HGz28 1; have hfz28_2 := blk_frozen HGz28 2; clear HGz28 hgz28))
      have n0_ : Aside0 (Kd.R (Kd.int .u8) 5 (((w22.setCell ⟨gb489, 0, none⟩ (.bool t479)).setCell ⟨gb489, 1, none⟩ (.slice Ao26 t480.length co26)).setCell ⟨gb489, 2, none⟩ (.slice Ao27 t483.length co27)) w.heap.size (fun _ => True) (.slice Ao26 t480.length co26) t480) := ⟨by (with_reducible repeat (first | apply Kd.R_alloc | apply Kd.R_drewN | apply Kd.R_drew)); exact Kd.R_mono (Kd.R_far (p := ⟨gb489, 2, none⟩) (Kd.R_far (p := ⟨gb489, 1, none⟩) (Kd.R_far (p := ⟨gb489, 0, none⟩) (Kd.R_types HO482.out BK489.out (by decide)) (fun _ hk => hk.2) (.bool t479)) (fun _ hk => hk.2) (.slice Ao26 t480.length co26)) (fun _ hk => hk.2) (.slice Ao27 t483.length co27)) (fun _ hk => trivial)⟩
      have n1_ : Aside0 (Kd.R k25 25 (((w22.setCell ⟨gb489, 0, none⟩ (.bool t479)).setCell ⟨gb489, 1, none⟩ (.slice Ao26 t480.length co26)).setCell ⟨gb489, 2, none⟩ (.slice Ao27 t483.length co27)) w.heap.size (fun k_ => some k_ ≠ (.slice Ao26 t480.length co26 : Value).ownBlock ∧ k_ ≠ gb477 ∧ k_ ≠ gb489) (.slice Ao27 t483.length co27) t483) := ⟨by (with_reducible repeat (first | apply Kd.R_alloc | apply Kd.R_drewN | apply Kd.R_drew)); exact Kd.R_mono (Kd.R_far (p := ⟨gb489, 2, none⟩) (Kd.R_far (p := ⟨gb489, 1, none⟩) (Kd.R_far (p := ⟨gb489, 0, none⟩) (Kd.R_mono HO485.out (fun k_ hk => (⟨hk, hk.2⟩ : _ ∧ k_ ≠ gb489))) (fun _ hk => hk.2) (.bool t479)) (fun _ hk => hk.2) (.slice Ao26 t480.length co26)) (fun _ hk => hk.2) (.slice Ao27 t483.length co27)) (fun _ hk => ⟨hk.1.1.1, ⟨hk.1.1.2, hk.1.2⟩⟩)⟩
      have n2_ : Aside0 ((((w22.setCell ⟨gb489, 0, none⟩ (.bool t479)).setCell ⟨gb489, 1, none⟩ (.slice Ao26 t480.length co26)).setCell ⟨gb489, 2, none⟩ (.slice Ao27 t483.length co27)).heap[gb477]? = some (.cells #[.bool false, .slice none 0 0, .slice none 0 0] 25 (0, 0))) := ⟨by (with_reducible repeat (first | refine blk_drewN ?_ _ | refine blk_drew ?_ | refine blk_alloc ?_ _)); refine blk_far ?_ NB477_489.out _; (with_reducible repeat (first | refine blk_drewN ?_ _ | refine blk_drew ?_ | refine blk_alloc ?_ _)); refine blk_far ?_ NB477_489.out _; (with_reducible repeat (first | refine blk_drewN ?_ _ | refine blk_drew ?_ | refine blk_alloc ?_ _)); refine blk_far ?_ NB477_489.out _; (with_reducible repeat (first | refine blk_drewN ?_ _ | refine blk_drew ?_ | refine blk_alloc ?_ _)); exact BK477.out⟩
      have n3_ : Aside0 ((((w22.setCell ⟨gb489, 0, none⟩ (.bool t479)).setCell ⟨gb489, 1, none⟩ (.slice Ao26 t480.length co26)).setCell ⟨gb489, 2, none⟩ (.slice Ao27 t483.length co27)).heap[gb489]? = some (.cells #[.bool t479, .slice Ao26 t480.length co26, .slice Ao27 t483.length co27] 25 (0, 0))) := ⟨by (with_reducible repeat (first | refine blk_drewN ?_ _ | refine blk_drew ?_ | refine blk_alloc ?_ _)); refine blk_put (cs := #[.bool t479, .slice Ao26 t480.length co26, .slice none 0 0]) ?_ 2 _ rfl; (with_reducible repeat (first | refine blk_drewN ?_ _ | refine blk_drew ?_ | refine blk_alloc ?_ _)); refine blk_put (cs := #[.bool t479, .slice none 0 0, .slice none 0 0]) ?_ 1 _ rfl; (with_reducible repeat (first | refine blk_drewN ?_ _ | refine blk_drew ?_ | refine blk_alloc ?_ _)); refine blk_put (cs := #[.bool false, .slice none 0 0, .slice none 0 0]) ?_ 0 _ rfl; (with_reducible repeat (first | refine blk_drewN ?_ _ | refine blk_drew ?_ | refine blk_alloc ?_ _)); exact BK489.out⟩
      have n4_ : Aside0 (IsS65 w (((w22.setCell ⟨gb489, 0, none⟩ (.bool t479)).setCell ⟨gb489, 1, none⟩ (.slice Ao26 t480.length co26)).setCell ⟨gb489, 2, none⟩ (.slice Ao27 t483.length co27)) gb478 l0 t487 t488) := ⟨by repeat (first | (with_reducible first | exact HI478.out | apply IsS65.alloc | apply IsS65.drewN | apply IsS65.drew | apply IsS65.set_1 | apply IsS65.set_2 | refine IsS65.far ?_ NB478_477.out _ | refine IsS65.far ?_ NB478_489.out _) | exact HI478.out)⟩
      have n5_ : Aside0 (Below w.heap.size w (((w22.setCell ⟨gb489, 0, none⟩ (.bool t479)).setCell ⟨gb489, 1, none⟩ (.slice Ao26 t480.length co26)).setCell ⟨gb489, 2, none⟩ (.slice Ao27 t483.length co27))) := ⟨by repeat (first | (with_reducible first | exact HB.out | apply below_alloc | apply pw_below_drewN | apply below_drew1 | refine below_set ?_ (IsS65.ge HI478.out) | refine below_set ?_ GE477.out | refine below_set ?_ GE489.out) | exact HB.out)⟩
      (try clear HO482)
      (try clear HO485)
      (try clear BK477)
      (try clear BK489)
      (try clear HI478)
      (try clear HB)
      generalize (((w22.setCell ⟨gb489, 0, none⟩ (.bool t479)).setCell ⟨gb489, 1, none⟩ (.slice Ao26 t480.length co26)).setCell ⟨gb489, 2, none⟩ (.slice Ao27 t483.length co27)) = w29 at n0_ n1_ n2_ n3_ n4_ n5_ ⊢
      have HO482 := n0_
      have HO485 := n1_
      have BK477 := n2_
      have BK489 := n3_
      have HI478 := n4_
      have HB := n5_
      clear n0_ n1_ n2_ n3_ n4_ n5_
      have n0_ := Aside0.mk (Kd.R_drew HO482.out)
      have n1_ := Aside0.mk (Kd.R_drew HO485.out)
      have n2_ := Aside0.mk (blk_drew BK477.out)
      have n3_ := Aside0.mk (blk_drew BK489.out)
      have n4_ := Aside0.mk (IsS65.drew HI478.out)
      have n5_ := Aside0.mk (below_drew1 HB.out)
      clear HO482
      clear HO485
      clear BK477
      clear BK489
      clear HI478
      clear HB
      have HO482 := n0_
      have HO485 := n1_
      have BK477 := n2_
      have BK489 := n3_
      have HI478 := n4_
      have HB := n5_
      clear n0_ n1_ n2_ n3_ n4_ n5_
      refine start_ (n := 8) (S := fun w' => w'.cell? ⟨gb478, 1, none⟩ = some (.int .i64 t487) ∧ w'.cell? ⟨gb478, 2, none⟩ = some (.int .i64 t488)) (ds := []) #[false, false, false, false, false, false, false, false] (by kernel_rfl) rfl rfl ⟨(IsS65.cell_1 HI478.out), (IsS65.cell_2 HI478.out)⟩ (fun hHeld => ?_); refine with_tabW moraineref4_First.tab6 moraineref4_First.bits6 (fun HT_ HW_ => ?_)
      generalize w29.drew = w30 at HO482 HO485 BK477 BK489 HI478 HB hHeld ⊢
      refine pure_ (i := 0) (N := some 27) (v := ?_) (a' := ?_) #[true, false, false, false, false, false, false, false] rfl rfl (any_of HT_.out (by kernel_rfl)) (fun _ _ _ h => h) (Or.inl ⟨by rfl, ?_⟩) ?_ ?_
      rotate_left
      · intro w'
        go_simp
        with_reducible rfl
      rotate_left
      · simp only [Act.put, List.setIfInBounds_toArray, List.set_cons_zero, List.set_cons_succ, i64_w, i32_w]
        rfl
      refine pure_ (i := 1) (N := some 28) (v := ?_) (a' := ?_) #[true, true, false, false, false, false, false, false] rfl rfl (any_of HT_.out (by kernel_rfl)) (fun _ _ _ h => h) (Or.inl ⟨by rfl, ?_⟩) ?_ ?_
      rotate_left
      · intro w'
        go_simp
        with_reducible rfl
      rotate_left
      · simp only [Act.put, List.setIfInBounds_toArray, List.set_cons_zero, List.set_cons_succ, i64_w, i32_w]
        rfl
      refine pure_ (i := 2) (N := some 29) (v := ?_) (a' := ?_) #[true, true, true, false, false, false, false, false] rfl rfl (any_of HT_.out (by kernel_rfl)) (fun _ _ _ h => h) (Or.inl ⟨by rfl, ?_⟩) ?_ ?_
      rotate_left
      · intro w'
        go_simp
        with_reducible rfl
      rotate_left
      · simp only [Act.put, List.setIfInBounds_toArray, List.set_cons_zero, List.set_cons_succ, i64_w, i32_w]
        rfl
      refine pure_ (i := 3) (N := some 30) (v := ?_) (a' := ?_) #[true, true, true, true, false, false, false, false] rfl rfl (any_of HT_.out (by kernel_rfl)) (fun _ _ _ h => h) (Or.inl ⟨by rfl, ?_⟩) ?_ ?_
      rotate_left
      · intro w'
        go_simp
        with_reducible rfl
      rotate_left
      · simp only [Act.put, List.setIfInBounds_toArray, List.set_cons_zero, List.set_cons_succ, i64_w, i32_w]
        rfl
      refine take_ (i := 4) (N := some 31) (v := ?_) (a' := ?_) #[true, true, true, true, true, false, false, false] rfl rfl (take_ofW HT_.out HW_.out (by kernel_rfl)) (fun _ _ _ h => h) (Or.inl ⟨by rfl, ?_⟩) hHeld ?_ ?_
      rotate_left
      · rintro w' ⟨s0, s1⟩
        go_simp
        with_reducible rfl
      rotate_left
      · simp only [Act.put, List.setIfInBounds_toArray, List.set_cons_zero, List.set_cons_succ, i64_w, i32_w]
        rfl
      refine one_ (i := 5) (N := none) #[true, true, true, true, true, true, false, false] rfl rfl (one_of HT_.out (by kernel_rfl)) (by decide) (fun K hK => ?_)
      have hs31 : w30.cell? ⟨gb477, 0, none⟩ = some (.bool false) := (blk_cell BK477.out 0).trans rfl
      have hfs31 := blk_frozen BK477.out 0
      have hns31_1 := NB489_477.out
      have hms31_1 := NB477_489.out
      have hs32 : w30.cell? ⟨gb477, 1, none⟩ = some (.slice none 0 0) := (blk_cell BK477.out 1).trans rfl
      have hfs32 := blk_frozen BK477.out 1
      have hns32_1 := NB489_477.out
      have hms32_1 := NB477_489.out
      have hs33 : w30.cell? ⟨gb477, 2, none⟩ = some (.slice none 0 0) := (blk_cell BK477.out 2).trans rfl
      have hfs33 := blk_frozen BK477.out 2
      have hns33_1 := NB489_477.out
      have hms33_1 := NB477_489.out
      refine skip_ (w1 := ?_) (by rfl) rfl ?_ ?_
      rotate_left
      · go_simp
        rfl
      refine hK.out _ _ ⟨((cell_far (p := ⟨gb477, _, none⟩) (by first | exact NB478_477.out | (rw [add_block]; exact NB478_477.out) | (show (Addr.add _ _).block ≠ _; rw [add_block]; exact NB478_477.out) | (dsimp only; exact NB478_477.out)) _).trans (((cell_far (p := ⟨gb477, _, none⟩) (by first | exact NB478_477.out | (rw [add_block]; exact NB478_477.out) | (show (Addr.add _ _).block ≠ _; rw [add_block]; exact NB478_477.out) | (dsimp only; exact NB478_477.out)) _).trans (((cell_far (p := ⟨gb477, _, none⟩) (by first | exact NB478_477.out | (rw [add_block]; exact NB478_477.out) | (show (Addr.add _ _).block ≠ _; rw [add_block]; exact NB478_477.out) | (dsimp only; exact NB478_477.out)) _).trans (hHeld.1)))))), ((cell_far (p := ⟨gb477, _, none⟩) (by first | exact NB478_477.out | (rw [add_block]; exact NB478_477.out) | (show (Addr.add _ _).block ≠ _; rw [add_block]; exact NB478_477.out) | (dsimp only; exact NB478_477.out)) _).trans (((cell_far (p := ⟨gb477, _, none⟩) (by first | exact NB478_477.out | (rw [add_block]; exact NB478_477.out) | (show (Addr.add _ _).block ≠ _; rw [add_block]; exact NB478_477.out) | (dsimp only; exact NB478_477.out)) _).trans (((cell_far (p := ⟨gb477, _, none⟩) (by first | exact NB478_477.out | (rw [add_block]; exact NB478_477.out) | (show (Addr.add _ _).block ≠ _; rw [add_block]; exact NB478_477.out) | (dsimp only; exact NB478_477.out)) _).trans (hHeld.2))))))⟩ (fun hHeld => ?_)
      clear hK K
      refine pure_ (i := 6) (N := some 3) (v := ?_) (a' := ?_) #[true, true, true, true, true, true, true, false] rfl rfl (any_of HT_.out (by kernel_rfl)) (fun _ _ _ h => h) (Or.inl ⟨by rfl, ?_⟩) ?_ ?_
      rotate_left
      · intro w'
        go_simp
        with_reducible rfl
      rotate_left
      · simp only [Act.put, List.setIfInBounds_toArray, List.set_cons_zero, List.set_cons_succ, i64_w, i32_w]
        rfl
      refine pure_ (i := 7) (N := some 4) (v := ?_) (a' := ?_) #[true, true, true, true, true, true, true, true] rfl rfl (any_of HT_.out (by kernel_rfl)) (fun _ _ _ h => h) (Or.inl ⟨by rfl, ?_⟩) ?_ ?_
      rotate_left
      · intro w'
        go_simp
        with_reducible rfl
      rotate_left
      · simp only [Act.put, List.setIfInBounds_toArray, List.set_cons_zero, List.set_cons_succ, i64_w, i32_w]
        rfl
      refine done_ (done_of HT_.out (by kernel_rfl)) ?_
      try go_wp2
      refine bodyPost_ret (results_ctt rfl _ _ gb477 25 #[.bool false, .slice none 0 0, .slice none 0 0] (0, 0) _ rfl (by (with_reducible repeat (first | refine blk_drewN ?_ _ | refine blk_drew ?_ | refine blk_alloc ?_ _)); refine blk_put (cs := #[.bool false, .slice none 0 0, .slice none 0 0]) ?_ 2 _ rfl; (with_reducible repeat (first | refine blk_drewN ?_ _ | refine blk_drew ?_ | refine blk_alloc ?_ _)); refine blk_put (cs := #[.bool false, .slice none 0 0, .slice none 0 0]) ?_ 1 _ rfl; (with_reducible repeat (first | refine blk_drewN ?_ _ | refine blk_drew ?_ | refine blk_alloc ?_ _)); refine blk_put (cs := #[.bool false, .slice none 0 0, .slice none 0 0]) ?_ 0 _ rfl; (with_reducible repeat (first | refine blk_drewN ?_ _ | refine blk_drew ?_ | refine blk_alloc ?_ _)); exact BK477.out) Try.underlying25 rfl (by kernel_rfl)) rfl ?_
      exact ⟨_, _, by first | rfl | (simp [errW_none, errW_some] <;> rfl) | (simp [*, errW_none, errW_some] <;> rfl), by first | exact Kd.R_nil _ _ _ _ _ | exact Kd.N_nil _ _ _ _ _ | exact Kd.V_nil _ _ _ _ _ | exact Kd.Q_nil _ _ _ _ _ | exact Kd.S_nil _ _ _ _ _, by first | exact Kd.R_nil _ _ _ _ _ | exact Kd.N_nil _ _ _ _ _ | exact Kd.V_nil _ _ _ _ _ | exact Kd.Q_nil _ _ _ _ _ | exact Kd.S_nil _ _ _ _ _, by repeat (first | (with_reducible first | exact HB.out | apply below_alloc | apply pw_below_drewN | apply below_drew1 | refine below_set ?_ (IsS65.ge HI478.out) | refine below_set ?_ GE477.out | refine below_set ?_ GE489.out) | exact HB.out)⟩

end Go.Proofs.Ytbobnopnfjcajaa.P
