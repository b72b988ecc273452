-- Written by a program of this session out of the translation.
import Derived.Test.YtbobnopnfjcajaaPx0
import Derived.Test.YtbobnopnfjcajaaPz
import Derived.Test.YtbobnopnfjcajaaPx17
namespace Go.Proofs.Ytbobnopnfjcajaa.P
open Go.RowKit Go.Proofs.YtbobnopnfjcajaaW.PrintWords Go.Proofs.YtbobnopnfjcajaaW.PrintLast Go.Proofs.YtbobnopnfjcajaaW.PrintMore
attribute [local go_sem] max2_int min2_int max_two min_two max_three min_three max_four min_four   -- for this text's walks alone
set_option linter.unusedVariables false
set_option linter.unusedSimpArgs false

/-! ### morainelaw4_same: function 16 -/
def morainelaw4_same.f (k : Nat) (a0_0 : Bool) (l0_1 : List Int) (l0_2 : List (S25)) (a1_0 : Bool) (l1_1 : List Int) (l1_2 : List (S25)) (a2 : Int) : Option (Bool) := if a2 = 0 then ((moraineref4_Same.f k a0_0 l0_1 l0_2 a1_0 l1_1 l1_2).bind fun t503 => (some t503)) else (if a0_0 = true then (some false) else (if (l0_1.length : Int) = 0 then (some ((l0_2.length : Int) == 0)) else (some false)))
theorem morainelaw4_same.mono : ∀ a0 a1 a2 a3 a4 a5 a6 k, LeO (morainelaw4_same.f k a0 a1 a2 a3 a4 a5 a6) (morainelaw4_same.f (k + 1) a0 a1 a2 a3 a4 a5 a6) := by
  intro a0 a1 a2 a3 a4 a5 a6 k
  unfold morainelaw4_same.f
  repeat' first
      | (with_reducible exact moraineref4_Same.mono _ _ _ _ _ _ _)
      | (with_reducible exact LeO.refl _)
      | (with_reducible exact LeO.none _)
      | (with_reducible refine LeO.ite ?_ ?_)
      | (with_reducible refine LeO.bind ?_ (fun _ => ?_))
      | exact moraineref4_Same.mono _ _ _ _ _ _ _
      | exact LeO.none _
      | refine LeO.ite ?_ ?_
      | refine LeO.bind ?_ (fun _ => ?_)
set_option maxHeartbeats 8000000 in
set_option maxRecDepth 100000 in
theorem morainelaw4_same.calls (k : Nat) (a0_0 : Bool) (A0_1 : Option Addr) (c0_1 : Nat) (l0_1 : List Int) (A0_2 : Option Addr) (c0_2 : Nat) (l0_2 : List (S25)) (a1_0 : Bool) (A1_1 : Option Addr) (c1_1 : Nat) (l1_1 : List Int) (A1_2 : Option Addr) (c1_2 : Nat) (l1_2 : List (S25)) (a2 : Int) (r : Bool) (w : World) (hr0_1 : Kd.C (Kd.int .u8) w A0_1 l0_1.length l0_1) (hc0_1 : l0_1.length ≤ c0_1) (hr0_2 : Kd.C k25 w A0_2 l0_2.length l0_2) (hc0_2 : l0_2.length ≤ c0_2) (hr1_1 : Kd.C (Kd.int .u8) w A1_1 l1_1.length l1_1) (hc1_1 : l1_1.length ≤ c1_1) (hr1_2 : Kd.C k25 w A1_2 l1_2.length l1_2) (hc1_2 : l1_2.length ≤ c1_2) (h : morainelaw4_same.f k a0_0 l0_1 l0_2 a1_0 l1_1 l1_2 a2 = some r) :
    Calls Try.prog 16 #[.agg #[.bool a0_0, .slice A0_1 l0_1.length c0_1, .slice A0_2 l0_2.length c0_2], .agg #[.bool a1_0, .slice A1_1 l1_1.length c1_1, .slice A1_2 l1_2.length c1_2], .int .i64 a2] w fun e w' => e = .returned (.bool r) ∧ Below w.heap.size w w' := by
  have hu25 := Try.underlying25
  have HR0_1 := Aside0.mk hr0_1
  have HC0_1 := Aside0.mk hc0_1
  clear hr0_1 hc0_1
  have HR0_2 := Aside0.mk hr0_2
  have HC0_2 := Aside0.mk hc0_2
  clear hr0_2 hc0_2
  have HR1_1 := Aside0.mk hr1_1
  have HC1_1 := Aside0.mk hc1_1
  clear hr1_1 hc1_1
  have HR1_2 := Aside0.mk hr1_2
  have HC1_2 := Aside0.mk hc1_2
  clear hr1_2 hc1_2
  have HB := Aside0.mk (Below.refl w.heap.size w)
  have H : (if a2 = 0 then ((moraineref4_Same.f k a0_0 l0_1 l0_2 a1_0 l1_1 l1_2).bind fun t503 => (some t503)) else (if a0_0 = true then (some false) else (if (l0_1.length : Int) = 0 then (some ((l0_2.length : Int) == 0)) else (some false)))) = some r := h
  clear h
  by_cases c4 : a2 = 0
  · rw [if_pos c4] at H
    have c4b0 : (a2 == 0) = true := beq_iff_eq.mpr c4
    have c4b1 : (a2 != 0) = false := bne_eq_false_iff_eq.mpr c4
    clear c4
    replace H := Option.bind_eq_some_iff.mp H
    obtain ⟨t503, A50, H⟩ := H
    replace H : (some t503) = some r := H
    have A5 := Aside0.mk A50
    clear A50
    obtain rfl := Option.some.inj H
    go_enter Try.func16, Try.ntmps16
    go_wp2_with (first | ((with_reducible refine gate_dst (N := 3) rfl ?_); (try (refine gate_guard (by rfl) ?_; dsimp only)); refine box_event ?hg (N := 3) ?hd (cs := #[.bool a0_0, .slice A0_1 l0_1.length c0_1, .slice A0_2 l0_2.length c0_2]) (t := 25) ?hr ?_; (case hd => rfl); (case hg => rfl); (case hr => first | (go_simp; done) | (go_simp; rfl)); intro gb501 hg w6 hbox hb; have n0_ := Aside0.mk (below_step (zw2 HB.out) hb); have n1_ := Aside0.mk (hbox); have n2_ := Aside0.mk ((by rw [hg]; exact (below_size (zw2 HB.out)) : w.heap.size ≤ gb501)); have n3_ := Aside0.mk ((by rw [hg]; exact (below_size (zw2 HB.out)) : w.heap.size ≤ gb501)); clear HB; have HB := n0_; have BK501 := n1_; have GW501 := n2_; have GE501 := n3_; clear n0_ n1_ n2_ n3_; clear hb hbox hg) | ((with_reducible refine gate_dst (N := 4) rfl ?_); (try (refine gate_guard (by rfl) ?_; dsimp only)); refine box_event ?hg (N := 4) ?hd (cs := #[.bool a1_0, .slice A1_1 l1_1.length c1_1, .slice A1_2 l1_2.length c1_2]) (t := 25) ?hr ?_; (case hd => rfl); (case hg => rfl); (case hr => first | (go_simp; done) | (go_simp; rfl)); intro gb502 hg w7 hbox hb; have n0_ := Aside0.mk (blk_below (g := gb501) (o := .cells #[.bool a0_0, .slice A0_1 l0_1.length c0_1, .slice A0_2 l0_2.length c0_2] 25 (0, 0)) (zw0 BK501.out) hb); have n1_ := Aside0.mk (below_step (zw3 HB.out GE501.out) hb); have n2_ := Aside0.mk (hbox); have n3_ := Aside0.mk ((by rw [hg]; exact (below_size (zw3 HB.out GE501.out)) : w.heap.size ≤ gb502)); have n4_ := Aside0.mk ((by rw [hg]; exact (below_size (zw3 HB.out GE501.out)) : w.heap.size ≤ gb502)); have n5_ := Aside0.mk ((by rw [hg]; exact Nat.ne_of_lt (blk_lt (g := gb501) (o := .cells #[.bool a0_0, .slice A0_1 l0_1.length c0_1, .slice A0_2 l0_2.length c0_2] 25 (0, 0)) (zw0 BK501.out)) : gb501 ≠ gb502)); have n6_ := Aside0.mk ((by rw [hg]; exact Nat.ne_of_gt (blk_lt (g := gb501) (o := .cells #[.bool a0_0, .slice A0_1 l0_1.length c0_1, .slice A0_2 l0_2.length c0_2] 25 (0, 0)) (zw0 BK501.out)) : gb502 ≠ gb501)); clear BK501; clear HB; have BK501 := n0_; have HB := n1_; have BK502 := n2_; have GW502 := n3_; have GE502 := n4_; have NB501_502 := n5_; have NB502_501 := n6_; clear n0_ n1_ n2_ n3_ n4_ n5_ n6_; clear hb hbox hg; have hnb8 := NB501_502.out; have hnc8 := NB502_501.out; have hcz9_0 : w7.cell? ⟨gb501, 0, none⟩ = some (.bool a0_0) := (blk_cell BK501.out 0).trans rfl; have hcz9_1 : w7.cell? ⟨gb501, 1, none⟩ = some (.slice A0_1 l0_1.length c0_1) := (blk_cell BK501.out 1).trans rfl; have hcz9_2 : w7.cell? ⟨gb501, 2, none⟩ = some (.slice A0_2 l0_2.length c0_2) := (blk_cell BK501.out 2).trans rfl; have hfz9_0 := blk_frozen BK501.out 0; have hfz9_1 := blk_frozen BK501.out 1; have hfz9_2 := blk_frozen BK501.out 2; have hcz10_0 : w7.cell? ⟨gb502, 0, none⟩ = some (.bool a1_0) := (blk_cell BK502.out 0).trans rfl; have hcz10_1 : w7.cell? ⟨gb502, 1, none⟩ = some (.slice A1_1 l1_1.length c1_1) := (blk_cell BK502.out 1).trans rfl; have hcz10_2 : w7.cell? ⟨gb502, 2, none⟩ = some (.slice A1_2 l1_2.length c1_2) := (blk_cell BK502.out 2).trans rfl; have hfz10_0 := blk_frozen BK502.out 0; have hfz10_1 := blk_frozen BK502.out 1; have hfz10_2 := blk_frozen BK502.out 2) | ((with_reducible refine gate_callee (f := 20) rfl ?_); refine goesL_ (some 26) rfl rfl Try.func20 (by kernel_rfl) rfl #[.agg #[.bool a0_0, .slice A0_1 l0_1.length c0_1, .slice A0_2 l0_2.length c0_2], .agg #[.bool a1_0, .slice A1_1 l1_1.length c1_1, .slice A1_2 l1_2.length c1_2]] rfl zw6 ?_; (with_reducible refine (moraineref4_Same.calls k a0_0 _ _ l0_1 _ _ l0_2 a1_0 _ _ l1_1 _ _ l1_2 t503 _ ?side1 ?side2 ?side3 ?side4 ?side5 ?side6 ?side7 ?side8 A5.out).mono ?_); (case side1 => exact zw4 HR0_1.out HB.out); (case side2 => exact HC0_1.out); (case side3 => exact zw4 HR0_2.out HB.out); (case side4 => exact HC0_2.out); (case side5 => exact zw4 HR1_1.out HB.out); (case side6 => exact HC1_1.out); (case side7 => exact zw4 HR1_2.out HB.out); (case side8 => exact HC1_2.out); rintro e w11 ⟨rfl, hb⟩; refine ⟨_, rfl, ?_⟩; have n0_ := Aside0.mk (blk_below (g := gb501) (o := .cells #[.bool a0_0, .slice A0_1 l0_1.length c0_1, .slice A0_2 l0_2.length c0_2] 25 (0, 0)) (zw0 BK501.out) hb); have n1_ := Aside0.mk (blk_below (g := gb502) (o := .cells #[.bool a1_0, .slice A1_1 l1_1.length c1_1, .slice A1_2 l1_2.length c1_2] 25 (0, 0)) (zw0 BK502.out) hb); have n2_ := Aside0.mk (below_step (zw5 HB.out GE501.out GE502.out) hb); clear BK501; clear BK502; clear HB; have BK501 := n0_; have BK502 := n1_; have HB := n2_; clear n0_ n1_ n2_; (try clear hb); (try clear hb2); (try clear hk); (try clear hi)))
    go_ret
    exact ⟨by first | rfl | (simp [errW_none, errW_some] <;> rfl) | (simp [*, errW_none, errW_some] <;> rfl), by repeat (first | (with_reducible first | exact HB.out | apply below_alloc | apply pw_below_drewN | apply below_drew1 | refine below_set ?_ GE501.out | refine below_set ?_ GE502.out) | exact HB.out)⟩
  · rw [if_neg c4] at H
    have c4b0 : (a2 == 0) = false := beq_eq_false_iff_ne.mpr c4
    have c4b1 : (a2 != 0) = true := bne_iff_ne.mpr c4
    by_cases c12 : a0_0 = true
    · subst c12
      have H1 : (some false) = some r := by rw [if_pos rfl] at H; exact H
      clear H
      have H := H1
      clear H1
      obtain rfl := Option.some.inj H
      go_enter Try.func16, Try.ntmps16
      go_wp2_with (first | ((with_reducible refine gate_dst (N := 3) rfl ?_); (try (refine gate_guard (by rfl) ?_; dsimp only)); refine box_event ?hg (N := 3) ?hd (cs := #[.bool true, .slice A0_1 l0_1.length c0_1, .slice A0_2 l0_2.length c0_2]) (t := 25) ?hr ?_; (case hd => rfl); (case hg => rfl); (case hr => first | (go_simp; done) | (go_simp; rfl)); intro gb501 hg w13 hbox hb; have n0_ := Aside0.mk (below_step (zw2 HB.out) hb); have n1_ := Aside0.mk (hbox); have n2_ := Aside0.mk ((by rw [hg]; exact (below_size (zw2 HB.out)) : w.heap.size ≤ gb501)); have n3_ := Aside0.mk ((by rw [hg]; exact (below_size (zw2 HB.out)) : w.heap.size ≤ gb501)); clear HB; have HB := n0_; have BK501 := n1_; have GW501 := n2_; have GE501 := n3_; clear n0_ n1_ n2_ n3_; clear hb hbox hg) | ((with_reducible refine gate_dst (N := 4) rfl ?_); (try (refine gate_guard (by rfl) ?_; dsimp only)); refine box_event ?hg (N := 4) ?hd (cs := #[.bool a1_0, .slice A1_1 l1_1.length c1_1, .slice A1_2 l1_2.length c1_2]) (t := 25) ?hr ?_; (case hd => rfl); (case hg => rfl); (case hr => first | (go_simp; done) | (go_simp; rfl)); intro gb502 hg w14 hbox hb; have n0_ := Aside0.mk (blk_below (g := gb501) (o := .cells #[.bool true, .slice A0_1 l0_1.length c0_1, .slice A0_2 l0_2.length c0_2] 25 (0, 0)) (zw0 BK501.out) hb); have n1_ := Aside0.mk (below_step (zw3 HB.out GE501.out) hb); have n2_ := Aside0.mk (hbox); have n3_ := Aside0.mk ((by rw [hg]; exact (below_size (zw3 HB.out GE501.out)) : w.heap.size ≤ gb502)); have n4_ := Aside0.mk ((by rw [hg]; exact (below_size (zw3 HB.out GE501.out)) : w.heap.size ≤ gb502)); have n5_ := Aside0.mk ((by rw [hg]; exact Nat.ne_of_lt (blk_lt (g := gb501) (o := .cells #[.bool true, .slice A0_1 l0_1.length c0_1, .slice A0_2 l0_2.length c0_2] 25 (0, 0)) (zw0 BK501.out)) : gb501 ≠ gb502)); have n6_ := Aside0.mk ((by rw [hg]; exact Nat.ne_of_gt (blk_lt (g := gb501) (o := .cells #[.bool true, .slice A0_1 l0_1.length c0_1, .slice A0_2 l0_2.length c0_2] 25 (0, 0)) (zw0 BK501.out)) : gb502 ≠ gb501)); clear BK501; clear HB; have BK501 := n0_; have HB := n1_; have BK502 := n2_; have GW502 := n3_; have GE502 := n4_; have NB501_502 := n5_; have NB502_501 := n6_; clear n0_ n1_ n2_ n3_ n4_ n5_ n6_; clear hb hbox hg; have hnb15 := NB501_502.out; have hnc15 := NB502_501.out; have hcz16_0 : w14.cell? ⟨gb501, 0, none⟩ = some (.bool true) := (blk_cell BK501.out 0).trans rfl; have hcz16_1 : w14.cell? ⟨gb501, 1, none⟩ = some (.slice A0_1 l0_1.length c0_1) := (blk_cell BK501.out 1).trans rfl; have hcz16_2 : w14.cell? ⟨gb501, 2, none⟩ = some (.slice A0_2 l0_2.length c0_2) := (blk_cell BK501.out 2).trans rfl; have hfz16_0 := blk_frozen BK501.out 0; have hfz16_1 := blk_frozen BK501.out 1; have hfz16_2 := blk_frozen BK501.out 2))
      go_ret
      exact ⟨by first | rfl | (simp [errW_none, errW_some] <;> rfl) | (simp [*, errW_none, errW_some] <;> rfl), by repeat (first | (with_reducible first | exact HB.out | apply below_alloc | apply pw_below_drewN | apply below_drew1 | refine below_set ?_ GE501.out | refine below_set ?_ GE502.out) | exact HB.out)⟩
    · replace c12 := Bool.eq_false_iff.mpr c12
      subst c12
      have H1 : (if (l0_1.length : Int) = 0 then (some ((l0_2.length : Int) == 0)) else (some false)) = some r := by rw [if_neg (show ¬ (false = true) by decide)] at H; exact H
      clear H
      have H := H1
      clear H1
      by_cases c17 : (l0_1.length : Int) = 0
      · rw [if_pos c17] at H
        have c17b0 : ((l0_1.length : Int) == 0) = true := beq_iff_eq.mpr c17
        have c17b1 : ((l0_1.length : Int) != 0) = false := bne_eq_false_iff_eq.mpr c17
        clear c17
        obtain rfl := Option.some.inj H
        go_enter Try.func16, Try.ntmps16
        go_wp2_with (first | ((with_reducible refine gate_dst (N := 3) rfl ?_); (try (refine gate_guard (by rfl) ?_; dsimp only)); refine box_event ?hg (N := 3) ?hd (cs := #[.bool false, .slice A0_1 l0_1.length c0_1, .slice A0_2 l0_2.length c0_2]) (t := 25) ?hr ?_; (case hd => rfl); (case hg => rfl); (case hr => first | (go_simp; done) | (go_simp; rfl)); intro gb501 hg w18 hbox hb; have n0_ := Aside0.mk (below_step (zw2 HB.out) hb); have n1_ := Aside0.mk (hbox); have n2_ := Aside0.mk ((by rw [hg]; exact (below_size (zw2 HB.out)) : w.heap.size ≤ gb501)); have n3_ := Aside0.mk ((by rw [hg]; exact (below_size (zw2 HB.out)) : w.heap.size ≤ gb501)); clear HB; have HB := n0_; have BK501 := n1_; have GW501 := n2_; have GE501 := n3_; clear n0_ n1_ n2_ n3_; clear hb hbox hg) | ((with_reducible refine gate_dst (N := 4) rfl ?_); (try (refine gate_guard (by rfl) ?_; dsimp only)); refine box_event ?hg (N := 4) ?hd (cs := #[.bool a1_0, .slice A1_1 l1_1.length c1_1, .slice A1_2 l1_2.length c1_2]) (t := 25) ?hr ?_; (case hd => rfl); (case hg => rfl); (case hr => first | (go_simp; done) | (go_simp; rfl)); intro gb502 hg w19 hbox hb; have n0_ := Aside0.mk (blk_below (g := gb501) (o := .cells #[.bool false, .slice A0_1 l0_1.length c0_1, .slice A0_2 l0_2.length c0_2] 25 (0, 0)) (zw0 BK501.out) hb); have n1_ := Aside0.mk (below_step (zw3 HB.out GE501.out) hb); have n2_ := Aside0.mk (hbox); have n3_ := Aside0.mk ((by rw [hg]; exact (below_size (zw3 HB.out GE501.out)) : w.heap.size ≤ gb502)); have n4_ := Aside0.mk ((by rw [hg]; exact (below_size (zw3 HB.out GE501.out)) : w.heap.size ≤ gb502)); have n5_ := Aside0.mk ((by rw [hg]; exact Nat.ne_of_lt (blk_lt (g := gb501) (o := .cells #[.bool false, .slice A0_1 l0_1.length c0_1, .slice A0_2 l0_2.length c0_2] 25 (0, 0)) (zw0 BK501.out)) : gb501 ≠ gb502)); have n6_ := Aside0.mk ((by rw [hg]; exact Nat.ne_of_gt (blk_lt (g := gb501) (o := .cells #[.bool false, .slice A0_1 l0_1.length c0_1, .slice A0_2 l0_2.length c0_2] 25 (0, 0)) (zw0 BK501.out)) : gb502 ≠ gb501)); clear BK501; clear HB; have BK501 := n0_; have HB := n1_; have BK502 := n2_; have GW502 := n3_; have GE502 := n4_; have NB501_502 := n5_; have NB502_501 := n6_; clear n0_ n1_ n2_ n3_ n4_ n5_ n6_; clear hb hbox hg; have hnb20 := NB501_502.out; have hnc20 := NB502_501.out; have hcz21_0 : w19.cell? ⟨gb501, 0, none⟩ = some (.bool false) := (blk_cell BK501.out 0).trans rfl; have hcz21_1 : w19.cell? ⟨gb501, 1, none⟩ = some (.slice A0_1 l0_1.length c0_1) := (blk_cell BK501.out 1).trans rfl; have hcz21_2 : w19.cell? ⟨gb501, 2, none⟩ = some (.slice A0_2 l0_2.length c0_2) := (blk_cell BK501.out 2).trans rfl; have hfz21_0 := blk_frozen BK501.out 0; have hfz21_1 := blk_frozen BK501.out 1; have hfz21_2 := blk_frozen BK501.out 2))
        go_ret
        exact ⟨by first | rfl | (simp [errW_none, errW_some] <;> rfl) | (simp [*, errW_none, errW_some] <;> rfl), by repeat (first | (with_reducible first | exact HB.out | apply below_alloc | apply pw_below_drewN | apply below_drew1 | refine below_set ?_ GE501.out | refine below_set ?_ GE502.out) | exact HB.out)⟩
      · rw [if_neg c17] at H
        have c17b0 : ((l0_1.length : Int) == 0) = false := beq_eq_false_iff_ne.mpr c17
        have c17b1 : ((l0_1.length : Int) != 0) = true := bne_iff_ne.mpr c17
        have c17b2 : ¬ (l0_1 = []) := fun h_ => c17 (by rw [h_]; rfl)
        obtain rfl := Option.some.inj H
        go_enter Try.func16, Try.ntmps16
        go_wp2_with (first | ((with_reducible refine gate_dst (N := 3) rfl ?_); (try (refine gate_guard (by rfl) ?_; dsimp only)); refine box_event ?hg (N := 3) ?hd (cs := #[.bool false, .slice A0_1 l0_1.length c0_1, .slice A0_2 l0_2.length c0_2]) (t := 25) ?hr ?_; (case hd => rfl); (case hg => rfl); (case hr => first | (go_simp; done) | (go_simp; rfl)); intro gb501 hg w22 hbox hb; have n0_ := Aside0.mk (below_step (zw2 HB.out) hb); have n1_ := Aside0.mk (hbox); have n2_ := Aside0.mk ((by rw [hg]; exact (below_size (zw2 HB.out)) : w.heap.size ≤ gb501)); have n3_ := Aside0.mk ((by rw [hg]; exact (below_size (zw2 HB.out)) : w.heap.size ≤ gb501)); clear HB; have HB := n0_; have BK501 := n1_; have GW501 := n2_; have GE501 := n3_; clear n0_ n1_ n2_ n3_; clear hb hbox hg) | ((with_reducible refine gate_dst (N := 4) rfl ?_); (try (refine gate_guard (by rfl) ?_; dsimp only)); refine box_event ?hg (N := 4) ?hd (cs := #[.bool a1_0, .slice A1_1 l1_1.length c1_1, .slice A1_2 l1_2.length c1_2]) (t := 25) ?hr ?_; (case hd => rfl); (case hg => rfl); (case hr => first | (go_simp; done) | (go_simp; rfl)); intro gb502 hg w23 hbox hb; have n0_ := Aside0.mk (blk_below (g := gb501) (o := .cells #[.bool false, .slice A0_1 l0_1.length c0_1, .slice A0_2 l0_2.length c0_2] 25 (0, 0)) (zw0 BK501.out) hb); have n1_ := Aside0.mk (below_step (zw3 HB.out GE501.out) hb); have n2_ := Aside0.mk (hbox); have n3_ := Aside0.mk ((by rw [hg]; exact (below_size (zw3 HB.out GE501.out)) : w.heap.size ≤ gb502)); have n4_ := Aside0.mk ((by rw [hg]; exact (below_size (zw3 HB.out GE501.out)) : w.heap.size ≤ gb502)); have n5_ := Aside0.mk ((by rw [hg]; exact Nat.ne_of_lt (blk_lt (g := gb501) (o := .cells #[.bool false, .slice A0_1 l0_1.length c0_1, .slice A0_2 l0_2.length c0_2] 25 (0, 0)) (zw0 BK501.out)) : gb501 ≠ gb502)); have n6_ := Aside0.mk ((by rw [hg]; exact Nat.ne_of_gt (blk_lt (g := gb501) (o := .cells #[.bool false, .slice A0_1 l0_1.length c0_1, .slice A0_2 l0_2.length c0_2] 25 (0, 0)) (zw0 BK501.out)) : gb502 ≠ gb501)); clear BK501; clear HB; have BK501 := n0_; have HB := n1_; have BK502 := n2_; have GW502 := n3_; have GE502 := n4_; have NB501_502 := n5_; have NB502_501 := n6_; clear n0_ n1_ n2_ n3_ n4_ n5_ n6_; clear hb hbox hg; have hnb24 := NB501_502.out; have hnc24 := NB502_501.out; have hcz25_0 : w23.cell? ⟨gb501, 0, none⟩ = some (.bool false) := (blk_cell BK501.out 0).trans rfl; have hcz25_1 : w23.cell? ⟨gb501, 1, none⟩ = some (.slice A0_1 l0_1.length c0_1) := (blk_cell BK501.out 1).trans rfl; have hcz25_2 : w23.cell? ⟨gb501, 2, none⟩ = some (.slice A0_2 l0_2.length c0_2) := (blk_cell BK501.out 2).trans rfl; have hfz25_0 := blk_frozen BK501.out 0; have hfz25_1 := blk_frozen BK501.out 1; have hfz25_2 := blk_frozen BK501.out 2))
        go_ret
        exact ⟨by first | rfl | (simp [errW_none, errW_some] <;> rfl) | (simp [*, errW_none, errW_some] <;> rfl), by repeat (first | (with_reducible first | exact HB.out | apply below_alloc | apply pw_below_drewN | apply below_drew1 | refine below_set ?_ GE501.out | refine below_set ?_ GE502.out) | exact HB.out)⟩

end Go.Proofs.Ytbobnopnfjcajaa.P
