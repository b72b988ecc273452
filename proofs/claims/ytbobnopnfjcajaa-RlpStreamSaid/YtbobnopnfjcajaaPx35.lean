-- Written by a program of this session out of the translation.
import Derived.Test.YtbobnopnfjcajaaPx0
import Derived.Test.YtbobnopnfjcajaaPz
import Derived.Test.YtbobnopnfjcajaaPx8
import Derived.Test.YtbobnopnfjcajaaPx11
import Derived.Test.YtbobnopnfjcajaaPx13
import Derived.Test.YtbobnopnfjcajaaPx17
import Derived.Test.YtbobnopnfjcajaaPx20
namespace Go.Proofs.Ytbobnopnfjcajaa.P
open Go.RowKit Go.Proofs.YtbobnopnfjcajaaW.PrintWords Go.Proofs.YtbobnopnfjcajaaW.PrintLast Go.Proofs.YtbobnopnfjcajaaW.PrintMore
attribute [local go_sem] max2_int min2_int max_two min_two max_three min_three max_four min_four   -- for this text's walks alone
set_option linter.unusedVariables false
set_option linter.unusedSimpArgs false

/-! ### morainelaw4_RlpStream: function 7 -/
mutual
def morainelaw4_RlpStream.l0 : Nat → List (S25) → List Int → Int → Option (Bool)
  | 0, _, _, _ => none
  | k + 1, x0, x3, x4 => if x4 < (x0.length : Int) then (if 0 ≤ x4 then ((morainelaw4_few.f k ((rd_T25 x0 x4).f0) ((rd_T25 x0 x4).f1) ((rd_T25 x0 x4).f2)).bind fun t552 => (if t552 = true then ((rlp_Encode.f k ((rd_T25 x0 x4).f0) ((rd_T25 x0 x4).f1) ((rd_T25 x0 x4).f2)).bind fun bt554 => (if bt554.2 = 0 then (if (wrap64 ((x3.length : Int) + (bt554.1.length : Int))) > 65536 then (some true) else (if x3.length + bt554.1.length < 140737488355328 then (morainelaw4_RlpStream.l0 k x0 (x3 ++ bt554.1) (wrap64 (x4 + 1))) else (none))) else (some true))) else (some true))) else (none)) else (morainelaw4_RlpStream.l1 k x0 x3 0)
def morainelaw4_RlpStream.l1 : Nat → List (S25) → List Int → Int → Option (Bool)
  | 0, _, _, _ => none
  | k + 1, x0, x3, x7 => if x7 < (x0.length : Int) then ((rlp_First.f k x3).bind fun bt571 => (if bt571.2.2.2.2 = 0 then (if bt571.2.2.2.1 < 1 then (some false) else (if bt571.2.2.2.1 > (x3.length : Int) then (some false) else (if 0 ≤ x7 then ((moraineref4_Same.f k bt571.1 bt571.2.1 bt571.2.2.1 ((rd_T25 x0 x7).f0) ((rd_T25 x0 x7).f1) ((rd_T25 x0 x7).f2)).bind fun t582 => (if t582 = true then (if 0 ≤ bt571.2.2.2.1 then (if bt571.2.2.2.1 ≤ (x3.length : Int) then (morainelaw4_RlpStream.l1 k x0 (x3.drop (bt571.2.2.2.1 : Int).toNat) (wrap64 (x7 + 1))) else (none)) else (none)) else (some false))) else (none)))) else (some false))) else ((rlp_First.f k x3).bind fun bt561 => (if (x3.length : Int) = 0 then (if bt561.2.2.2.1 = 0 then (some (bt561.2.2.2.2 == 41)) else (some false)) else (some false)))
end
def morainelaw4_RlpStream.f (k : Nat) (l0 : List (S25)) : Option (Bool) := (morainelaw4_known.f k).bind fun t550 => (if t550 = true then (if (l0.length : Int) > 12 then (some true) else (morainelaw4_RlpStream.l0 k l0 ([] : List Int) 0)) else (some false))
theorem morainelaw4_RlpStream.mono_l : ∀ k, (∀ y0 y1 y2, LeO (morainelaw4_RlpStream.l0 k y0 y1 y2) (morainelaw4_RlpStream.l0 (k + 1) y0 y1 y2)) ∧ (∀ y0 y1 y2, LeO (morainelaw4_RlpStream.l1 k y0 y1 y2) (morainelaw4_RlpStream.l1 (k + 1) y0 y1 y2))
  | 0 => ⟨fun _ _ _ r h => by simp [morainelaw4_RlpStream.l0] at h, fun _ _ _ r h => by simp [morainelaw4_RlpStream.l1] at h⟩
  | k + 1 => by
    obtain ⟨ih0, ih1⟩ := morainelaw4_RlpStream.mono_l k
    refine ⟨?_, ?_⟩
    · intro y0 y1 y2
      unfold morainelaw4_RlpStream.l0
      repeat' first
      | (with_reducible exact ih0 _ _ _)
      | (with_reducible exact ih1 _ _ _)
      | (with_reducible exact morainelaw4_few.mono _ _ _ _)
      | (with_reducible exact morainelaw4_known.mono _)
      | (with_reducible exact moraineref4_Same.mono _ _ _ _ _ _ _)
      | (with_reducible exact rlp_Encode.mono _ _ _ _)
      | (with_reducible exact rlp_First.mono _ _)
      | (with_reducible exact LeO.refl _)
      | (with_reducible exact LeO.none _)
      | (with_reducible refine LeO.ite ?_ ?_)
      | (with_reducible refine LeO.bind ?_ (fun _ => ?_))
      | exact ih0 _ _ _
      | exact ih1 _ _ _
      | exact morainelaw4_few.mono _ _ _ _
      | exact morainelaw4_known.mono _
      | exact moraineref4_Same.mono _ _ _ _ _ _ _
      | exact rlp_Encode.mono _ _ _ _
      | exact rlp_First.mono _ _
      | exact LeO.none _
      | refine LeO.ite ?_ ?_
      | refine LeO.bind ?_ (fun _ => ?_)
    · intro y0 y1 y2
      unfold morainelaw4_RlpStream.l1
      repeat' first
      | (with_reducible exact ih0 _ _ _)
      | (with_reducible exact ih1 _ _ _)
      | (with_reducible exact morainelaw4_few.mono _ _ _ _)
      | (with_reducible exact morainelaw4_known.mono _)
      | (with_reducible exact moraineref4_Same.mono _ _ _ _ _ _ _)
      | (with_reducible exact rlp_Encode.mono _ _ _ _)
      | (with_reducible exact rlp_First.mono _ _)
      | (with_reducible exact LeO.refl _)
      | (with_reducible exact LeO.none _)
      | (with_reducible refine LeO.ite ?_ ?_)
      | (with_reducible refine LeO.bind ?_ (fun _ => ?_))
      | exact ih0 _ _ _
      | exact ih1 _ _ _
      | exact morainelaw4_few.mono _ _ _ _
      | exact morainelaw4_known.mono _
      | exact moraineref4_Same.mono _ _ _ _ _ _ _
      | exact rlp_Encode.mono _ _ _ _
      | exact rlp_First.mono _ _
      | exact LeO.none _
      | refine LeO.ite ?_ ?_
      | refine LeO.bind ?_ (fun _ => ?_)
theorem morainelaw4_RlpStream.mono : ∀ a0 k, LeO (morainelaw4_RlpStream.f k a0) (morainelaw4_RlpStream.f (k + 1) a0) := by
  intro a0 k
  obtain ⟨ih0, ih1⟩ := morainelaw4_RlpStream.mono_l k
  unfold morainelaw4_RlpStream.f
  repeat' first
      | (with_reducible exact ih0 _ _ _)
      | (with_reducible exact ih1 _ _ _)
      | (with_reducible exact morainelaw4_few.mono _ _ _ _)
      | (with_reducible exact morainelaw4_known.mono _)
      | (with_reducible exact moraineref4_Same.mono _ _ _ _ _ _ _)
      | (with_reducible exact rlp_Encode.mono _ _ _ _)
      | (with_reducible exact rlp_First.mono _ _)
      | (with_reducible exact LeO.refl _)
      | (with_reducible exact LeO.none _)
      | (with_reducible refine LeO.ite ?_ ?_)
      | (with_reducible refine LeO.bind ?_ (fun _ => ?_))
      | exact ih0 _ _ _
      | exact ih1 _ _ _
      | exact morainelaw4_few.mono _ _ _ _
      | exact morainelaw4_known.mono _
      | exact moraineref4_Same.mono _ _ _ _ _ _ _
      | exact rlp_Encode.mono _ _ _ _
      | exact rlp_First.mono _ _
      | exact LeO.none _
      | refine LeO.ite ?_ ?_
      | refine LeO.bind ?_ (fun _ => ?_)
def morainelaw4_RlpStream.T19 : Bool × List (List Nat × List Nat) := (true, [([], []), ([0], [0]), ([1], [1]), ([2], [2]), ([3, 2], [2, 3]), ([2, 4], [2, 4]), ([5, 2], [5]), ([6], [6]), ([6], [6]), ([8, 6], [6, 8]), ([7, 9, 6], [6, 7, 9]), ([6, 10], [6, 10]), ([11, 6], [11]), ([12], [12]), ([12], [12]), ([12], [12]), ([14, 15, 12], [12, 14, 15]), ([16, 12], [12, 16]), ([13, 17, 12, 12], [12, 13, 17]), ([18, 12], [12, 18]), ([12, 19], [12, 19])])
def morainelaw4_RlpStream.B19 : List Nat := [0, 1, 3, 7, 15, 31, 63, 127, 127, 383, 1023, 2047, 4095, 8191, 8191, 8191, 57343, 122879, 262143, 524287, 1048575]
theorem morainelaw4_RlpStream.tab19 : rtab .any (opsOf Try.f7 19) = morainelaw4_RlpStream.T19 := by kernel_rfl
theorem morainelaw4_RlpStream.bits19 : waitsOk morainelaw4_RlpStream.T19.2 morainelaw4_RlpStream.B19 = true := by kernel_rfl
set_option maxHeartbeats 8000000 in
set_option maxRecDepth 100000 in
theorem morainelaw4_RlpStream.calls (k : Nat) (A0 : Option Addr) (c0 : Nat) (l0 : List (S25)) (r : Bool) (w : World) (hr0 : Kd.C k25 w A0 l0.length l0) (hc0 : l0.length ≤ c0) (h : morainelaw4_RlpStream.f k l0 = some r) :
    Calls Try.prog 7 #[.slice A0 l0.length c0] w fun e w' => e = .returned (.bool r) ∧ Below w.heap.size w w' := by
  have hu25 := Try.underlying25
  have HR0 := Aside0.mk hr0
  have HC0 := Aside0.mk hc0
  clear hr0 hc0
  have HB := Aside0.mk (Below.refl w.heap.size w)
  have H : ((morainelaw4_known.f k).bind fun t550 => (if t550 = true then (if (l0.length : Int) > 12 then (some true) else (morainelaw4_RlpStream.l0 k l0 ([] : List Int) 0)) else (some false))) = some r := h
  clear h
  replace H := Option.bind_eq_some_iff.mp H
  obtain ⟨t550, A20, H⟩ := H
  replace H : (if t550 = true then (if (l0.length : Int) > 12 then (some true) else (morainelaw4_RlpStream.l0 k l0 ([] : List Int) 0)) else (some false)) = some r := H
  have A2 := Aside0.mk A20
  clear A20
  by_cases c3 : t550 = true
  · subst c3
    have H1 : (if (l0.length : Int) > 12 then (some true) else (morainelaw4_RlpStream.l0 k l0 ([] : List Int) 0)) = some r := by rw [if_pos rfl] at H; exact H
    clear H
    have H := H1
    clear H1
    by_cases c4 : (l0.length : Int) > 12
    · rw [if_pos c4] at H
      have c4b0 : decide (12 < (l0.length : Int)) = true := decide_eq_true c4
      have c4b1 : decide (12 < l0.length) = true := decide_eq_true (by omega)
      clear c4
      obtain rfl := Option.some.inj H
      go_enter Try.func7, Try.ntmps7
      go_wp2_with (first | ((with_reducible refine gate_callee (f := 9) rfl ?_); refine goesL_ (some 14) rfl rfl Try.func9 (by kernel_rfl) rfl #[] rfl zw6 ?_; (with_reducible refine (morainelaw4_known.calls k  true _ A2.out).mono ?_); rintro e w5 ⟨rfl, hb⟩; refine ⟨_, rfl, ?_⟩; have n0_ := Aside0.mk (below_step (zw2 HB.out) hb); clear HB; have HB := n0_; clear n0_; (try clear hb); (try clear hb2); (try clear hk); (try clear hi)))
      go_ret
      exact ⟨by first | rfl | (simp [errW_none, errW_some] <;> rfl) | (simp [*, errW_none, errW_some] <;> rfl), by repeat (first | (with_reducible first | exact HB.out | apply below_alloc | apply pw_below_drewN | apply below_drew1) | exact HB.out)⟩
    · rw [if_neg c4] at H
      have c4b0 : decide (12 < (l0.length : Int)) = false := decide_eq_false c4
      have c4b1 : decide (12 < l0.length) = false := decide_eq_false (by omega)
      clear c4
      have H' := Aside0.mk H
      clear H
      go_enter Try.func7, Try.ntmps7
      go_wp2_with (first | ((with_reducible refine gate_callee (f := 9) rfl ?_); refine goesL_ (some 14) rfl rfl Try.func9 (by kernel_rfl) rfl #[] rfl zw6 ?_; (with_reducible refine (morainelaw4_known.calls k  true _ A2.out).mono ?_); rintro e w6 ⟨rfl, hb⟩; refine ⟨_, rfl, ?_⟩; have n0_ := Aside0.mk (below_step (zw2 HB.out) hb); clear HB; have HB := n0_; clear n0_; (try clear hb); (try clear hb2); (try clear hk); (try clear hi)))
      go_loopg [3, 4] k (fun kq v3 v4 w' => ∃ (x3_1 : List Int) (x4_1 : Int), v4 = .int .i64 x4_1 ∧ Aside0 (morainelaw4_RlpStream.l0 kq l0 x3_1 x4_1 = some r) ∧ Aside0 (kq ≤ k) ∧ Aside0 (Kd.R (Kd.int .u8) 5 w' w.heap.size (fun _ => True) v3 x3_1) ∧ Aside0 (Below w.heap.size w w'))
      case atStart => exact ⟨(([] : List Int)), (0), zw7, H', ⟨Nat.le_refl _⟩, ⟨by first | exact Kd.R_nil _ _ _ _ _ | exact Kd.N_nil _ _ _ _ _ | exact Kd.V_nil _ _ _ _ _ | exact Kd.Q_nil _ _ _ _ _ | exact Kd.S_nil _ _ _ _ _⟩, ⟨by repeat (first | (with_reducible first | exact HB.out | apply below_alloc | apply pw_below_drewN | apply below_drew1) | exact HB.out)⟩⟩
      case round =>
        clear H'
        try clear p2
        try clear c3
        try clear c4
        try clear c4b0
        try clear c4b1
        obtain ⟨x3_1, x4_1, rfl, HA, HK1, HO_3, HB⟩ := hrel
        cases gk with
        | zero => exact absurd HA.out (by simp [morainelaw4_RlpStream.l0])
        | succ k1 =>
          have H := HA.out
          clear HA
          simp only [morainelaw4_RlpStream.l0] at H
          by_cases c7 : x4_1 < (l0.length : Int)
          · rw [if_pos c7] at H
            have c7b0 : decide (x4_1 < (l0.length : Int)) = true := decide_eq_true c7
            clear c7
            by_cases c8 : 0 ≤ x4_1
            · rw [if_pos c8] at H
              have c8b0 : decide (0 ≤ x4_1) = true := decide_eq_true c8
              clear c8
              replace H := Option.bind_eq_some_iff.mp H
              obtain ⟨t552, A90, H⟩ := H
              replace H : (if t552 = true then ((rlp_Encode.f k1 ((rd_T25 l0 x4_1).f0) ((rd_T25 l0 x4_1).f1) ((rd_T25 l0 x4_1).f2)).bind fun bt554 => (if bt554.2 = 0 then (if (wrap64 ((x3_1.length : Int) + (bt554.1.length : Int))) > 65536 then (some true) else (if x3_1.length + bt554.1.length < 140737488355328 then (morainelaw4_RlpStream.l0 k1 l0 (x3_1 ++ bt554.1) (wrap64 (x4_1 + 1))) else (none))) else (some true))) else (some true)) = some r := H
              have A9 := Aside0.mk A90
              clear A90
              by_cases c10 : t552 = true
              · subst c10
                have H1 : ((rlp_Encode.f k1 ((rd_T25 l0 x4_1).f0) ((rd_T25 l0 x4_1).f1) ((rd_T25 l0 x4_1).f2)).bind fun bt554 => (if bt554.2 = 0 then (if (wrap64 ((x3_1.length : Int) + (bt554.1.length : Int))) > 65536 then (some true) else (if x3_1.length + bt554.1.length < 140737488355328 then (morainelaw4_RlpStream.l0 k1 l0 (x3_1 ++ bt554.1) (wrap64 (x4_1 + 1))) else (none))) else (some true))) = some r := by rw [if_pos rfl] at H; exact H
                clear H
                have H := H1
                clear H1
                replace H := Option.bind_eq_some_iff.mp H
                obtain ⟨⟨t554, t557⟩, A110, H⟩ := H
                replace H : (if t557 = 0 then (if (wrap64 ((x3_1.length : Int) + (t554.length : Int))) > 65536 then (some true) else (if x3_1.length + t554.length < 140737488355328 then (morainelaw4_RlpStream.l0 k1 l0 (x3_1 ++ t554) (wrap64 (x4_1 + 1))) else (none))) else (some true)) = some r := H
                have A11 := Aside0.mk A110
                clear A110
                by_cases c12 : t557 = 0
                · rw [if_pos c12] at H
                  have c12b0 : (t557 == 0) = true := beq_iff_eq.mpr c12
                  have c12b1 : (t557 != 0) = false := bne_eq_false_iff_eq.mpr c12
                  clear c12
                  by_cases c13 : (wrap64 ((x3_1.length : Int) + (t554.length : Int))) > 65536
                  · rw [if_pos c13] at H
                    have c13b0 : decide (65536 < (wrap64 ((x3_1.length : Int) + (t554.length : Int)))) = true := decide_eq_true c13
                    clear c13
                    obtain rfl := Option.some.inj H
                    have p551 : 0 ≤ (x4_1 : Int) := of_decide_eq_true (by first | (with_reducible assumption) | assumption)
                    have q551 : x4_1 < (l0.length : Int) := of_decide_eq_true (by first | (with_reducible assumption) | assumption)
                    obtain ⟨ad551, A551_1, c551_1, A551_2, c551_2, e551, hx551_0, hx551_1, hx551_2, hl551_1, hi551_1, hl551_2, hi551_2⟩ := at_T25 HR0.out x4_1 p551 q551
                    cases e551
                    replace hx551_0 := (HB.out.cell (World.block_lt_of_cell? w _ hx551_0)).trans hx551_0
                    replace hx551_1 := (HB.out.cell (World.block_lt_of_cell? w _ hx551_1)).trans hx551_1
                    replace hx551_2 := (HB.out.cell (World.block_lt_of_cell? w _ hx551_2)).trans hx551_2
                    have HR551_1 := Aside0.mk hi551_1
                    have HC551_1 := Aside0.mk hl551_1
                    clear hi551_1 hl551_1
                    have HR551_2 := Aside0.mk hi551_2
                    have HC551_2 := Aside0.mk hl551_2
                    clear hi551_2 hl551_2
                    replace p551 := eq_true p551
                    replace q551 := eq_true q551
                    go_wp2_with (first | ((with_reducible refine gate_callee (f := 10) rfl ?_); refine goesL_ (some 29) rfl rfl Try.func10 (by kernel_rfl) rfl #[.agg #[.bool ((rd_T25 l0 x4_1).f0), .slice A551_1 ((rd_T25 l0 x4_1).f1).length c551_1, .slice A551_2 ((rd_T25 l0 x4_1).f2).length c551_2]] rfl zw6 ?_; (with_reducible refine (morainelaw4_few.calls k1 ((rd_T25 l0 x4_1).f0) _ _ ((rd_T25 l0 x4_1).f1) _ _ ((rd_T25 l0 x4_1).f2) true _ ?side1 ?side2 ?side3 ?side4 A9.out).mono ?_); (case side1 => exact zw4 HR551_1.out HB.out); (case side2 => exact HC551_1.out); (case side3 => exact zw4 HR551_2.out HB.out); (case side4 => exact HC551_2.out); rintro e w14 ⟨rfl, hb⟩; refine ⟨_, rfl, ?_⟩; have n0_ := Aside0.mk (Kd.R_below (zw1 HO_3.out) hb); have n1_ := Aside0.mk (below_step (zw2 HB.out) hb); clear HO_3; clear HB; have HO_3 := n0_; have HB := n1_; clear n0_ n1_; (try clear hb); (try clear hb2); (try clear hk); (try clear hi); have p553 : 0 ≤ (x4_1 : Int) := of_decide_eq_true (by first | (with_reducible assumption) | assumption); have q553 : x4_1 < (l0.length : Int) := of_decide_eq_true (by first | (with_reducible assumption) | assumption); obtain ⟨ad553, A553_1, c553_1, A553_2, c553_2, e553, hx553_0, hx553_1, hx553_2, hl553_1, hi553_1, hl553_2, hi553_2⟩ := at_T25 HR0.out x4_1 p553 q553; obtain rfl : ad551 = ad553 := (by injection e553); replace hx553_0 := (HB.out.cell (World.block_lt_of_cell? w _ hx553_0)).trans hx553_0; replace hx553_1 := (HB.out.cell (World.block_lt_of_cell? w _ hx553_1)).trans hx553_1; replace hx553_2 := (HB.out.cell (World.block_lt_of_cell? w _ hx553_2)).trans hx553_2; have HR553_1 := Aside0.mk hi553_1; have HC553_1 := Aside0.mk hl553_1; clear hi553_1 hl553_1; have HR553_2 := Aside0.mk hi553_2; have HC553_2 := Aside0.mk hl553_2; clear hi553_2 hl553_2; replace p553 := eq_true p553; replace q553 := eq_true q553) | ((with_reducible refine gate_callee (f := 11) rfl ?_); refine goesL_ (some 36) rfl rfl Try.func11 (by kernel_rfl) rfl #[.agg #[.bool ((rd_T25 l0 x4_1).f0), .slice A553_1 ((rd_T25 l0 x4_1).f1).length c553_1, .slice A553_2 ((rd_T25 l0 x4_1).f2).length c553_2]] rfl zw6 ?_; (with_reducible refine (rlp_Encode.calls k1 ((rd_T25 l0 x4_1).f0) _ _ ((rd_T25 l0 x4_1).f1) _ _ ((rd_T25 l0 x4_1).f2) t554 t557 _ ?side1 ?side2 ?side3 ?side4 A11.out).mono ?_); (case side1 => exact zw4 HR553_1.out HB.out); (case side2 => exact HC553_1.out); (case side3 => exact zw4 HR553_2.out HB.out); (case side4 => exact HC553_2.out); rintro e w15 ⟨v555, rfl, ho0, hb⟩; refine ⟨_, rfl, ?_⟩; have n0_ := Aside0.mk (Kd.R_elder' (zw1 HO_3.out) (Kd.R_base ho0) hb); have n1_ := Aside0.mk (Kd.R_lower (Kd.R_new' ho0 (Kd.R_lt (zw1 HO_3.out))) (below_size (zw2 HB.out))); have n2_ := Aside0.mk (below_step (zw2 HB.out) hb); clear HO_3; clear HB; have HO_3 := n0_; have HO556 := n1_; have HB := n2_; clear n0_ n1_ n2_; (try clear hb); (try clear hb2); (try clear hk); (try clear hi); (try clear ho0); obtain ⟨Ao16, co16, eo16⟩ := Kd.R_slice HO_3.out; subst eo16; obtain ⟨Ao17, co17, eo17⟩ := Kd.R_slice HO556.out; subst eo17))
                    go_ret
                    exact ⟨by first | rfl | (simp [errW_none, errW_some] <;> rfl) | (simp [*, errW_none, errW_some] <;> rfl), by repeat (first | (with_reducible first | exact HB.out | apply below_alloc | apply pw_below_drewN | apply below_drew1) | exact HB.out)⟩
                  · rw [if_neg c13] at H
                    have c13b0 : decide (65536 < (wrap64 ((x3_1.length : Int) + (t554.length : Int)))) = false := decide_eq_false c13
                    clear c13
                    by_cases c18 : x3_1.length + t554.length < 140737488355328
                    · rw [if_pos c18] at H
                      have LMc18 := Aside0.mk c18
                      clear c18
                      obtain ⟨y558, hy558⟩ : ∃ y_ : List Int, y_ = (x3_1 ++ t554) := ⟨_, rfl⟩
                      replace H : (morainelaw4_RlpStream.l0 k1 l0 y558 (wrap64 (x4_1 + 1))) = some r := by first | (rw [hy558]; with_reducible exact H) | (have H2_ := (Option.bind_some _ _).symm.trans H; rw [hy558]; with_reducible exact H2_) | (have H2_ := (Option.bind_some _ _).symm.trans H; with_reducible exact H2_) | with_reducible exact H | (rw [hy558]; exact H) | exact H
                      have Ny558 := Aside0.mk hy558
                      clear hy558
                      have H' := Aside0.mk H
                      clear H
                      have p551 : 0 ≤ (x4_1 : Int) := of_decide_eq_true (by first | (with_reducible assumption) | assumption)
                      have q551 : x4_1 < (l0.length : Int) := of_decide_eq_true (by first | (with_reducible assumption) | assumption)
                      obtain ⟨ad551, A551_1, c551_1, A551_2, c551_2, e551, hx551_0, hx551_1, hx551_2, hl551_1, hi551_1, hl551_2, hi551_2⟩ := at_T25 HR0.out x4_1 p551 q551
                      cases e551
                      replace hx551_0 := (HB.out.cell (World.block_lt_of_cell? w _ hx551_0)).trans hx551_0
                      replace hx551_1 := (HB.out.cell (World.block_lt_of_cell? w _ hx551_1)).trans hx551_1
                      replace hx551_2 := (HB.out.cell (World.block_lt_of_cell? w _ hx551_2)).trans hx551_2
                      have HR551_1 := Aside0.mk hi551_1
                      have HC551_1 := Aside0.mk hl551_1
                      clear hi551_1 hl551_1
                      have HR551_2 := Aside0.mk hi551_2
                      have HC551_2 := Aside0.mk hl551_2
                      clear hi551_2 hl551_2
                      replace p551 := eq_true p551
                      replace q551 := eq_true q551
                      go_wp2_with (first | ((with_reducible refine gate_callee (f := 10) rfl ?_); refine goesL_ (some 29) rfl rfl Try.func10 (by kernel_rfl) rfl #[.agg #[.bool ((rd_T25 l0 x4_1).f0), .slice A551_1 ((rd_T25 l0 x4_1).f1).length c551_1, .slice A551_2 ((rd_T25 l0 x4_1).f2).length c551_2]] rfl zw6 ?_; (with_reducible refine (morainelaw4_few.calls k1 ((rd_T25 l0 x4_1).f0) _ _ ((rd_T25 l0 x4_1).f1) _ _ ((rd_T25 l0 x4_1).f2) true _ ?side1 ?side2 ?side3 ?side4 A9.out).mono ?_); (case side1 => exact zw4 HR551_1.out HB.out); (case side2 => exact HC551_1.out); (case side3 => exact zw4 HR551_2.out HB.out); (case side4 => exact HC551_2.out); rintro e w19 ⟨rfl, hb⟩; refine ⟨_, rfl, ?_⟩; have n0_ := Aside0.mk (Kd.R_below (zw1 HO_3.out) hb); have n1_ := Aside0.mk (below_step (zw2 HB.out) hb); clear HO_3; clear HB; have HO_3 := n0_; have HB := n1_; clear n0_ n1_; (try clear hb); (try clear hb2); (try clear hk); (try clear hi); have p553 : 0 ≤ (x4_1 : Int) := of_decide_eq_true (by first | (with_reducible assumption) | assumption); have q553 : x4_1 < (l0.length : Int) := of_decide_eq_true (by first | (with_reducible assumption) | assumption); obtain ⟨ad553, A553_1, c553_1, A553_2, c553_2, e553, hx553_0, hx553_1, hx553_2, hl553_1, hi553_1, hl553_2, hi553_2⟩ := at_T25 HR0.out x4_1 p553 q553; obtain rfl : ad551 = ad553 := (by injection e553); replace hx553_0 := (HB.out.cell (World.block_lt_of_cell? w _ hx553_0)).trans hx553_0; replace hx553_1 := (HB.out.cell (World.block_lt_of_cell? w _ hx553_1)).trans hx553_1; replace hx553_2 := (HB.out.cell (World.block_lt_of_cell? w _ hx553_2)).trans hx553_2; have HR553_1 := Aside0.mk hi553_1; have HC553_1 := Aside0.mk hl553_1; clear hi553_1 hl553_1; have HR553_2 := Aside0.mk hi553_2; have HC553_2 := Aside0.mk hl553_2; clear hi553_2 hl553_2; replace p553 := eq_true p553; replace q553 := eq_true q553) | ((with_reducible refine gate_callee (f := 11) rfl ?_); refine goesL_ (some 36) rfl rfl Try.func11 (by kernel_rfl) rfl #[.agg #[.bool ((rd_T25 l0 x4_1).f0), .slice A553_1 ((rd_T25 l0 x4_1).f1).length c553_1, .slice A553_2 ((rd_T25 l0 x4_1).f2).length c553_2]] rfl zw6 ?_; (with_reducible refine (rlp_Encode.calls k1 ((rd_T25 l0 x4_1).f0) _ _ ((rd_T25 l0 x4_1).f1) _ _ ((rd_T25 l0 x4_1).f2) t554 t557 _ ?side1 ?side2 ?side3 ?side4 A11.out).mono ?_); (case side1 => exact zw4 HR553_1.out HB.out); (case side2 => exact HC553_1.out); (case side3 => exact zw4 HR553_2.out HB.out); (case side4 => exact HC553_2.out); rintro e w20 ⟨v555, rfl, ho0, hb⟩; refine ⟨_, rfl, ?_⟩; have n0_ := Aside0.mk (Kd.R_elder' (zw1 HO_3.out) (Kd.R_base ho0) hb); have n1_ := Aside0.mk (Kd.R_lower (Kd.R_new' ho0 (Kd.R_lt (zw1 HO_3.out))) (below_size (zw2 HB.out))); have n2_ := Aside0.mk (below_step (zw2 HB.out) hb); clear HO_3; clear HB; have HO_3 := n0_; have HO556 := n1_; have HB := n2_; clear n0_ n1_ n2_; (try clear hb); (try clear hb2); (try clear hk); (try clear hi); (try clear ho0); obtain ⟨Ao21, co21, eo21⟩ := Kd.R_slice HO_3.out; subst eo21; obtain ⟨Ao22, co22, eo22⟩ := Kd.R_slice HO556.out; subst eo22) | ((with_reducible refine gate_builtin (b := .append) (xs := #[.tmp 49, .tmp 50]) rfl ?_); (try (refine gate_guard (by rfl) ?_; dsimp only)); at_builtin; refine Kd.R_append_rows (Kd.int .u8) (w0 := w) w.heap.size rfl (.tmp 49) (.tmp 50) 22 5 (.int .u8 0) 1 rfl Try.underlying22 info5 rfl (by decide) (by omega) (.slice Ao21 x3_1.length co21) x3_1 t554 _ _ _ (fun k_ => some k_ ≠ (.slice Ao22 t554.length co22 : Value).ownBlock) (fun _ => False) rfl rfl ?aO ?aR (fun _ _ h => h) (fun _ h => h.elim) ?aF ?aB ?aS ?aL ?_; (case aR => repeat (first | exact (Kd.R_reads' HO556.out).2.2 | (with_reducible refine Kd.C_alloc ?_ _) | (with_reducible refine Kd.C_drewN ?_ _) | (with_reducible refine Kd.C_drew ?_))); (case aB => exact (zw2 HB.out)); (case aF => exact (fun k_ hk => Kd.fresh' (Kd.R_lt (zw1 HO556.out)) k_ hk)); (case aO => exact (by (with_reducible repeat (first | apply Kd.R_alloc | apply Kd.R_drewN | apply Kd.R_drew)); exact Kd.R_mono HO_3.out (fun _ hk => hk.2))); (case aS => exact (below_size (zw2 HB.out))); (case aL => have := LMc18.out; omega); intro v559 w23 ho hb hg hat; rw [← Ny558.out] at ho; have n0_ := Aside0.mk (Kd.R_after (ok := (fun _ => True)) (zw1 HO556.out) hg hat); have n1_ := Aside0.mk (hb); have n2_ := Aside0.mk (ho); clear HO556; clear HB; clear HO_3; have HO556 := n0_; have HB := n1_; have HO560 := n2_; clear n0_ n1_ n2_; clear ho hb hg hat))
                      go_roundg k1
                      case measure => have := HK1.out; omega
                      case rel => exact ⟨(y558), (wrap64 (x4_1 + 1)), zw7, H', ⟨by have := HK1.out; omega⟩, ⟨by (with_reducible repeat (first | apply Kd.R_alloc | apply Kd.R_drewN | apply Kd.R_drew)); exact Kd.R_mono HO560.out (fun _ hk => trivial)⟩, ⟨by repeat (first | (with_reducible first | exact HB.out | apply below_alloc | apply pw_below_drewN | apply below_drew1) | exact HB.out)⟩⟩
                    · rw [if_neg c18] at H
                      exact absurd H (by simp)
                · rw [if_neg c12] at H
                  have c12b0 : (t557 == 0) = false := beq_eq_false_iff_ne.mpr c12
                  have c12b1 : (t557 != 0) = true := bne_iff_ne.mpr c12
                  obtain rfl := Option.some.inj H
                  have p551 : 0 ≤ (x4_1 : Int) := of_decide_eq_true (by first | (with_reducible assumption) | assumption)
                  have q551 : x4_1 < (l0.length : Int) := of_decide_eq_true (by first | (with_reducible assumption) | assumption)
                  obtain ⟨ad551, A551_1, c551_1, A551_2, c551_2, e551, hx551_0, hx551_1, hx551_2, hl551_1, hi551_1, hl551_2, hi551_2⟩ := at_T25 HR0.out x4_1 p551 q551
                  cases e551
                  replace hx551_0 := (HB.out.cell (World.block_lt_of_cell? w _ hx551_0)).trans hx551_0
                  replace hx551_1 := (HB.out.cell (World.block_lt_of_cell? w _ hx551_1)).trans hx551_1
                  replace hx551_2 := (HB.out.cell (World.block_lt_of_cell? w _ hx551_2)).trans hx551_2
                  have HR551_1 := Aside0.mk hi551_1
                  have HC551_1 := Aside0.mk hl551_1
                  clear hi551_1 hl551_1
                  have HR551_2 := Aside0.mk hi551_2
                  have HC551_2 := Aside0.mk hl551_2
                  clear hi551_2 hl551_2
                  replace p551 := eq_true p551
                  replace q551 := eq_true q551
                  go_wp2_with (first | ((with_reducible refine gate_callee (f := 10) rfl ?_); refine goesL_ (some 29) rfl rfl Try.func10 (by kernel_rfl) rfl #[.agg #[.bool ((rd_T25 l0 x4_1).f0), .slice A551_1 ((rd_T25 l0 x4_1).f1).length c551_1, .slice A551_2 ((rd_T25 l0 x4_1).f2).length c551_2]] rfl zw6 ?_; (with_reducible refine (morainelaw4_few.calls k1 ((rd_T25 l0 x4_1).f0) _ _ ((rd_T25 l0 x4_1).f1) _ _ ((rd_T25 l0 x4_1).f2) true _ ?side1 ?side2 ?side3 ?side4 A9.out).mono ?_); (case side1 => exact zw4 HR551_1.out HB.out); (case side2 => exact HC551_1.out); (case side3 => exact zw4 HR551_2.out HB.out); (case side4 => exact HC551_2.out); rintro e w24 ⟨rfl, hb⟩; refine ⟨_, rfl, ?_⟩; have n0_ := Aside0.mk (Kd.R_below (zw1 HO_3.out) hb); have n1_ := Aside0.mk (below_step (zw2 HB.out) hb); clear HO_3; clear HB; have HO_3 := n0_; have HB := n1_; clear n0_ n1_; (try clear hb); (try clear hb2); (try clear hk); (try clear hi); have p553 : 0 ≤ (x4_1 : Int) := of_decide_eq_true (by first | (with_reducible assumption) | assumption); have q553 : x4_1 < (l0.length : Int) := of_decide_eq_true (by first | (with_reducible assumption) | assumption); obtain ⟨ad553, A553_1, c553_1, A553_2, c553_2, e553, hx553_0, hx553_1, hx553_2, hl553_1, hi553_1, hl553_2, hi553_2⟩ := at_T25 HR0.out x4_1 p553 q553; obtain rfl : ad551 = ad553 := (by injection e553); replace hx553_0 := (HB.out.cell (World.block_lt_of_cell? w _ hx553_0)).trans hx553_0; replace hx553_1 := (HB.out.cell (World.block_lt_of_cell? w _ hx553_1)).trans hx553_1; replace hx553_2 := (HB.out.cell (World.block_lt_of_cell? w _ hx553_2)).trans hx553_2; have HR553_1 := Aside0.mk hi553_1; have HC553_1 := Aside0.mk hl553_1; clear hi553_1 hl553_1; have HR553_2 := Aside0.mk hi553_2; have HC553_2 := Aside0.mk hl553_2; clear hi553_2 hl553_2; replace p553 := eq_true p553; replace q553 := eq_true q553) | ((with_reducible refine gate_callee (f := 11) rfl ?_); refine goesL_ (some 36) rfl rfl Try.func11 (by kernel_rfl) rfl #[.agg #[.bool ((rd_T25 l0 x4_1).f0), .slice A553_1 ((rd_T25 l0 x4_1).f1).length c553_1, .slice A553_2 ((rd_T25 l0 x4_1).f2).length c553_2]] rfl zw6 ?_; (with_reducible refine (rlp_Encode.calls k1 ((rd_T25 l0 x4_1).f0) _ _ ((rd_T25 l0 x4_1).f1) _ _ ((rd_T25 l0 x4_1).f2) t554 t557 _ ?side1 ?side2 ?side3 ?side4 A11.out).mono ?_); (case side1 => exact zw4 HR553_1.out HB.out); (case side2 => exact HC553_1.out); (case side3 => exact zw4 HR553_2.out HB.out); (case side4 => exact HC553_2.out); rintro e w25 ⟨v555, rfl, ho0, hb⟩; refine ⟨_, rfl, ?_⟩; have n0_ := Aside0.mk (Kd.R_elder' (zw1 HO_3.out) (Kd.R_base ho0) hb); have n1_ := Aside0.mk (Kd.R_lower (Kd.R_new' ho0 (Kd.R_lt (zw1 HO_3.out))) (below_size (zw2 HB.out))); have n2_ := Aside0.mk (below_step (zw2 HB.out) hb); clear HO_3; clear HB; have HO_3 := n0_; have HO556 := n1_; have HB := n2_; clear n0_ n1_ n2_; (try clear hb); (try clear hb2); (try clear hk); (try clear hi); (try clear ho0)))
                  go_ret
                  exact ⟨by first | rfl | (simp [errW_none, errW_some] <;> rfl) | (simp [*, errW_none, errW_some] <;> rfl), by repeat (first | (with_reducible first | exact HB.out | apply below_alloc | apply pw_below_drewN | apply below_drew1) | exact HB.out)⟩
              · replace c10 := Bool.eq_false_iff.mpr c10
                subst c10
                have H1 : (some true) = some r := by rw [if_neg (show ¬ (false = true) by decide)] at H; exact H
                clear H
                have H := H1
                clear H1
                obtain rfl := Option.some.inj H
                have p551 : 0 ≤ (x4_1 : Int) := of_decide_eq_true (by first | (with_reducible assumption) | assumption)
                have q551 : x4_1 < (l0.length : Int) := of_decide_eq_true (by first | (with_reducible assumption) | assumption)
                obtain ⟨ad551, A551_1, c551_1, A551_2, c551_2, e551, hx551_0, hx551_1, hx551_2, hl551_1, hi551_1, hl551_2, hi551_2⟩ := at_T25 HR0.out x4_1 p551 q551
                cases e551
                replace hx551_0 := (HB.out.cell (World.block_lt_of_cell? w _ hx551_0)).trans hx551_0
                replace hx551_1 := (HB.out.cell (World.block_lt_of_cell? w _ hx551_1)).trans hx551_1
                replace hx551_2 := (HB.out.cell (World.block_lt_of_cell? w _ hx551_2)).trans hx551_2
                have HR551_1 := Aside0.mk hi551_1
                have HC551_1 := Aside0.mk hl551_1
                clear hi551_1 hl551_1
                have HR551_2 := Aside0.mk hi551_2
                have HC551_2 := Aside0.mk hl551_2
                clear hi551_2 hl551_2
                replace p551 := eq_true p551
                replace q551 := eq_true q551
                go_wp2_with (first | ((with_reducible refine gate_callee (f := 10) rfl ?_); refine goesL_ (some 29) rfl rfl Try.func10 (by kernel_rfl) rfl #[.agg #[.bool ((rd_T25 l0 x4_1).f0), .slice A551_1 ((rd_T25 l0 x4_1).f1).length c551_1, .slice A551_2 ((rd_T25 l0 x4_1).f2).length c551_2]] rfl zw6 ?_; (with_reducible refine (morainelaw4_few.calls k1 ((rd_T25 l0 x4_1).f0) _ _ ((rd_T25 l0 x4_1).f1) _ _ ((rd_T25 l0 x4_1).f2) false _ ?side1 ?side2 ?side3 ?side4 A9.out).mono ?_); (case side1 => exact zw4 HR551_1.out HB.out); (case side2 => exact HC551_1.out); (case side3 => exact zw4 HR551_2.out HB.out); (case side4 => exact HC551_2.out); rintro e w26 ⟨rfl, hb⟩; refine ⟨_, rfl, ?_⟩; have n0_ := Aside0.mk (Kd.R_below (zw1 HO_3.out) hb); have n1_ := Aside0.mk (below_step (zw2 HB.out) hb); clear HO_3; clear HB; have HO_3 := n0_; have HB := n1_; clear n0_ n1_; (try clear hb); (try clear hb2); (try clear hk); (try clear hi)))
                go_ret
                exact ⟨by first | rfl | (simp [errW_none, errW_some] <;> rfl) | (simp [*, errW_none, errW_some] <;> rfl), by repeat (first | (with_reducible first | exact HB.out | apply below_alloc | apply pw_below_drewN | apply below_drew1) | exact HB.out)⟩
            · rw [if_neg c8] at H
              exact absurd H (by simp)
          · rw [if_neg c7] at H
            have c7b0 : decide (x4_1 < (l0.length : Int)) = false := decide_eq_false c7
            clear c7
            have H' := Aside0.mk H
            clear H
            go_wp2
            go_loopg [3, 7] k1 (fun kq v3 v7 w' => ∃ (x3_2 : List Int) (x7_2 : Int), v7 = .int .i64 x7_2 ∧ Aside0 (morainelaw4_RlpStream.l1 kq l0 x3_2 x7_2 = some r) ∧ Aside0 (kq ≤ k1) ∧ Aside0 (Kd.Q (Kd.int .u8) 5 w' w.heap.size (fun _ => True) v3 x3_2) ∧ Aside0 (Below w.heap.size w w'))
            case atStart => exact ⟨(x3_1), (0), zw7, H', ⟨Nat.le_refl _⟩, ⟨Kd.Q_of_R (zw1 HO_3.out)⟩, ⟨by repeat (first | (with_reducible first | exact HB.out | apply below_alloc | apply pw_below_drewN | apply below_drew1) | exact HB.out)⟩⟩
            case round =>
              clear H'
              try clear c1
              try clear p2
              try clear c3
              try clear c4
              try clear c4b0
              try clear c4b1
              try clear c5
              try clear p5
              try clear q5
              try clear hx5
              try clear p6
              try clear c7
              try clear c7b0
              try clear c8
              try clear c8b0
              try clear c9
              try clear c10
              try clear c11
              try clear c12
              try clear c12b0
              try clear c12b1
              try clear c13
              try clear c13b0
              try clear c18
              try clear hx551_0
              try clear hx551_1
              try clear hx551_2
              try clear hx553_0
              try clear hx553_1
              try clear hx553_2
              try clear p2
              try clear p551
              try clear p553
              try clear q551
              try clear q553
              obtain ⟨x3_2, x7_2, rfl, HA, HK2, HO_3, HB⟩ := hrel
              cases gk with
              | zero => exact absurd HA.out (by simp [morainelaw4_RlpStream.l1])
              | succ k2 =>
                have H := HA.out
                clear HA
                simp only [morainelaw4_RlpStream.l1] at H
                by_cases c27 : x7_2 < (l0.length : Int)
                · rw [if_pos c27] at H
                  have c27b0 : decide (x7_2 < (l0.length : Int)) = true := decide_eq_true c27
                  clear c27
                  replace H := Option.bind_eq_some_iff.mp H
                  obtain ⟨⟨t571, t572, t575, t578, t579⟩, A280, H⟩ := H
                  replace H : (if t579 = 0 then (if t578 < 1 then (some false) else (if t578 > (x3_2.length : Int) then (some false) else (if 0 ≤ x7_2 then ((moraineref4_Same.f k2 t571 t572 t575 ((rd_T25 l0 x7_2).f0) ((rd_T25 l0 x7_2).f1) ((rd_T25 l0 x7_2).f2)).bind fun t582 => (if t582 = true then (if 0 ≤ t578 then (if t578 ≤ (x3_2.length : Int) then (morainelaw4_RlpStream.l1 k2 l0 (x3_2.drop (t578 : Int).toNat) (wrap64 (x7_2 + 1))) else (none)) else (none)) else (some false))) else (none)))) else (some false)) = some r := H
                  have A28 := Aside0.mk A280
                  clear A280
                  by_cases c29 : t579 = 0
                  · rw [if_pos c29] at H
                    have c29b0 : (t579 == 0) = true := beq_iff_eq.mpr c29
                    have c29b1 : (t579 != 0) = false := bne_eq_false_iff_eq.mpr c29
                    clear c29
                    by_cases c30 : t578 < 1
                    · rw [if_pos c30] at H
                      have c30b0 : decide (t578 < 1) = true := decide_eq_true c30
                      clear c30
                      obtain rfl := Option.some.inj H
                      obtain ⟨Ao31, co31, eo31, _⟩ := Kd.Q_slice HO_3.out
                      subst eo31
                      try go_wp2_with (first | ((with_reducible refine gate_callee (f := 17) rfl ?_); refine goesL_ (some 60) rfl rfl Try.func17 (by kernel_rfl) rfl #[.slice Ao31 x3_2.length co31] rfl zw6 ?_; (with_reducible refine (rlp_First.calls k2 _ _ x3_2 t571 t572 t575 t578 t579 _ ?side1 ?side2 A28.out).mono ?_); (case side1 => exact zw32 HO_3.out); (case side2 => exact (Kd.Q_reads' HO_3.out).2.1); rintro e w32 ⟨v573, v576, rfl, ho0, ho1, hb⟩; refine ⟨_, rfl, ?_⟩; have n0_ := Aside0.mk (Kd.Q_elder' (zw16 HO_3.out) (Kd.R_base ho0) hb); have n1_ := Aside0.mk (Kd.R_lower (Kd.R_new' ho0 (Kd.Q_lt (zw16 HO_3.out))) (below_size (zw2 HB.out))); have n2_ := Aside0.mk (Kd.R_lower (Kd.R_new' ho1 (Kd.Q_lt (zw16 HO_3.out))) (below_size (zw2 HB.out))); have n3_ := Aside0.mk (below_step (zw2 HB.out) hb); clear HO_3; clear HB; have HO_3 := n0_; have HO574 := n1_; have HO577 := n2_; have HB := n3_; clear n0_ n1_ n2_ n3_; (try clear hb); (try clear hb2); (try clear hk); (try clear hi); (try clear ho0); (try clear ho1)) | ((with_reducible refine gate_dst (N := 8) rfl ?_); (try (refine gate_guard (by rfl) ?_; dsimp only)); refine box_event ?hg (N := 8) ?hd (cs := #[.bool false, .slice none 0 0, .slice none 0 0]) (t := 25) ?hr ?_; (case hd => rfl); (case hg => rfl); (case hr => first | (go_simp; done) | (go_simp; rfl)); intro gb580 hg w33 hbox hb; have n0_ := Aside0.mk (Kd.Q_below (zw16 HO_3.out) hb); have n1_ := Aside0.mk (Kd.R_below (zw1 HO574.out) hb); have n2_ := Aside0.mk (Kd.R_below (Kd.R_elderB (zw1 HO577.out) gb580 (Nat.le_of_eq hg.symm)) hb); have n3_ := Aside0.mk (below_step (zw2 HB.out) hb); have n4_ := Aside0.mk (hbox); have n5_ := Aside0.mk ((by rw [hg]; exact (below_size (zw2 HB.out)) : w.heap.size ≤ gb580)); have n6_ := Aside0.mk ((by rw [hg]; exact (below_size (zw2 HB.out)) : w.heap.size ≤ gb580)); clear HO_3; clear HO574; clear HO577; clear HB; have HO_3 := n0_; have HO574 := n1_; have HO577 := n2_; have HB := n3_; have BK580 := n4_; have GW580 := n5_; have GE580 := n6_; clear n0_ n1_ n2_ n3_ n4_ n5_ n6_; clear hb hbox hg; have hcz34_0 : w33.cell? ⟨gb580, 0, none⟩ = some (.bool false) := (blk_cell BK580.out 0).trans rfl; have hcz34_1 : w33.cell? ⟨gb580, 1, none⟩ = some (.slice none 0 0) := (blk_cell BK580.out 1).trans rfl; have hcz34_2 : w33.cell? ⟨gb580, 2, none⟩ = some (.slice none 0 0) := (blk_cell BK580.out 2).trans rfl; have hfz34_0 := blk_frozen BK580.out 0; have hfz34_1 := blk_frozen BK580.out 1; have hfz34_2 := blk_frozen BK580.out 2; obtain ⟨Ao35, co35, eo35⟩ := Kd.R_slice HO574.out; subst eo35; obtain ⟨Ao36, co36, eo36⟩ := Kd.R_slice HO577.out; subst eo36))
                      have n0_ : Aside0 (Kd.Q (Kd.int .u8) 5 (((w33.setCell ⟨gb580, 0, none⟩ (.bool t571)).setCell ⟨gb580, 1, none⟩ (.slice Ao35 t572.length co35)).setCell ⟨gb580, 2, none⟩ (.slice Ao36 t575.length co36)) w.heap.size (fun k_ => some k_ ≠ (.slice Ao35 t572.length co35 : Value).ownBlock) (.slice Ao31 x3_2.length co31) x3_2) := ⟨by (with_reducible repeat (first | apply Kd.Q_alloc | apply Kd.Q_drewN | apply Kd.Q_drew)); exact Kd.Q_mono (Kd.Q_far (p := ⟨gb580, 2, none⟩) (Kd.Q_far (p := ⟨gb580, 1, none⟩) (Kd.Q_far (p := ⟨gb580, 0, none⟩) (Kd.Q_types HO_3.out BK580.out (by decide)) (fun _ hk => hk.2) (.bool t571)) (fun _ hk => hk.2) (.slice Ao35 t572.length co35)) (fun _ hk => hk.2) (.slice Ao36 t575.length co36)) (fun _ hk => hk.1.2)⟩
                      have n1_ : Aside0 (Kd.R (Kd.int .u8) 5 (((w33.setCell ⟨gb580, 0, none⟩ (.bool t571)).setCell ⟨gb580, 1, none⟩ (.slice Ao35 t572.length co35)).setCell ⟨gb580, 2, none⟩ (.slice Ao36 t575.length co36)) w.heap.size (fun k_ => some k_ ≠ (.slice Ao31 x3_2.length co31 : Value).ownBlock) (.slice Ao35 t572.length co35) t572) := ⟨by (with_reducible repeat (first | apply Kd.R_alloc | apply Kd.R_drewN | apply Kd.R_drew)); exact Kd.R_mono (Kd.R_far (p := ⟨gb580, 2, none⟩) (Kd.R_far (p := ⟨gb580, 1, none⟩) (Kd.R_far (p := ⟨gb580, 0, none⟩) (Kd.R_types HO574.out BK580.out (by decide)) (fun _ hk => hk.2) (.bool t571)) (fun _ hk => hk.2) (.slice Ao35 t572.length co35)) (fun _ hk => hk.2) (.slice Ao36 t575.length co36)) (fun _ hk => hk.1.2)⟩
                      have n2_ : Aside0 (Kd.R k25 25 (((w33.setCell ⟨gb580, 0, none⟩ (.bool t571)).setCell ⟨gb580, 1, none⟩ (.slice Ao35 t572.length co35)).setCell ⟨gb580, 2, none⟩ (.slice Ao36 t575.length co36)) w.heap.size (fun k_ => some k_ ≠ (.slice Ao31 x3_2.length co31 : Value).ownBlock ∧ some k_ ≠ (.slice Ao35 t572.length co35 : Value).ownBlock ∧ k_ ≠ gb580) (.slice Ao36 t575.length co36) t575) := ⟨by (with_reducible repeat (first | apply Kd.R_alloc | apply Kd.R_drewN | apply Kd.R_drew)); exact Kd.R_mono (Kd.R_far (p := ⟨gb580, 2, none⟩) (Kd.R_far (p := ⟨gb580, 1, none⟩) (Kd.R_far (p := ⟨gb580, 0, none⟩) (Kd.R_mono HO577.out (fun k_ hk => (⟨hk, hk.2⟩ : _ ∧ k_ ≠ gb580))) (fun _ hk => hk.2) (.bool t571)) (fun _ hk => hk.2) (.slice Ao35 t572.length co35)) (fun _ hk => hk.2) (.slice Ao36 t575.length co36)) (fun _ hk => ⟨hk.1.1.2, ⟨hk.1.1.1, hk.1.2⟩⟩)⟩
                      have n3_ : Aside0 ((((w33.setCell ⟨gb580, 0, none⟩ (.bool t571)).setCell ⟨gb580, 1, none⟩ (.slice Ao35 t572.length co35)).setCell ⟨gb580, 2, none⟩ (.slice Ao36 t575.length co36)).heap[gb580]? = some (.cells #[.bool t571, .slice Ao35 t572.length co35, .slice Ao36 t575.length co36] 25 (0, 0))) := ⟨by (with_reducible repeat (first | refine blk_drewN ?_ _ | refine blk_drew ?_ | refine blk_alloc ?_ _)); refine blk_put (cs := #[.bool t571, .slice Ao35 t572.length co35, .slice none 0 0]) ?_ 2 _ rfl; (with_reducible repeat (first | refine blk_drewN ?_ _ | refine blk_drew ?_ | refine blk_alloc ?_ _)); refine blk_put (cs := #[.bool t571, .slice none 0 0, .slice none 0 0]) ?_ 1 _ rfl; (with_reducible repeat (first | refine blk_drewN ?_ _ | refine blk_drew ?_ | refine blk_alloc ?_ _)); refine blk_put (cs := #[.bool false, .slice none 0 0, .slice none 0 0]) ?_ 0 _ rfl; (with_reducible repeat (first | refine blk_drewN ?_ _ | refine blk_drew ?_ | refine blk_alloc ?_ _)); exact BK580.out⟩
                      have n4_ : Aside0 (Below w.heap.size w (((w33.setCell ⟨gb580, 0, none⟩ (.bool t571)).setCell ⟨gb580, 1, none⟩ (.slice Ao35 t572.length co35)).setCell ⟨gb580, 2, none⟩ (.slice Ao36 t575.length co36))) := ⟨by repeat (first | (with_reducible first | exact HB.out | apply below_alloc | apply pw_below_drewN | apply below_drew1 | refine below_set ?_ GE580.out) | exact HB.out)⟩
                      (try clear HO_3)
                      (try clear HO574)
                      (try clear HO577)
                      (try clear BK580)
                      (try clear HB)
                      generalize (((w33.setCell ⟨gb580, 0, none⟩ (.bool t571)).setCell ⟨gb580, 1, none⟩ (.slice Ao35 t572.length co35)).setCell ⟨gb580, 2, none⟩ (.slice Ao36 t575.length co36)) = w37 at n0_ n1_ n2_ n3_ n4_ ⊢
                      have HO_3 := n0_
                      have HO574 := n1_
                      have HO577 := n2_
                      have BK580 := n3_
                      have HB := n4_
                      clear n0_ n1_ n2_ n3_ n4_
                      have n0_ := Aside0.mk (Kd.Q_drew HO_3.out)
                      have n1_ := Aside0.mk (Kd.R_drew HO574.out)
                      have n2_ := Aside0.mk (Kd.R_drew HO577.out)
                      have n3_ := Aside0.mk (blk_drew BK580.out)
                      have n4_ := Aside0.mk (below_drew1 HB.out)
                      clear HO_3
                      clear HO574
                      clear HO577
                      clear BK580
                      clear HB
                      have HO_3 := n0_
                      have HO574 := n1_
                      have HO577 := n2_
                      have BK580 := n3_
                      have HB := n4_
                      clear n0_ n1_ n2_ n3_ n4_
                      refine start_ (n := 21) (S := fun w' => True) (ds := []) #[false, false, false, false, false, false, false, false, false, false, false, false, false, false, false, false, false, false, false, false, false] (by kernel_rfl) rfl rfl trivial (fun hHeld => ?_); refine with_tabW morainelaw4_RlpStream.tab19 morainelaw4_RlpStream.bits19 (fun HT_ HW_ => ?_)
                      generalize w37.drew = w38 at HO_3 HO574 HO577 BK580 HB hHeld ⊢
                      refine pure_ (i := 0) (N := some 64) (v := ?_) (a' := ?_) #[true, false, false, false, false, false, false, false, false, false, false, false, false, false, false, false, false, false, false, false, false] rfl rfl (any_of HT_.out (by kernel_rfl)) (fun _ _ _ h => h) (Or.inl ⟨by rfl, ?_⟩) ?_ ?_
                      rotate_left
                      · intro w'
                        go_simp
                        with_reducible rfl
                      rotate_left
                      · simp only [Act.put, List.setIfInBounds_toArray, List.set_cons_zero, List.set_cons_succ, i64_w, i32_w]
                        rfl
                      refine pure_ (i := 1) (N := some 65) (v := ?_) (a' := ?_) #[true, true, false, false, false, false, false, false, false, false, false, false, false, false, false, false, false, false, false, false, false] rfl rfl (any_of HT_.out (by kernel_rfl)) (fun _ _ _ h => h) (Or.inl ⟨by rfl, ?_⟩) ?_ ?_
                      rotate_left
                      · intro w'
                        go_simp
                        with_reducible rfl
                      rotate_left
                      · simp only [Act.put, List.setIfInBounds_toArray, List.set_cons_zero, List.set_cons_succ, i64_w, i32_w]
                        rfl
                      refine pure_ (i := 2) (N := some 66) (v := ?_) (a' := ?_) #[true, true, true, false, false, false, false, false, false, false, false, false, false, false, false, false, false, false, false, false, false] rfl rfl (any_of HT_.out (by kernel_rfl)) (fun _ _ _ h => h) (Or.inl ⟨by rfl, ?_⟩) ?_ ?_
                      rotate_left
                      · intro w'
                        go_simp
                        with_reducible rfl
                      rotate_left
                      · simp only [Act.put, List.setIfInBounds_toArray, List.set_cons_zero, List.set_cons_succ, i64_w, i32_w]
                        rfl
                      refine pure_ (i := 3) (N := some 67) (v := ?_) (a' := ?_) #[true, true, true, true, false, false, false, false, false, false, false, false, false, false, false, false, false, false, false, false, false] rfl rfl (any_of HT_.out (by kernel_rfl)) (fun _ _ _ h => h) (Or.inl ⟨by rfl, ?_⟩) ?_ ?_
                      rotate_left
                      · intro w'
                        go_simp
                        with_reducible rfl
                      rotate_left
                      · simp only [Act.put, List.setIfInBounds_toArray, List.set_cons_zero, List.set_cons_succ, i64_w, i32_w]
                        rfl
                      refine pure_ (i := 4) (N := some 68) (v := ?_) (a' := ?_) #[true, true, true, true, true, false, false, false, false, false, false, false, false, false, false, false, false, false, false, false, false] rfl rfl (any_of HT_.out (by kernel_rfl)) (fun _ _ _ h => h) (Or.inl ⟨by rfl, ?_⟩) ?_ ?_
                      rotate_left
                      · intro w'
                        go_simp
                        with_reducible rfl
                      rotate_left
                      · simp only [Act.put, List.setIfInBounds_toArray, List.set_cons_zero, List.set_cons_succ, i64_w, i32_w]
                        rfl
                      refine pure_ (i := 5) (N := some 69) (v := ?_) (a' := ?_) #[true, true, true, true, true, true, false, false, false, false, false, false, false, false, false, false, false, false, false, false, false] rfl rfl (any_of HT_.out (by kernel_rfl)) (fun _ _ _ h => h) (Or.inl ⟨by rfl, ?_⟩) ?_ ?_
                      rotate_left
                      · intro w'
                        go_simp
                        with_reducible rfl
                      rotate_left
                      · simp only [Act.put, List.setIfInBounds_toArray, List.set_cons_zero, List.set_cons_succ, i64_w, i32_w]
                        rfl
                      refine pure_ (i := 6) (N := some 70) (v := ?_) (a' := ?_) #[true, true, true, true, true, true, true, false, false, false, false, false, false, false, false, false, false, false, false, false, false] rfl rfl (any_of HT_.out (by kernel_rfl)) (fun _ _ _ h => h) (Or.inl ⟨by rfl, ?_⟩) ?_ ?_
                      rotate_left
                      · intro w'
                        go_simp
                        with_reducible rfl
                      rotate_left
                      · simp only [Act.put, List.setIfInBounds_toArray, List.set_cons_zero, List.set_cons_succ, i64_w, i32_w]
                        rfl
                      refine pure_ (i := 7) (N := some 71) (v := undef) (a' := ?_) #[true, true, true, true, true, true, true, true, false, false, false, false, false, false, false, false, false, false, false, false, false] rfl rfl (any_of HT_.out (by kernel_rfl)) (fun _ _ _ h => h) (Or.inr ⟨by rfl, rfl⟩) ?_ ?_
                      rotate_left
                      · simp only [Act.put, List.setIfInBounds_toArray, List.set_cons_zero, List.set_cons_succ, i64_w, i32_w]
                        rfl
                      refine pure_ (i := 8) (N := some 72) (v := undef) (a' := ?_) #[true, true, true, true, true, true, true, true, true, false, false, false, false, false, false, false, false, false, false, false, false] rfl rfl (any_of HT_.out (by kernel_rfl)) (fun _ _ _ h => h) (Or.inr ⟨by rfl, rfl⟩) ?_ ?_
                      rotate_left
                      · simp only [Act.put, List.setIfInBounds_toArray, List.set_cons_zero, List.set_cons_succ, i64_w, i32_w]
                        rfl
                      refine pure_ (i := 9) (N := some 73) (v := undef) (a' := ?_) #[true, true, true, true, true, true, true, true, true, true, false, false, false, false, false, false, false, false, false, false, false] rfl rfl (any_of HT_.out (by kernel_rfl)) (fun _ _ _ h => h) (Or.inr ⟨by rfl, rfl⟩) ?_ ?_
                      rotate_left
                      · simp only [Act.put, List.setIfInBounds_toArray, List.set_cons_zero, List.set_cons_succ, i64_w, i32_w]
                        rfl
                      refine pure_ (i := 10) (N := some 74) (v := undef) (a' := ?_) #[true, true, true, true, true, true, true, true, true, true, true, false, false, false, false, false, false, false, false, false, false] rfl rfl (any_of HT_.out (by kernel_rfl)) (fun _ _ _ h => h) (Or.inr ⟨by rfl, rfl⟩) ?_ ?_
                      rotate_left
                      · simp only [Act.put, List.setIfInBounds_toArray, List.set_cons_zero, List.set_cons_succ, i64_w, i32_w]
                        rfl
                      refine pure_ (i := 11) (N := some 75) (v := ?_) (a' := ?_) #[true, true, true, true, true, true, true, true, true, true, true, true, false, false, false, false, false, false, false, false, false] rfl rfl (any_of HT_.out (by kernel_rfl)) (fun _ _ _ h => h) (Or.inl ⟨by rfl, ?_⟩) ?_ ?_
                      rotate_left
                      · intro w'
                        go_simp
                        with_reducible rfl
                      rotate_left
                      · simp only [Act.put, List.setIfInBounds_toArray, List.set_cons_zero, List.set_cons_succ, i64_w, i32_w]
                        rfl
                      refine pure_ (i := 12) (N := some 76) (v := ?_) (a' := ?_) #[true, true, true, true, true, true, true, true, true, true, true, true, true, false, false, false, false, false, false, false, false] rfl rfl (any_of HT_.out (by kernel_rfl)) (fun _ _ _ h => h) (Or.inl ⟨by rfl, ?_⟩) ?_ ?_
                      rotate_left
                      · intro w'
                        go_simp
                        with_reducible rfl
                      rotate_left
                      · simp only [Act.put, List.setIfInBounds_toArray, List.set_cons_zero, List.set_cons_succ, i64_w, i32_w]
                        rfl
                      refine pure_ (i := 13) (N := some 77) (v := undef) (a' := ?_) #[true, true, true, true, true, true, true, true, true, true, true, true, true, true, false, false, false, false, false, false, false] rfl rfl (any_of HT_.out (by kernel_rfl)) (fun _ _ _ h => h) (Or.inr ⟨by rfl, rfl⟩) ?_ ?_
                      rotate_left
                      · simp only [Act.put, List.setIfInBounds_toArray, List.set_cons_zero, List.set_cons_succ, i64_w, i32_w]
                        rfl
                      refine pure_ (i := 14) (N := some 78) (v := undef) (a' := ?_) #[true, true, true, true, true, true, true, true, true, true, true, true, true, true, true, false, false, false, false, false, false] rfl rfl (any_of HT_.out (by kernel_rfl)) (fun _ _ _ h => h) (Or.inr ⟨by rfl, rfl⟩) ?_ ?_
                      rotate_left
                      · simp only [Act.put, List.setIfInBounds_toArray, List.set_cons_zero, List.set_cons_succ, i64_w, i32_w]
                        rfl
                      refine pure_ (i := 15) (N := some 79) (v := undef) (a' := ?_) #[true, true, true, true, true, true, true, true, true, true, true, true, true, true, true, true, false, false, false, false, false] rfl rfl (any_of HT_.out (by kernel_rfl)) (fun _ _ _ h => h) (Or.inr ⟨by rfl, rfl⟩) ?_ ?_
                      rotate_left
                      · simp only [Act.put, List.setIfInBounds_toArray, List.set_cons_zero, List.set_cons_succ, i64_w, i32_w]
                        rfl
                      refine pure_ (i := 16) (N := some 80) (v := undef) (a' := ?_) #[true, true, true, true, true, true, true, true, true, true, true, true, true, true, true, true, true, false, false, false, false] rfl rfl (any_of HT_.out (by kernel_rfl)) (fun _ _ _ h => h) (Or.inr ⟨by rfl, rfl⟩) ?_ ?_
                      rotate_left
                      · simp only [Act.put, List.setIfInBounds_toArray, List.set_cons_zero, List.set_cons_succ, i64_w, i32_w]
                        rfl
                      refine pure_ (i := 17) (N := some 81) (v := undef) (a' := ?_) #[true, true, true, true, true, true, true, true, true, true, true, true, true, true, true, true, true, true, false, false, false] rfl rfl (any_of HT_.out (by kernel_rfl)) (fun _ _ _ h => h) (Or.inr ⟨by rfl, rfl⟩) ?_ ?_
                      rotate_left
                      · simp only [Act.put, List.setIfInBounds_toArray, List.set_cons_zero, List.set_cons_succ, i64_w, i32_w]
                        rfl
                      refine pure_ (i := 18) (N := some 82) (v := undef) (a' := ?_) #[true, true, true, true, true, true, true, true, true, true, true, true, true, true, true, true, true, true, true, false, false] rfl rfl (any_of HT_.out (by kernel_rfl)) (fun _ _ _ h => h) (Or.inr ⟨by rfl, rfl⟩) ?_ ?_
                      rotate_left
                      · simp only [Act.put, List.setIfInBounds_toArray, List.set_cons_zero, List.set_cons_succ, i64_w, i32_w]
                        rfl
                      refine pure_ (i := 19) (N := some 83) (v := undef) (a' := ?_) #[true, true, true, true, true, true, true, true, true, true, true, true, true, true, true, true, true, true, true, true, false] rfl rfl (any_of HT_.out (by kernel_rfl)) (fun _ _ _ h => h) (Or.inr ⟨by rfl, rfl⟩) ?_ ?_
                      rotate_left
                      · simp only [Act.put, List.setIfInBounds_toArray, List.set_cons_zero, List.set_cons_succ, i64_w, i32_w]
                        rfl
                      refine pure_ (i := 20) (N := some 84) (v := ?_) (a' := ?_) #[true, true, true, true, true, true, true, true, true, true, true, true, true, true, true, true, true, true, true, true, true] rfl rfl (any_of HT_.out (by kernel_rfl)) (fun _ _ _ h => h) (Or.inl ⟨by rfl, ?_⟩) ?_ ?_
                      rotate_left
                      · intro w'
                        go_simp
                        with_reducible rfl
                      rotate_left
                      · simp only [Act.put, List.setIfInBounds_toArray, List.set_cons_zero, List.set_cons_succ, i64_w, i32_w]
                        rfl
                      refine done_ (done_of HT_.out (by kernel_rfl)) ?_
                      try go_wp2
                      go_ret
                      exact ⟨by first | rfl | (simp [errW_none, errW_some] <;> rfl) | (simp [*, errW_none, errW_some] <;> rfl), by repeat (first | (with_reducible first | exact HB.out | apply below_alloc | apply pw_below_drewN | apply below_drew1 | refine below_set ?_ GE580.out) | exact HB.out)⟩
                    · rw [if_neg c30] at H
                      have c30b0 : decide (t578 < 1) = false := decide_eq_false c30
                      clear c30
                      by_cases c39 : t578 > (x3_2.length : Int)
                      · rw [if_pos c39] at H
                        have c39b0 : decide ((x3_2.length : Int) < t578) = true := decide_eq_true c39
                        clear c39
                        obtain rfl := Option.some.inj H
                        obtain ⟨Ao40, co40, eo40, _⟩ := Kd.Q_slice HO_3.out
                        subst eo40
                        try go_wp2_with (first | ((with_reducible refine gate_callee (f := 17) rfl ?_); refine goesL_ (some 60) rfl rfl Try.func17 (by kernel_rfl) rfl #[.slice Ao40 x3_2.length co40] rfl zw6 ?_; (with_reducible refine (rlp_First.calls k2 _ _ x3_2 t571 t572 t575 t578 t579 _ ?side1 ?side2 A28.out).mono ?_); (case side1 => exact zw32 HO_3.out); (case side2 => exact (Kd.Q_reads' HO_3.out).2.1); rintro e w41 ⟨v573, v576, rfl, ho0, ho1, hb⟩; refine ⟨_, rfl, ?_⟩; have n0_ := Aside0.mk (Kd.Q_elder' (zw16 HO_3.out) (Kd.R_base ho0) hb); have n1_ := Aside0.mk (Kd.R_lower (Kd.R_new' ho0 (Kd.Q_lt (zw16 HO_3.out))) (below_size (zw2 HB.out))); have n2_ := Aside0.mk (Kd.R_lower (Kd.R_new' ho1 (Kd.Q_lt (zw16 HO_3.out))) (below_size (zw2 HB.out))); have n3_ := Aside0.mk (below_step (zw2 HB.out) hb); clear HO_3; clear HB; have HO_3 := n0_; have HO574 := n1_; have HO577 := n2_; have HB := n3_; clear n0_ n1_ n2_ n3_; (try clear hb); (try clear hb2); (try clear hk); (try clear hi); (try clear ho0); (try clear ho1)) | ((with_reducible refine gate_dst (N := 8) rfl ?_); (try (refine gate_guard (by rfl) ?_; dsimp only)); refine box_event ?hg (N := 8) ?hd (cs := #[.bool false, .slice none 0 0, .slice none 0 0]) (t := 25) ?hr ?_; (case hd => rfl); (case hg => rfl); (case hr => first | (go_simp; done) | (go_simp; rfl)); intro gb580 hg w42 hbox hb; have n0_ := Aside0.mk (Kd.Q_below (zw16 HO_3.out) hb); have n1_ := Aside0.mk (Kd.R_below (zw1 HO574.out) hb); have n2_ := Aside0.mk (Kd.R_below (Kd.R_elderB (zw1 HO577.out) gb580 (Nat.le_of_eq hg.symm)) hb); have n3_ := Aside0.mk (below_step (zw2 HB.out) hb); have n4_ := Aside0.mk (hbox); have n5_ := Aside0.mk ((by rw [hg]; exact (below_size (zw2 HB.out)) : w.heap.size ≤ gb580)); have n6_ := Aside0.mk ((by rw [hg]; exact (below_size (zw2 HB.out)) : w.heap.size ≤ gb580)); clear HO_3; clear HO574; clear HO577; clear HB; have HO_3 := n0_; have HO574 := n1_; have HO577 := n2_; have HB := n3_; have BK580 := n4_; have GW580 := n5_; have GE580 := n6_; clear n0_ n1_ n2_ n3_ n4_ n5_ n6_; clear hb hbox hg; have hcz43_0 : w42.cell? ⟨gb580, 0, none⟩ = some (.bool false) := (blk_cell BK580.out 0).trans rfl; have hcz43_1 : w42.cell? ⟨gb580, 1, none⟩ = some (.slice none 0 0) := (blk_cell BK580.out 1).trans rfl; have hcz43_2 : w42.cell? ⟨gb580, 2, none⟩ = some (.slice none 0 0) := (blk_cell BK580.out 2).trans rfl; have hfz43_0 := blk_frozen BK580.out 0; have hfz43_1 := blk_frozen BK580.out 1; have hfz43_2 := blk_frozen BK580.out 2; obtain ⟨Ao44, co44, eo44⟩ := Kd.R_slice HO574.out; subst eo44; obtain ⟨Ao45, co45, eo45⟩ := Kd.R_slice HO577.out; subst eo45))
                        have n0_ : Aside0 (Kd.Q (Kd.int .u8) 5 (((w42.setCell ⟨gb580, 0, none⟩ (.bool t571)).setCell ⟨gb580, 1, none⟩ (.slice Ao44 t572.length co44)).setCell ⟨gb580, 2, none⟩ (.slice Ao45 t575.length co45)) w.heap.size (fun k_ => some k_ ≠ (.slice Ao44 t572.length co44 : Value).ownBlock) (.slice Ao40 x3_2.length co40) x3_2) := ⟨by (with_reducible repeat (first | apply Kd.Q_alloc | apply Kd.Q_drewN | apply Kd.Q_drew)); exact Kd.Q_mono (Kd.Q_far (p := ⟨gb580, 2, none⟩) (Kd.Q_far (p := ⟨gb580, 1, none⟩) (Kd.Q_far (p := ⟨gb580, 0, none⟩) (Kd.Q_types HO_3.out BK580.out (by decide)) (fun _ hk => hk.2) (.bool t571)) (fun _ hk => hk.2) (.slice Ao44 t572.length co44)) (fun _ hk => hk.2) (.slice Ao45 t575.length co45)) (fun _ hk => hk.1.2)⟩
                        have n1_ : Aside0 (Kd.R (Kd.int .u8) 5 (((w42.setCell ⟨gb580, 0, none⟩ (.bool t571)).setCell ⟨gb580, 1, none⟩ (.slice Ao44 t572.length co44)).setCell ⟨gb580, 2, none⟩ (.slice Ao45 t575.length co45)) w.heap.size (fun k_ => some k_ ≠ (.slice Ao40 x3_2.length co40 : Value).ownBlock) (.slice Ao44 t572.length co44) t572) := ⟨by (with_reducible repeat (first | apply Kd.R_alloc | apply Kd.R_drewN | apply Kd.R_drew)); exact Kd.R_mono (Kd.R_far (p := ⟨gb580, 2, none⟩) (Kd.R_far (p := ⟨gb580, 1, none⟩) (Kd.R_far (p := ⟨gb580, 0, none⟩) (Kd.R_types HO574.out BK580.out (by decide)) (fun _ hk => hk.2) (.bool t571)) (fun _ hk => hk.2) (.slice Ao44 t572.length co44)) (fun _ hk => hk.2) (.slice Ao45 t575.length co45)) (fun _ hk => hk.1.2)⟩
                        have n2_ : Aside0 (Kd.R k25 25 (((w42.setCell ⟨gb580, 0, none⟩ (.bool t571)).setCell ⟨gb580, 1, none⟩ (.slice Ao44 t572.length co44)).setCell ⟨gb580, 2, none⟩ (.slice Ao45 t575.length co45)) w.heap.size (fun k_ => some k_ ≠ (.slice Ao40 x3_2.length co40 : Value).ownBlock ∧ some k_ ≠ (.slice Ao44 t572.length co44 : Value).ownBlock ∧ k_ ≠ gb580) (.slice Ao45 t575.length co45) t575) := ⟨by (with_reducible repeat (first | apply Kd.R_alloc | apply Kd.R_drewN | apply Kd.R_drew)); exact Kd.R_mono (Kd.R_far (p := ⟨gb580, 2, none⟩) (Kd.R_far (p := ⟨gb580, 1, none⟩) (Kd.R_far (p := ⟨gb580, 0, none⟩) (Kd.R_mono HO577.out (fun k_ hk => (⟨hk, hk.2⟩ : _ ∧ k_ ≠ gb580))) (fun _ hk => hk.2) (.bool t571)) (fun _ hk => hk.2) (.slice Ao44 t572.length co44)) (fun _ hk => hk.2) (.slice Ao45 t575.length co45)) (fun _ hk => ⟨hk.1.1.2, ⟨hk.1.1.1, hk.1.2⟩⟩)⟩
                        have n3_ : Aside0 ((((w42.setCell ⟨gb580, 0, none⟩ (.bool t571)).setCell ⟨gb580, 1, none⟩ (.slice Ao44 t572.length co44)).setCell ⟨gb580, 2, none⟩ (.slice Ao45 t575.length co45)).heap[gb580]? = some (.cells #[.bool t571, .slice Ao44 t572.length co44, .slice Ao45 t575.length co45] 25 (0, 0))) := ⟨by (with_reducible repeat (first | refine blk_drewN ?_ _ | refine blk_drew ?_ | refine blk_alloc ?_ _)); refine blk_put (cs := #[.bool t571, .slice Ao44 t572.length co44, .slice none 0 0]) ?_ 2 _ rfl; (with_reducible repeat (first | refine blk_drewN ?_ _ | refine blk_drew ?_ | refine blk_alloc ?_ _)); refine blk_put (cs := #[.bool t571, .slice none 0 0, .slice none 0 0]) ?_ 1 _ rfl; (with_reducible repeat (first | refine blk_drewN ?_ _ | refine blk_drew ?_ | refine blk_alloc ?_ _)); refine blk_put (cs := #[.bool false, .slice none 0 0, .slice none 0 0]) ?_ 0 _ rfl; (with_reducible repeat (first | refine blk_drewN ?_ _ | refine blk_drew ?_ | refine blk_alloc ?_ _)); exact BK580.out⟩
                        have n4_ : Aside0 (Below w.heap.size w (((w42.setCell ⟨gb580, 0, none⟩ (.bool t571)).setCell ⟨gb580, 1, none⟩ (.slice Ao44 t572.length co44)).setCell ⟨gb580, 2, none⟩ (.slice Ao45 t575.length co45))) := ⟨by repeat (first | (with_reducible first | exact HB.out | apply below_alloc | apply pw_below_drewN | apply below_drew1 | refine below_set ?_ GE580.out) | exact HB.out)⟩
                        (try clear HO_3)
                        (try clear HO574)
                        (try clear HO577)
                        (try clear BK580)
                        (try clear HB)
                        generalize (((w42.setCell ⟨gb580, 0, none⟩ (.bool t571)).setCell ⟨gb580, 1, none⟩ (.slice Ao44 t572.length co44)).setCell ⟨gb580, 2, none⟩ (.slice Ao45 t575.length co45)) = w46 at n0_ n1_ n2_ n3_ n4_ ⊢
                        have HO_3 := n0_
                        have HO574 := n1_
                        have HO577 := n2_
                        have BK580 := n3_
                        have HB := n4_
                        clear n0_ n1_ n2_ n3_ n4_
                        have n0_ := Aside0.mk (Kd.Q_drew HO_3.out)
                        have n1_ := Aside0.mk (Kd.R_drew HO574.out)
                        have n2_ := Aside0.mk (Kd.R_drew HO577.out)
                        have n3_ := Aside0.mk (blk_drew BK580.out)
                        have n4_ := Aside0.mk (below_drew1 HB.out)
                        clear HO_3
                        clear HO574
                        clear HO577
                        clear BK580
                        clear HB
                        have HO_3 := n0_
                        have HO574 := n1_
                        have HO577 := n2_
                        have BK580 := n3_
                        have HB := n4_
                        clear n0_ n1_ n2_ n3_ n4_
                        refine start_ (n := 21) (S := fun w' => True) (ds := []) #[false, false, false, false, false, false, false, false, false, false, false, false, false, false, false, false, false, false, false, false, false] (by kernel_rfl) rfl rfl trivial (fun hHeld => ?_); refine with_tabW morainelaw4_RlpStream.tab19 morainelaw4_RlpStream.bits19 (fun HT_ HW_ => ?_)
                        generalize w46.drew = w47 at HO_3 HO574 HO577 BK580 HB hHeld ⊢
                        refine pure_ (i := 0) (N := some 64) (v := ?_) (a' := ?_) #[true, false, false, false, false, false, false, false, false, false, false, false, false, false, false, false, false, false, false, false, false] rfl rfl (any_of HT_.out (by kernel_rfl)) (fun _ _ _ h => h) (Or.inl ⟨by rfl, ?_⟩) ?_ ?_
                        rotate_left
                        · intro w'
                          go_simp
                          with_reducible rfl
                        rotate_left
                        · simp only [Act.put, List.setIfInBounds_toArray, List.set_cons_zero, List.set_cons_succ, i64_w, i32_w]
                          rfl
                        refine pure_ (i := 1) (N := some 65) (v := ?_) (a' := ?_) #[true, true, false, false, false, false, false, false, false, false, false, false, false, false, false, false, false, false, false, false, false] rfl rfl (any_of HT_.out (by kernel_rfl)) (fun _ _ _ h => h) (Or.inl ⟨by rfl, ?_⟩) ?_ ?_
                        rotate_left
                        · intro w'
                          go_simp
                          with_reducible rfl
                        rotate_left
                        · simp only [Act.put, List.setIfInBounds_toArray, List.set_cons_zero, List.set_cons_succ, i64_w, i32_w]
                          rfl
                        refine pure_ (i := 2) (N := some 66) (v := ?_) (a' := ?_) #[true, true, true, false, false, false, false, false, false, false, false, false, false, false, false, false, false, false, false, false, false] rfl rfl (any_of HT_.out (by kernel_rfl)) (fun _ _ _ h => h) (Or.inl ⟨by rfl, ?_⟩) ?_ ?_
                        rotate_left
                        · intro w'
                          go_simp
                          with_reducible rfl
                        rotate_left
                        · simp only [Act.put, List.setIfInBounds_toArray, List.set_cons_zero, List.set_cons_succ, i64_w, i32_w]
                          rfl
                        refine pure_ (i := 3) (N := some 67) (v := ?_) (a' := ?_) #[true, true, true, true, false, false, false, false, false, false, false, false, false, false, false, false, false, false, false, false, false] rfl rfl (any_of HT_.out (by kernel_rfl)) (fun _ _ _ h => h) (Or.inl ⟨by rfl, ?_⟩) ?_ ?_
                        rotate_left
                        · intro w'
                          go_simp
                          with_reducible rfl
                        rotate_left
                        · simp only [Act.put, List.setIfInBounds_toArray, List.set_cons_zero, List.set_cons_succ, i64_w, i32_w]
                          rfl
                        refine pure_ (i := 4) (N := some 68) (v := ?_) (a' := ?_) #[true, true, true, true, true, false, false, false, false, false, false, false, false, false, false, false, false, false, false, false, false] rfl rfl (any_of HT_.out (by kernel_rfl)) (fun _ _ _ h => h) (Or.inl ⟨by rfl, ?_⟩) ?_ ?_
                        rotate_left
                        · intro w'
                          go_simp
                          with_reducible rfl
                        rotate_left
                        · simp only [Act.put, List.setIfInBounds_toArray, List.set_cons_zero, List.set_cons_succ, i64_w, i32_w]
                          rfl
                        refine pure_ (i := 5) (N := some 69) (v := ?_) (a' := ?_) #[true, true, true, true, true, true, false, false, false, false, false, false, false, false, false, false, false, false, false, false, false] rfl rfl (any_of HT_.out (by kernel_rfl)) (fun _ _ _ h => h) (Or.inl ⟨by rfl, ?_⟩) ?_ ?_
                        rotate_left
                        · intro w'
                          go_simp
                          with_reducible rfl
                        rotate_left
                        · simp only [Act.put, List.setIfInBounds_toArray, List.set_cons_zero, List.set_cons_succ, i64_w, i32_w]
                          rfl
                        refine pure_ (i := 6) (N := some 70) (v := ?_) (a' := ?_) #[true, true, true, true, true, true, true, false, false, false, false, false, false, false, false, false, false, false, false, false, false] rfl rfl (any_of HT_.out (by kernel_rfl)) (fun _ _ _ h => h) (Or.inl ⟨by rfl, ?_⟩) ?_ ?_
                        rotate_left
                        · intro w'
                          go_simp
                          with_reducible rfl
                        rotate_left
                        · simp only [Act.put, List.setIfInBounds_toArray, List.set_cons_zero, List.set_cons_succ, i64_w, i32_w]
                          rfl
                        refine pure_ (i := 7) (N := some 71) (v := ?_) (a' := ?_) #[true, true, true, true, true, true, true, true, false, false, false, false, false, false, false, false, false, false, false, false, false] rfl rfl (any_of HT_.out (by kernel_rfl)) (fun _ _ _ h => h) (Or.inl ⟨by rfl, ?_⟩) ?_ ?_
                        rotate_left
                        · intro w'
                          go_simp
                          with_reducible rfl
                        rotate_left
                        · simp only [Act.put, List.setIfInBounds_toArray, List.set_cons_zero, List.set_cons_succ, i64_w, i32_w]
                          rfl
                        refine pure_ (i := 8) (N := some 72) (v := ?_) (a' := ?_) #[true, true, true, true, true, true, true, true, true, false, false, false, false, false, false, false, false, false, false, false, false] rfl rfl (any_of HT_.out (by kernel_rfl)) (fun _ _ _ h => h) (Or.inl ⟨by rfl, ?_⟩) ?_ ?_
                        rotate_left
                        · intro w'
                          go_simp
                          with_reducible rfl
                        rotate_left
                        · simp only [Act.put, List.setIfInBounds_toArray, List.set_cons_zero, List.set_cons_succ, i64_w, i32_w]
                          rfl
                        refine pure_ (i := 9) (N := some 73) (v := ?_) (a' := ?_) #[true, true, true, true, true, true, true, true, true, true, false, false, false, false, false, false, false, false, false, false, false] rfl rfl (any_of HT_.out (by kernel_rfl)) (fun _ _ _ h => h) (Or.inl ⟨by rfl, ?_⟩) ?_ ?_
                        rotate_left
                        · intro w'
                          go_simp
                          with_reducible rfl
                        rotate_left
                        · simp only [Act.put, List.setIfInBounds_toArray, List.set_cons_zero, List.set_cons_succ, i64_w, i32_w]
                          rfl
                        refine pure_ (i := 10) (N := some 74) (v := ?_) (a' := ?_) #[true, true, true, true, true, true, true, true, true, true, true, false, false, false, false, false, false, false, false, false, false] rfl rfl (any_of HT_.out (by kernel_rfl)) (fun _ _ _ h => h) (Or.inl ⟨by rfl, ?_⟩) ?_ ?_
                        rotate_left
                        · intro w'
                          go_simp
                          with_reducible rfl
                        rotate_left
                        · simp only [Act.put, List.setIfInBounds_toArray, List.set_cons_zero, List.set_cons_succ, i64_w, i32_w]
                          rfl
                        refine pure_ (i := 11) (N := some 75) (v := ?_) (a' := ?_) #[true, true, true, true, true, true, true, true, true, true, true, true, false, false, false, false, false, false, false, false, false] rfl rfl (any_of HT_.out (by kernel_rfl)) (fun _ _ _ h => h) (Or.inl ⟨by rfl, ?_⟩) ?_ ?_
                        rotate_left
                        · intro w'
                          go_simp
                          with_reducible rfl
                        rotate_left
                        · simp only [Act.put, List.setIfInBounds_toArray, List.set_cons_zero, List.set_cons_succ, i64_w, i32_w]
                          rfl
                        refine pure_ (i := 12) (N := some 76) (v := ?_) (a' := ?_) #[true, true, true, true, true, true, true, true, true, true, true, true, true, false, false, false, false, false, false, false, false] rfl rfl (any_of HT_.out (by kernel_rfl)) (fun _ _ _ h => h) (Or.inl ⟨by rfl, ?_⟩) ?_ ?_
                        rotate_left
                        · intro w'
                          go_simp
                          with_reducible rfl
                        rotate_left
                        · simp only [Act.put, List.setIfInBounds_toArray, List.set_cons_zero, List.set_cons_succ, i64_w, i32_w]
                          rfl
                        refine pure_ (i := 13) (N := some 77) (v := undef) (a' := ?_) #[true, true, true, true, true, true, true, true, true, true, true, true, true, true, false, false, false, false, false, false, false] rfl rfl (any_of HT_.out (by kernel_rfl)) (fun _ _ _ h => h) (Or.inr ⟨by rfl, rfl⟩) ?_ ?_
                        rotate_left
                        · simp only [Act.put, List.setIfInBounds_toArray, List.set_cons_zero, List.set_cons_succ, i64_w, i32_w]
                          rfl
                        refine pure_ (i := 14) (N := some 78) (v := undef) (a' := ?_) #[true, true, true, true, true, true, true, true, true, true, true, true, true, true, true, false, false, false, false, false, false] rfl rfl (any_of HT_.out (by kernel_rfl)) (fun _ _ _ h => h) (Or.inr ⟨by rfl, rfl⟩) ?_ ?_
                        rotate_left
                        · simp only [Act.put, List.setIfInBounds_toArray, List.set_cons_zero, List.set_cons_succ, i64_w, i32_w]
                          rfl
                        refine pure_ (i := 15) (N := some 79) (v := undef) (a' := ?_) #[true, true, true, true, true, true, true, true, true, true, true, true, true, true, true, true, false, false, false, false, false] rfl rfl (any_of HT_.out (by kernel_rfl)) (fun _ _ _ h => h) (Or.inr ⟨by rfl, rfl⟩) ?_ ?_
                        rotate_left
                        · simp only [Act.put, List.setIfInBounds_toArray, List.set_cons_zero, List.set_cons_succ, i64_w, i32_w]
                          rfl
                        refine pure_ (i := 16) (N := some 80) (v := undef) (a' := ?_) #[true, true, true, true, true, true, true, true, true, true, true, true, true, true, true, true, true, false, false, false, false] rfl rfl (any_of HT_.out (by kernel_rfl)) (fun _ _ _ h => h) (Or.inr ⟨by rfl, rfl⟩) ?_ ?_
                        rotate_left
                        · simp only [Act.put, List.setIfInBounds_toArray, List.set_cons_zero, List.set_cons_succ, i64_w, i32_w]
                          rfl
                        refine pure_ (i := 17) (N := some 81) (v := undef) (a' := ?_) #[true, true, true, true, true, true, true, true, true, true, true, true, true, true, true, true, true, true, false, false, false] rfl rfl (any_of HT_.out (by kernel_rfl)) (fun _ _ _ h => h) (Or.inr ⟨by rfl, rfl⟩) ?_ ?_
                        rotate_left
                        · simp only [Act.put, List.setIfInBounds_toArray, List.set_cons_zero, List.set_cons_succ, i64_w, i32_w]
                          rfl
                        refine pure_ (i := 18) (N := some 82) (v := undef) (a' := ?_) #[true, true, true, true, true, true, true, true, true, true, true, true, true, true, true, true, true, true, true, false, false] rfl rfl (any_of HT_.out (by kernel_rfl)) (fun _ _ _ h => h) (Or.inr ⟨by rfl, rfl⟩) ?_ ?_
                        rotate_left
                        · simp only [Act.put, List.setIfInBounds_toArray, List.set_cons_zero, List.set_cons_succ, i64_w, i32_w]
                          rfl
                        refine pure_ (i := 19) (N := some 83) (v := undef) (a' := ?_) #[true, true, true, true, true, true, true, true, true, true, true, true, true, true, true, true, true, true, true, true, false] rfl rfl (any_of HT_.out (by kernel_rfl)) (fun _ _ _ h => h) (Or.inr ⟨by rfl, rfl⟩) ?_ ?_
                        rotate_left
                        · simp only [Act.put, List.setIfInBounds_toArray, List.set_cons_zero, List.set_cons_succ, i64_w, i32_w]
                          rfl
                        refine pure_ (i := 20) (N := some 84) (v := ?_) (a' := ?_) #[true, true, true, true, true, true, true, true, true, true, true, true, true, true, true, true, true, true, true, true, true] rfl rfl (any_of HT_.out (by kernel_rfl)) (fun _ _ _ h => h) (Or.inl ⟨by rfl, ?_⟩) ?_ ?_
                        rotate_left
                        · intro w'
                          go_simp
                          with_reducible rfl
                        rotate_left
                        · simp only [Act.put, List.setIfInBounds_toArray, List.set_cons_zero, List.set_cons_succ, i64_w, i32_w]
                          rfl
                        refine done_ (done_of HT_.out (by kernel_rfl)) ?_
                        try go_wp2
                        go_ret
                        exact ⟨by first | rfl | (simp [errW_none, errW_some] <;> rfl) | (simp [*, errW_none, errW_some] <;> rfl), by repeat (first | (with_reducible first | exact HB.out | apply below_alloc | apply pw_below_drewN | apply below_drew1 | refine below_set ?_ GE580.out) | exact HB.out)⟩
                      · rw [if_neg c39] at H
                        have c39b0 : decide ((x3_2.length : Int) < t578) = false := decide_eq_false c39
                        clear c39
                        by_cases c48 : 0 ≤ x7_2
                        · rw [if_pos c48] at H
                          have c48b0 : decide (0 ≤ x7_2) = true := decide_eq_true c48
                          clear c48
                          replace H := Option.bind_eq_some_iff.mp H
                          obtain ⟨t582, A490, H⟩ := H
                          replace H : (if t582 = true then (if 0 ≤ t578 then (if t578 ≤ (x3_2.length : Int) then (morainelaw4_RlpStream.l1 k2 l0 (x3_2.drop (t578 : Int).toNat) (wrap64 (x7_2 + 1))) else (none)) else (none)) else (some false)) = some r := H
                          have A49 := Aside0.mk A490
                          clear A490
                          by_cases c50 : t582 = true
                          · subst c50
                            have H1 : (if 0 ≤ t578 then (if t578 ≤ (x3_2.length : Int) then (morainelaw4_RlpStream.l1 k2 l0 (x3_2.drop (t578 : Int).toNat) (wrap64 (x7_2 + 1))) else (none)) else (none)) = some r := by rw [if_pos rfl] at H; exact H
                            clear H
                            have H := H1
                            clear H1
                            by_cases c51 : 0 ≤ t578
                            · rw [if_pos c51] at H
                              have c51b0 := eq_true c51
                              have c51b1 : decide (0 ≤ t578) = true := decide_eq_true c51
                              clear c51
                              by_cases c52 : t578 ≤ (x3_2.length : Int)
                              · rw [if_pos c52] at H
                                have c52b0 := eq_true c52
                                have c52b1 : decide (t578 ≤ (x3_2.length : Int)) = true := decide_eq_true c52
                                clear c52
                                obtain ⟨y583, hy583⟩ : ∃ y_ : List Int, y_ = (x3_2.drop (t578 : Int).toNat) := ⟨_, rfl⟩
                                replace H : (morainelaw4_RlpStream.l1 k2 l0 y583 (wrap64 (x7_2 + 1))) = some r := by first | (rw [hy583]; with_reducible exact H) | (have H2_ := (Option.bind_some _ _).symm.trans H; rw [hy583]; with_reducible exact H2_) | (have H2_ := (Option.bind_some _ _).symm.trans H; with_reducible exact H2_) | with_reducible exact H | (rw [hy583]; exact H) | exact H
                                have Ny583 := Aside0.mk hy583
                                clear hy583
                                have H' := Aside0.mk H
                                clear H
                                obtain ⟨Ao53, co53, eo53, _⟩ := Kd.Q_slice HO_3.out
                                subst eo53
                                try go_wp2_with (first | ((with_reducible refine gate_callee (f := 17) rfl ?_); refine goesL_ (some 60) rfl rfl Try.func17 (by kernel_rfl) rfl #[.slice Ao53 x3_2.length co53] rfl zw6 ?_; (with_reducible refine (rlp_First.calls k2 _ _ x3_2 t571 t572 t575 t578 t579 _ ?side1 ?side2 A28.out).mono ?_); (case side1 => exact zw32 HO_3.out); (case side2 => exact (Kd.Q_reads' HO_3.out).2.1); rintro e w54 ⟨v573, v576, rfl, ho0, ho1, hb⟩; refine ⟨_, rfl, ?_⟩; have n0_ := Aside0.mk (Kd.Q_elder' (zw16 HO_3.out) (Kd.R_base ho0) hb); have n1_ := Aside0.mk (Kd.R_lower (Kd.R_new' ho0 (Kd.Q_lt (zw16 HO_3.out))) (below_size (zw2 HB.out))); have n2_ := Aside0.mk (Kd.R_lower (Kd.R_new' ho1 (Kd.Q_lt (zw16 HO_3.out))) (below_size (zw2 HB.out))); have n3_ := Aside0.mk (below_step (zw2 HB.out) hb); clear HO_3; clear HB; have HO_3 := n0_; have HO574 := n1_; have HO577 := n2_; have HB := n3_; clear n0_ n1_ n2_ n3_; (try clear hb); (try clear hb2); (try clear hk); (try clear hi); (try clear ho0); (try clear ho1)) | ((with_reducible refine gate_dst (N := 8) rfl ?_); (try (refine gate_guard (by rfl) ?_; dsimp only)); refine box_event ?hg (N := 8) ?hd (cs := #[.bool false, .slice none 0 0, .slice none 0 0]) (t := 25) ?hr ?_; (case hd => rfl); (case hg => rfl); (case hr => first | (go_simp; done) | (go_simp; rfl)); intro gb580 hg w55 hbox hb; have n0_ := Aside0.mk (Kd.Q_below (zw16 HO_3.out) hb); have n1_ := Aside0.mk (Kd.R_below (zw1 HO574.out) hb); have n2_ := Aside0.mk (Kd.R_below (Kd.R_elderB (zw1 HO577.out) gb580 (Nat.le_of_eq hg.symm)) hb); have n3_ := Aside0.mk (below_step (zw2 HB.out) hb); have n4_ := Aside0.mk (hbox); have n5_ := Aside0.mk ((by rw [hg]; exact (below_size (zw2 HB.out)) : w.heap.size ≤ gb580)); have n6_ := Aside0.mk ((by rw [hg]; exact (below_size (zw2 HB.out)) : w.heap.size ≤ gb580)); clear HO_3; clear HO574; clear HO577; clear HB; have HO_3 := n0_; have HO574 := n1_; have HO577 := n2_; have HB := n3_; have BK580 := n4_; have GW580 := n5_; have GE580 := n6_; clear n0_ n1_ n2_ n3_ n4_ n5_ n6_; clear hb hbox hg; have hcz56_0 : w55.cell? ⟨gb580, 0, none⟩ = some (.bool false) := (blk_cell BK580.out 0).trans rfl; have hcz56_1 : w55.cell? ⟨gb580, 1, none⟩ = some (.slice none 0 0) := (blk_cell BK580.out 1).trans rfl; have hcz56_2 : w55.cell? ⟨gb580, 2, none⟩ = some (.slice none 0 0) := (blk_cell BK580.out 2).trans rfl; have hfz56_0 := blk_frozen BK580.out 0; have hfz56_1 := blk_frozen BK580.out 1; have hfz56_2 := blk_frozen BK580.out 2; obtain ⟨Ao57, co57, eo57⟩ := Kd.R_slice HO574.out; subst eo57; obtain ⟨Ao58, co58, eo58⟩ := Kd.R_slice HO577.out; subst eo58))
                                have n0_ : Aside0 (Kd.Q (Kd.int .u8) 5 (((w55.setCell ⟨gb580, 0, none⟩ (.bool t571)).setCell ⟨gb580, 1, none⟩ (.slice Ao57 t572.length co57)).setCell ⟨gb580, 2, none⟩ (.slice Ao58 t575.length co58)) w.heap.size (fun k_ => some k_ ≠ (.slice Ao57 t572.length co57 : Value).ownBlock) (.slice Ao53 x3_2.length co53) x3_2) := ⟨by (with_reducible repeat (first | apply Kd.Q_alloc | apply Kd.Q_drewN | apply Kd.Q_drew)); exact Kd.Q_mono (Kd.Q_far (p := ⟨gb580, 2, none⟩) (Kd.Q_far (p := ⟨gb580, 1, none⟩) (Kd.Q_far (p := ⟨gb580, 0, none⟩) (Kd.Q_types HO_3.out BK580.out (by decide)) (fun _ hk => hk.2) (.bool t571)) (fun _ hk => hk.2) (.slice Ao57 t572.length co57)) (fun _ hk => hk.2) (.slice Ao58 t575.length co58)) (fun _ hk => hk.1.2)⟩
                                have n1_ : Aside0 (Kd.R (Kd.int .u8) 5 (((w55.setCell ⟨gb580, 0, none⟩ (.bool t571)).setCell ⟨gb580, 1, none⟩ (.slice Ao57 t572.length co57)).setCell ⟨gb580, 2, none⟩ (.slice Ao58 t575.length co58)) w.heap.size (fun k_ => some k_ ≠ (.slice Ao53 x3_2.length co53 : Value).ownBlock) (.slice Ao57 t572.length co57) t572) := ⟨by (with_reducible repeat (first | apply Kd.R_alloc | apply Kd.R_drewN | apply Kd.R_drew)); exact Kd.R_mono (Kd.R_far (p := ⟨gb580, 2, none⟩) (Kd.R_far (p := ⟨gb580, 1, none⟩) (Kd.R_far (p := ⟨gb580, 0, none⟩) (Kd.R_types HO574.out BK580.out (by decide)) (fun _ hk => hk.2) (.bool t571)) (fun _ hk => hk.2) (.slice Ao57 t572.length co57)) (fun _ hk => hk.2) (.slice Ao58 t575.length co58)) (fun _ hk => hk.1.2)⟩
                                have n2_ : Aside0 (Kd.R k25 25 (((w55.setCell ⟨gb580, 0, none⟩ (.bool t571)).setCell ⟨gb580, 1, none⟩ (.slice Ao57 t572.length co57)).setCell ⟨gb580, 2, none⟩ (.slice Ao58 t575.length co58)) w.heap.size (fun k_ => some k_ ≠ (.slice Ao53 x3_2.length co53 : Value).ownBlock ∧ some k_ ≠ (.slice Ao57 t572.length co57 : Value).ownBlock ∧ k_ ≠ gb580) (.slice Ao58 t575.length co58) t575) := ⟨by (with_reducible repeat (first | apply Kd.R_alloc | apply Kd.R_drewN | apply Kd.R_drew)); exact Kd.R_mono (Kd.R_far (p := ⟨gb580, 2, none⟩) (Kd.R_far (p := ⟨gb580, 1, none⟩) (Kd.R_far (p := ⟨gb580, 0, none⟩) (Kd.R_mono HO577.out (fun k_ hk => (⟨hk, hk.2⟩ : _ ∧ k_ ≠ gb580))) (fun _ hk => hk.2) (.bool t571)) (fun _ hk => hk.2) (.slice Ao57 t572.length co57)) (fun _ hk => hk.2) (.slice Ao58 t575.length co58)) (fun _ hk => ⟨hk.1.1.2, ⟨hk.1.1.1, hk.1.2⟩⟩)⟩
                                have n3_ : Aside0 ((((w55.setCell ⟨gb580, 0, none⟩ (.bool t571)).setCell ⟨gb580, 1, none⟩ (.slice Ao57 t572.length co57)).setCell ⟨gb580, 2, none⟩ (.slice Ao58 t575.length co58)).heap[gb580]? = some (.cells #[.bool t571, .slice Ao57 t572.length co57, .slice Ao58 t575.length co58] 25 (0, 0))) := ⟨by (with_reducible repeat (first | refine blk_drewN ?_ _ | refine blk_drew ?_ | refine blk_alloc ?_ _)); refine blk_put (cs := #[.bool t571, .slice Ao57 t572.length co57, .slice none 0 0]) ?_ 2 _ rfl; (with_reducible repeat (first | refine blk_drewN ?_ _ | refine blk_drew ?_ | refine blk_alloc ?_ _)); refine blk_put (cs := #[.bool t571, .slice none 0 0, .slice none 0 0]) ?_ 1 _ rfl; (with_reducible repeat (first | refine blk_drewN ?_ _ | refine blk_drew ?_ | refine blk_alloc ?_ _)); refine blk_put (cs := #[.bool false, .slice none 0 0, .slice none 0 0]) ?_ 0 _ rfl; (with_reducible repeat (first | refine blk_drewN ?_ _ | refine blk_drew ?_ | refine blk_alloc ?_ _)); exact BK580.out⟩
                                have n4_ : Aside0 (Below w.heap.size w (((w55.setCell ⟨gb580, 0, none⟩ (.bool t571)).setCell ⟨gb580, 1, none⟩ (.slice Ao57 t572.length co57)).setCell ⟨gb580, 2, none⟩ (.slice Ao58 t575.length co58))) := ⟨by repeat (first | (with_reducible first | exact HB.out | apply below_alloc | apply pw_below_drewN | apply below_drew1 | refine below_set ?_ GE580.out) | exact HB.out)⟩
                                (try clear HO_3)
                                (try clear HO574)
                                (try clear HO577)
                                (try clear BK580)
                                (try clear HB)
                                generalize (((w55.setCell ⟨gb580, 0, none⟩ (.bool t571)).setCell ⟨gb580, 1, none⟩ (.slice Ao57 t572.length co57)).setCell ⟨gb580, 2, none⟩ (.slice Ao58 t575.length co58)) = w59 at n0_ n1_ n2_ n3_ n4_ ⊢
                                have HO_3 := n0_
                                have HO574 := n1_
                                have HO577 := n2_
                                have BK580 := n3_
                                have HB := n4_
                                clear n0_ n1_ n2_ n3_ n4_
                                have n0_ := Aside0.mk (Kd.Q_drew HO_3.out)
                                have n1_ := Aside0.mk (Kd.R_drew HO574.out)
                                have n2_ := Aside0.mk (Kd.R_drew HO577.out)
                                have n3_ := Aside0.mk (blk_drew BK580.out)
                                have n4_ := Aside0.mk (below_drew1 HB.out)
                                clear HO_3
                                clear HO574
                                clear HO577
                                clear BK580
                                clear HB
                                have HO_3 := n0_
                                have HO574 := n1_
                                have HO577 := n2_
                                have BK580 := n3_
                                have HB := n4_
                                clear n0_ n1_ n2_ n3_ n4_
                                have p581 : 0 ≤ (x7_2 : Int) := of_decide_eq_true (by first | (with_reducible assumption) | assumption)
                                have q581 : x7_2 < (l0.length : Int) := of_decide_eq_true (by first | (with_reducible assumption) | assumption)
                                obtain ⟨ad581, A581_1, c581_1, A581_2, c581_2, e581, hx581_0, hx581_1, hx581_2, hl581_1, hi581_1, hl581_2, hi581_2⟩ := at_T25 HR0.out x7_2 p581 q581
                                have hw581_2 := hx581_2
                                have hw581_1 := hx581_1
                                have hw581_0 := hx581_0
                                cases e581
                                replace hx581_0 := (HB.out.cell (World.block_lt_of_cell? w _ hx581_0)).trans hx581_0
                                replace hx581_1 := (HB.out.cell (World.block_lt_of_cell? w _ hx581_1)).trans hx581_1
                                replace hx581_2 := (HB.out.cell (World.block_lt_of_cell? w _ hx581_2)).trans hx581_2
                                have HR581_1 := Aside0.mk hi581_1
                                have HC581_1 := Aside0.mk hl581_1
                                clear hi581_1 hl581_1
                                have HR581_2 := Aside0.mk hi581_2
                                have HC581_2 := Aside0.mk hl581_2
                                clear hi581_2 hl581_2
                                replace p581 := eq_true p581
                                replace q581 := eq_true q581
                                refine start_ (n := 21) (S := fun w' => w'.cell? ⟨gb580, 0, none⟩ = some (.bool t571) ∧ w'.cell? ⟨gb580, 1, none⟩ = some (.slice Ao57 t572.length co57) ∧ w'.cell? ⟨gb580, 2, none⟩ = some (.slice Ao58 t575.length co58) ∧ w'.cell? (ad581.add ((x7_2).toNat * 3)) = some (.bool ((rd_T25 l0 x7_2).f0)) ∧ w'.cell? ⟨(ad581.add ((x7_2).toNat * 3)).block, (ad581.add ((x7_2).toNat * 3)).off + 1, none⟩ = some (.slice A581_1 ((rd_T25 l0 x7_2).f1).length c581_1) ∧ w'.cell? ⟨(ad581.add ((x7_2).toNat * 3)).block, (ad581.add ((x7_2).toNat * 3)).off + 2, none⟩ = some (.slice A581_2 ((rd_T25 l0 x7_2).f2).length c581_2)) (ds := []) #[false, false, false, false, false, false, false, false, false, false, false, false, false, false, false, false, false, false, false, false, false] (by kernel_rfl) rfl rfl ⟨(blk_cell BK580.out 0).trans rfl, (blk_cell BK580.out 1).trans rfl, (blk_cell BK580.out 2).trans rfl, ((HB.out.cell (World.block_lt_of_cell? w _ hw581_0)).trans hw581_0), ((HB.out.cell (World.block_lt_of_cell? w _ hw581_1)).trans hw581_1), ((HB.out.cell (World.block_lt_of_cell? w _ hw581_2)).trans hw581_2)⟩ (fun hHeld => ?_); refine with_tabW morainelaw4_RlpStream.tab19 morainelaw4_RlpStream.bits19 (fun HT_ HW_ => ?_)
                                generalize w59.drew = w60 at HO_3 HO574 HO577 BK580 HB HR581_1 HR581_2 hx581_0 hx581_1 hx581_2 hHeld ⊢
                                refine pure_ (i := 0) (N := some 64) (v := ?_) (a' := ?_) #[true, false, false, false, false, false, false, false, false, false, false, false, false, false, false, false, false, false, false, false, false] rfl rfl (any_of HT_.out (by kernel_rfl)) (fun _ _ _ h => h) (Or.inl ⟨by rfl, ?_⟩) ?_ ?_
                                rotate_left
                                · intro w'
                                  go_simp
                                  with_reducible rfl
                                rotate_left
                                · simp only [Act.put, List.setIfInBounds_toArray, List.set_cons_zero, List.set_cons_succ, i64_w, i32_w]
                                  rfl
                                refine pure_ (i := 1) (N := some 65) (v := ?_) (a' := ?_) #[true, true, false, false, false, false, false, false, false, false, false, false, false, false, false, false, false, false, false, false, false] rfl rfl (any_of HT_.out (by kernel_rfl)) (fun _ _ _ h => h) (Or.inl ⟨by rfl, ?_⟩) ?_ ?_
                                rotate_left
                                · intro w'
                                  go_simp
                                  with_reducible rfl
                                rotate_left
                                · simp only [Act.put, List.setIfInBounds_toArray, List.set_cons_zero, List.set_cons_succ, i64_w, i32_w]
                                  rfl
                                refine pure_ (i := 2) (N := some 66) (v := ?_) (a' := ?_) #[true, true, true, false, false, false, false, false, false, false, false, false, false, false, false, false, false, false, false, false, false] rfl rfl (any_of HT_.out (by kernel_rfl)) (fun _ _ _ h => h) (Or.inl ⟨by rfl, ?_⟩) ?_ ?_
                                rotate_left
                                · intro w'
                                  go_simp
                                  with_reducible rfl
                                rotate_left
                                · simp only [Act.put, List.setIfInBounds_toArray, List.set_cons_zero, List.set_cons_succ, i64_w, i32_w]
                                  rfl
                                refine pure_ (i := 3) (N := some 67) (v := ?_) (a' := ?_) #[true, true, true, true, false, false, false, false, false, false, false, false, false, false, false, false, false, false, false, false, false] rfl rfl (any_of HT_.out (by kernel_rfl)) (fun _ _ _ h => h) (Or.inl ⟨by rfl, ?_⟩) ?_ ?_
                                rotate_left
                                · intro w'
                                  go_simp
                                  with_reducible rfl
                                rotate_left
                                · simp only [Act.put, List.setIfInBounds_toArray, List.set_cons_zero, List.set_cons_succ, i64_w, i32_w]
                                  rfl
                                refine pure_ (i := 4) (N := some 68) (v := ?_) (a' := ?_) #[true, true, true, true, true, false, false, false, false, false, false, false, false, false, false, false, false, false, false, false, false] rfl rfl (any_of HT_.out (by kernel_rfl)) (fun _ _ _ h => h) (Or.inl ⟨by rfl, ?_⟩) ?_ ?_
                                rotate_left
                                · intro w'
                                  go_simp
                                  with_reducible rfl
                                rotate_left
                                · simp only [Act.put, List.setIfInBounds_toArray, List.set_cons_zero, List.set_cons_succ, i64_w, i32_w]
                                  rfl
                                refine pure_ (i := 5) (N := some 69) (v := ?_) (a' := ?_) #[true, true, true, true, true, true, false, false, false, false, false, false, false, false, false, false, false, false, false, false, false] rfl rfl (any_of HT_.out (by kernel_rfl)) (fun _ _ _ h => h) (Or.inl ⟨by rfl, ?_⟩) ?_ ?_
                                rotate_left
                                · intro w'
                                  go_simp
                                  with_reducible rfl
                                rotate_left
                                · simp only [Act.put, List.setIfInBounds_toArray, List.set_cons_zero, List.set_cons_succ, i64_w, i32_w]
                                  rfl
                                refine pure_ (i := 6) (N := some 70) (v := ?_) (a' := ?_) #[true, true, true, true, true, true, true, false, false, false, false, false, false, false, false, false, false, false, false, false, false] rfl rfl (any_of HT_.out (by kernel_rfl)) (fun _ _ _ h => h) (Or.inl ⟨by rfl, ?_⟩) ?_ ?_
                                rotate_left
                                · intro w'
                                  go_simp
                                  with_reducible rfl
                                rotate_left
                                · simp only [Act.put, List.setIfInBounds_toArray, List.set_cons_zero, List.set_cons_succ, i64_w, i32_w]
                                  rfl
                                refine pure_ (i := 7) (N := some 71) (v := ?_) (a' := ?_) #[true, true, true, true, true, true, true, true, false, false, false, false, false, false, false, false, false, false, false, false, false] rfl rfl (any_of HT_.out (by kernel_rfl)) (fun _ _ _ h => h) (Or.inl ⟨by rfl, ?_⟩) ?_ ?_
                                rotate_left
                                · intro w'
                                  go_simp
                                  with_reducible rfl
                                rotate_left
                                · simp only [Act.put, List.setIfInBounds_toArray, List.set_cons_zero, List.set_cons_succ, i64_w, i32_w]
                                  rfl
                                refine pure_ (i := 8) (N := some 72) (v := ?_) (a' := ?_) #[true, true, true, true, true, true, true, true, true, false, false, false, false, false, false, false, false, false, false, false, false] rfl rfl (any_of HT_.out (by kernel_rfl)) (fun _ _ _ h => h) (Or.inl ⟨by rfl, ?_⟩) ?_ ?_
                                rotate_left
                                · intro w'
                                  go_simp
                                  with_reducible rfl
                                rotate_left
                                · simp only [Act.put, List.setIfInBounds_toArray, List.set_cons_zero, List.set_cons_succ, i64_w, i32_w]
                                  rfl
                                refine pure_ (i := 9) (N := some 73) (v := ?_) (a' := ?_) #[true, true, true, true, true, true, true, true, true, true, false, false, false, false, false, false, false, false, false, false, false] rfl rfl (any_of HT_.out (by kernel_rfl)) (fun _ _ _ h => h) (Or.inl ⟨by rfl, ?_⟩) ?_ ?_
                                rotate_left
                                · intro w'
                                  go_simp
                                  with_reducible rfl
                                rotate_left
                                · simp only [Act.put, List.setIfInBounds_toArray, List.set_cons_zero, List.set_cons_succ, i64_w, i32_w]
                                  rfl
                                refine pure_ (i := 10) (N := some 74) (v := ?_) (a' := ?_) #[true, true, true, true, true, true, true, true, true, true, true, false, false, false, false, false, false, false, false, false, false] rfl rfl (any_of HT_.out (by kernel_rfl)) (fun _ _ _ h => h) (Or.inl ⟨by rfl, ?_⟩) ?_ ?_
                                rotate_left
                                · intro w'
                                  go_simp
                                  with_reducible rfl
                                rotate_left
                                · simp only [Act.put, List.setIfInBounds_toArray, List.set_cons_zero, List.set_cons_succ, i64_w, i32_w]
                                  rfl
                                refine pure_ (i := 11) (N := some 75) (v := ?_) (a' := ?_) #[true, true, true, true, true, true, true, true, true, true, true, true, false, false, false, false, false, false, false, false, false] rfl rfl (any_of HT_.out (by kernel_rfl)) (fun _ _ _ h => h) (Or.inl ⟨by rfl, ?_⟩) ?_ ?_
                                rotate_left
                                · intro w'
                                  go_simp
                                  with_reducible rfl
                                rotate_left
                                · simp only [Act.put, List.setIfInBounds_toArray, List.set_cons_zero, List.set_cons_succ, i64_w, i32_w]
                                  rfl
                                refine pure_ (i := 12) (N := some 76) (v := ?_) (a' := ?_) #[true, true, true, true, true, true, true, true, true, true, true, true, true, false, false, false, false, false, false, false, false] rfl rfl (any_of HT_.out (by kernel_rfl)) (fun _ _ _ h => h) (Or.inl ⟨by rfl, ?_⟩) ?_ ?_
                                rotate_left
                                · intro w'
                                  go_simp
                                  with_reducible rfl
                                rotate_left
                                · simp only [Act.put, List.setIfInBounds_toArray, List.set_cons_zero, List.set_cons_succ, i64_w, i32_w]
                                  rfl
                                refine pure_ (i := 14) (N := some 78) (v := ?_) (a' := ?_) #[true, true, true, true, true, true, true, true, true, true, true, true, true, false, true, false, false, false, false, false, false] rfl rfl (any_of HT_.out (by kernel_rfl)) (fun _ _ _ h => h) (Or.inl ⟨by rfl, ?_⟩) ?_ ?_
                                rotate_left
                                · intro w'
                                  go_simp
                                  with_reducible rfl
                                rotate_left
                                · simp only [Act.put, List.setIfInBounds_toArray, List.set_cons_zero, List.set_cons_succ, i64_w, i32_w]
                                  rfl
                                refine pure_ (i := 15) (N := some 79) (v := ?_) (a' := ?_) #[true, true, true, true, true, true, true, true, true, true, true, true, true, false, true, true, false, false, false, false, false] rfl rfl (any_of HT_.out (by kernel_rfl)) (fun _ _ _ h => h) (Or.inl ⟨by rfl, ?_⟩) ?_ ?_
                                rotate_left
                                · intro w'
                                  go_simp
                                  with_reducible rfl
                                rotate_left
                                · simp only [Act.put, List.setIfInBounds_toArray, List.set_cons_zero, List.set_cons_succ, i64_w, i32_w]
                                  rfl
                                refine pure_ (i := 16) (N := some 80) (v := ?_) (a' := ?_) #[true, true, true, true, true, true, true, true, true, true, true, true, true, false, true, true, true, false, false, false, false] rfl rfl (any_of HT_.out (by kernel_rfl)) (fun _ _ _ h => h) (Or.inl ⟨by rfl, ?_⟩) ?_ ?_
                                rotate_left
                                · intro w'
                                  go_simp
                                  with_reducible rfl
                                rotate_left
                                · simp only [Act.put, List.setIfInBounds_toArray, List.set_cons_zero, List.set_cons_succ, i64_w, i32_w]
                                  rfl
                                refine take_ (i := 13) (N := some 77) (v := ?_) (a' := ?_) #[true, true, true, true, true, true, true, true, true, true, true, true, true, true, true, true, true, false, false, false, false] rfl rfl (take_ofW HT_.out HW_.out (by kernel_rfl)) (fun _ _ _ h => h) (Or.inl ⟨by rfl, ?_⟩) hHeld ?_ ?_
                                rotate_left
                                · rintro w' ⟨s0, s1, s2, s3, s4, s5⟩
                                  go_simp
                                  with_reducible rfl
                                rotate_left
                                · simp only [Act.put, List.setIfInBounds_toArray, List.set_cons_zero, List.set_cons_succ, i64_w, i32_w]
                                  rfl
                                refine take_ (i := 17) (N := some 81) (v := ?_) (a' := ?_) #[true, true, true, true, true, true, true, true, true, true, true, true, true, true, true, true, true, true, false, false, false] rfl rfl (take_ofW HT_.out HW_.out (by kernel_rfl)) (fun _ _ _ h => h) (Or.inl ⟨by rfl, ?_⟩) hHeld ?_ ?_
                                rotate_left
                                · rintro w' ⟨s0, s1, s2, s3, s4, s5⟩
                                  go_simp
                                  with_reducible rfl
                                rotate_left
                                · simp only [Act.put, List.setIfInBounds_toArray, List.set_cons_zero, List.set_cons_succ, i64_w, i32_w]
                                  rfl
                                refine one_ (i := 18) (N := some 82) #[true, true, true, true, true, true, true, true, true, true, true, true, true, true, true, true, true, true, true, false, false] rfl rfl (one_of HT_.out (by kernel_rfl)) (by decide) (fun K hK => ?_)
                                refine goes_ Try.func20 (by kernel_rfl) rfl #[.agg #[.bool t571, .slice Ao57 t572.length co57, .slice Ao58 t575.length co58], .agg #[.bool ((rd_T25 l0 x7_2).f0), .slice A581_1 ((rd_T25 l0 x7_2).f1).length c581_1, .slice A581_2 ((rd_T25 l0 x7_2).f2).length c581_2]] (by rfl) rfl rfl zw6 ?_
                                with_reducible refine (moraineref4_Same.calls k2 t571 _ _ t572 _ _ t575 ((rd_T25 l0 x7_2).f0) _ _ ((rd_T25 l0 x7_2).f1) _ _ ((rd_T25 l0 x7_2).f2) true _ ?side1 ?side2 ?side3 ?side4 ?side5 ?side6 ?side7 ?side8 A49.out).mono ?_
                                (case side1 => exact zw9 HO574.out)
                                (case side2 => exact (Kd.R_reads' HO574.out).2.1)
                                (case side3 => exact zw9 HO577.out)
                                (case side4 => exact (Kd.R_reads' HO577.out).2.1)
                                (case side5 => exact zw4 HR581_1.out HB.out)
                                (case side6 => exact HC581_1.out)
                                (case side7 => exact zw4 HR581_2.out HB.out)
                                (case side8 => exact HC581_2.out)
                                rintro e w61 ⟨rfl, hb⟩
                                refine ⟨_, rfl, ?_⟩
                                have n0_ := Aside0.mk (Kd.Q_below (zw16 HO_3.out) hb)
                                have n1_ := Aside0.mk (Kd.R_below (zw1 HO574.out) hb)
                                have n2_ := Aside0.mk (Kd.R_below (zw1 HO577.out) hb)
                                have n3_ := Aside0.mk (blk_below (g := gb580) (o := .cells #[.bool t571, .slice Ao57 t572.length co57, .slice Ao58 t575.length co58] 25 (0, 0)) (zw0 BK580.out) hb)
                                have n4_ := Aside0.mk (below_step (zw3 HB.out GE580.out) hb)
                                clear HO_3
                                clear HO574
                                clear HO577
                                clear BK580
                                clear HB
                                have HO_3 := n0_
                                have HO574 := n1_
                                have HO577 := n2_
                                have BK580 := n3_
                                have HB := n4_
                                clear n0_ n1_ n2_ n3_ n4_
                                (try clear hb)
                                (try clear hb2)
                                (try clear hk)
                                (try clear hi)
                                refine hK.out _ _ ⟨(blk_cell BK580.out 0).trans rfl, (blk_cell BK580.out 1).trans rfl, (blk_cell BK580.out 2).trans rfl, ((HB.out.cell (World.block_lt_of_cell? w _ hw581_0)).trans hw581_0), ((HB.out.cell (World.block_lt_of_cell? w _ hw581_1)).trans hw581_1), ((HB.out.cell (World.block_lt_of_cell? w _ hw581_2)).trans hw581_2)⟩ (fun hHeld => ?_)
                                clear hK K
                                refine norm_ (a' := ?_) ?_ ?_
                                rotate_left
                                · show Act.put _ (some 82) _ = _
                                  simp only [Act.put, List.setIfInBounds_toArray, List.set_cons_zero, List.set_cons_succ, i64_w, i32_w]
                                  rfl
                                refine pure_ (i := 19) (N := some 83) (v := ?_) (a' := ?_) #[true, true, true, true, true, true, true, true, true, true, true, true, true, true, true, true, true, true, true, true, false] rfl rfl (any_of HT_.out (by kernel_rfl)) (fun _ _ _ h => h) (Or.inl ⟨by rfl, ?_⟩) ?_ ?_
                                rotate_left
                                · intro w'
                                  go_simp
                                  with_reducible rfl
                                rotate_left
                                · simp only [Act.put, List.setIfInBounds_toArray, List.set_cons_zero, List.set_cons_succ, i64_w, i32_w]
                                  rfl
                                refine pure_ (i := 20) (N := some 84) (v := ?_) (a' := ?_) #[true, true, true, true, true, true, true, true, true, true, true, true, true, true, true, true, true, true, true, true, true] rfl rfl (any_of HT_.out (by kernel_rfl)) (fun _ _ _ h => h) (Or.inl ⟨by rfl, ?_⟩) ?_ ?_
                                rotate_left
                                · intro w'
                                  go_simp
                                  with_reducible rfl
                                rotate_left
                                · simp only [Act.put, List.setIfInBounds_toArray, List.set_cons_zero, List.set_cons_succ, i64_w, i32_w]
                                  rfl
                                refine done_ (done_of HT_.out (by kernel_rfl)) ?_
                                have q62 : (t578 : Int) ≤ ((x3_2.length : Int) : Int) := of_decide_eq_true (by first | (with_reducible assumption) | assumption)
                                obtain ⟨i062, hi062, _, hsz62, _⟩ := info_parts info5
                                have hcut62 := cut_from (P := Try.prog) 22 5 .i64 Try.underlying22 hi062 1 hsz62 Ao53 x3_2.length co53 t578 (of_decide_eq_true (by first | (with_reducible assumption) | assumption)) q62
                                have hr62 := Kd.Q_drop (k := (t578 : Int).toNat) HO_3.out (by omega)
                                obtain ⟨A62, hA62⟩ : ∃ Az_, Az_ = (if co53 = (t578 : Int).toNat then Ao53 else (Ao53 : Option Addr).map (·.add ((t578 : Int).toNat * 1))) := ⟨_, rfl⟩
                                obtain ⟨c62, hc62⟩ : ∃ cz_, cz_ = co53 - (t578 : Int).toNat := ⟨_, rfl⟩
                                have hy62 : y583.length = x3_2.length - (t578 : Int).toNat := (by rw [Ny583.out, List.length_drop])
                                rw [← Ny583.out] at hr62
                                rw [← hy62, ← hA62, ← hc62] at hcut62
                                replace hr62 : Kd.Q (Kd.int .u8) 5 w61 w.heap.size (fun k_ => some k_ ≠ (.slice Ao57 t572.length co57 : Value).ownBlock) (.slice A62 y583.length c62) y583 := (by rw [hA62, hc62, hy62]; exact hr62)
                                have HE62 : Aside0 ((Value.slice A62 y583.length c62).ownBlock = (.slice Ao53 x3_2.length co53 : Value).ownBlock) := ⟨by rw [hA62]; split <;> (cases (Ao53 : Option Addr) <;> first | rfl | (simp only [Option.map, Value.ownBlock, Addr.add]; split <;> rfl))⟩
                                clear hy62 hi062 hsz62 HO_3 hA62 hc62
                                have HO585 := Aside0.mk hr62
                                clear hr62
                                replace q62 := eq_true q62
                                have n_ := Aside0.mk (Kd.R_mono (ok' := fun k_ => some k_ ≠ (.slice A62 y583.length c62 : Value).ownBlock) HO574.out (fun k_ hk => (by rw [HE62.out]; exact hk)))
                                clear HO574
                                have HO574 := n_
                                clear n_
                                have n_ := Aside0.mk (Kd.R_mono (ok' := fun k_ => (some k_ ≠ (.slice A62 y583.length c62 : Value).ownBlock ∧ (some k_ ≠ (.slice Ao57 t572.length co57 : Value).ownBlock ∧ k_ ≠ gb580))) HO577.out (fun k_ hk => ⟨(by rw [HE62.out]; exact hk.1), ⟨hk.2.1, hk.2.2⟩⟩))
                                clear HO577
                                have HO577 := n_
                                clear n_
                                try go_wp2
                                go_roundg k2
                                case measure => have := HK1.out; have := HK2.out; omega
                                case rel => exact ⟨(y583), (wrap64 (x7_2 + 1)), zw7, H', ⟨by have := HK1.out; have := HK2.out; omega⟩, ⟨by (with_reducible repeat (first | apply Kd.Q_alloc | apply Kd.Q_drewN | apply Kd.Q_drew)); exact Kd.Q_mono HO585.out (fun _ hk => trivial)⟩, ⟨by repeat (first | (with_reducible first | exact HB.out | apply below_alloc | apply pw_below_drewN | apply below_drew1 | refine below_set ?_ GE580.out) | exact HB.out)⟩⟩
                              · rw [if_neg c52] at H
                                exact absurd H (by simp)
                            · rw [if_neg c51] at H
                              exact absurd H (by simp)
                          · replace c50 := Bool.eq_false_iff.mpr c50
                            subst c50
                            have H1 : (some false) = some r := by rw [if_neg (show ¬ (false = true) by decide)] at H; exact H
                            clear H
                            have H := H1
                            clear H1
                            obtain rfl := Option.some.inj H
                            obtain ⟨Ao63, co63, eo63, _⟩ := Kd.Q_slice HO_3.out
                            subst eo63
                            try go_wp2_with (first | ((with_reducible refine gate_callee (f := 17) rfl ?_); refine goesL_ (some 60) rfl rfl Try.func17 (by kernel_rfl) rfl #[.slice Ao63 x3_2.length co63] rfl zw6 ?_; (with_reducible refine (rlp_First.calls k2 _ _ x3_2 t571 t572 t575 t578 t579 _ ?side1 ?side2 A28.out).mono ?_); (case side1 => exact zw32 HO_3.out); (case side2 => exact (Kd.Q_reads' HO_3.out).2.1); rintro e w64 ⟨v573, v576, rfl, ho0, ho1, hb⟩; refine ⟨_, rfl, ?_⟩; have n0_ := Aside0.mk (Kd.Q_elder' (zw16 HO_3.out) (Kd.R_base ho0) hb); have n1_ := Aside0.mk (Kd.R_lower (Kd.R_new' ho0 (Kd.Q_lt (zw16 HO_3.out))) (below_size (zw2 HB.out))); have n2_ := Aside0.mk (Kd.R_lower (Kd.R_new' ho1 (Kd.Q_lt (zw16 HO_3.out))) (below_size (zw2 HB.out))); have n3_ := Aside0.mk (below_step (zw2 HB.out) hb); clear HO_3; clear HB; have HO_3 := n0_; have HO574 := n1_; have HO577 := n2_; have HB := n3_; clear n0_ n1_ n2_ n3_; (try clear hb); (try clear hb2); (try clear hk); (try clear hi); (try clear ho0); (try clear ho1)) | ((with_reducible refine gate_dst (N := 8) rfl ?_); (try (refine gate_guard (by rfl) ?_; dsimp only)); refine box_event ?hg (N := 8) ?hd (cs := #[.bool false, .slice none 0 0, .slice none 0 0]) (t := 25) ?hr ?_; (case hd => rfl); (case hg => rfl); (case hr => first | (go_simp; done) | (go_simp; rfl)); intro gb580 hg w65 hbox hb; have n0_ := Aside0.mk (Kd.Q_below (zw16 HO_3.out) hb); have n1_ := Aside0.mk (Kd.R_below (zw1 HO574.out) hb); have n2_ := Aside0.mk (Kd.R_below (Kd.R_elderB (zw1 HO577.out) gb580 (Nat.le_of_eq hg.symm)) hb); have n3_ := Aside0.mk (below_step (zw2 HB.out) hb); have n4_ := Aside0.mk (hbox); have n5_ := Aside0.mk ((by rw [hg]; exact (below_size (zw2 HB.out)) : w.heap.size ≤ gb580)); have n6_ := Aside0.mk ((by rw [hg]; exact (below_size (zw2 HB.out)) : w.heap.size ≤ gb580)); clear HO_3; clear HO574; clear HO577; clear HB; have HO_3 := n0_; have HO574 := n1_; have HO577 := n2_; have HB := n3_; have BK580 := n4_; have GW580 := n5_; have GE580 := n6_; clear n0_ n1_ n2_ n3_ n4_ n5_ n6_; clear hb hbox hg; have hcz66_0 : w65.cell? ⟨gb580, 0, none⟩ = some (.bool false) := (blk_cell BK580.out 0).trans rfl; have hcz66_1 : w65.cell? ⟨gb580, 1, none⟩ = some (.slice none 0 0) := (blk_cell BK580.out 1).trans rfl; have hcz66_2 : w65.cell? ⟨gb580, 2, none⟩ = some (.slice none 0 0) := (blk_cell BK580.out 2).trans rfl; have hfz66_0 := blk_frozen BK580.out 0; have hfz66_1 := blk_frozen BK580.out 1; have hfz66_2 := blk_frozen BK580.out 2; obtain ⟨Ao67, co67, eo67⟩ := Kd.R_slice HO574.out; subst eo67; obtain ⟨Ao68, co68, eo68⟩ := Kd.R_slice HO577.out; subst eo68))
                            have n0_ : Aside0 (Kd.Q (Kd.int .u8) 5 (((w65.setCell ⟨gb580, 0, none⟩ (.bool t571)).setCell ⟨gb580, 1, none⟩ (.slice Ao67 t572.length co67)).setCell ⟨gb580, 2, none⟩ (.slice Ao68 t575.length co68)) w.heap.size (fun k_ => some k_ ≠ (.slice Ao67 t572.length co67 : Value).ownBlock) (.slice Ao63 x3_2.length co63) x3_2) := ⟨by (with_reducible repeat (first | apply Kd.Q_alloc | apply Kd.Q_drewN | apply Kd.Q_drew)); exact Kd.Q_mono (Kd.Q_far (p := ⟨gb580, 2, none⟩) (Kd.Q_far (p := ⟨gb580, 1, none⟩) (Kd.Q_far (p := ⟨gb580, 0, none⟩) (Kd.Q_types HO_3.out BK580.out (by decide)) (fun _ hk => hk.2) (.bool t571)) (fun _ hk => hk.2) (.slice Ao67 t572.length co67)) (fun _ hk => hk.2) (.slice Ao68 t575.length co68)) (fun _ hk => hk.1.2)⟩
                            have n1_ : Aside0 (Kd.R (Kd.int .u8) 5 (((w65.setCell ⟨gb580, 0, none⟩ (.bool t571)).setCell ⟨gb580, 1, none⟩ (.slice Ao67 t572.length co67)).setCell ⟨gb580, 2, none⟩ (.slice Ao68 t575.length co68)) w.heap.size (fun k_ => some k_ ≠ (.slice Ao63 x3_2.length co63 : Value).ownBlock) (.slice Ao67 t572.length co67) t572) := ⟨by (with_reducible repeat (first | apply Kd.R_alloc | apply Kd.R_drewN | apply Kd.R_drew)); exact Kd.R_mono (Kd.R_far (p := ⟨gb580, 2, none⟩) (Kd.R_far (p := ⟨gb580, 1, none⟩) (Kd.R_far (p := ⟨gb580, 0, none⟩) (Kd.R_types HO574.out BK580.out (by decide)) (fun _ hk => hk.2) (.bool t571)) (fun _ hk => hk.2) (.slice Ao67 t572.length co67)) (fun _ hk => hk.2) (.slice Ao68 t575.length co68)) (fun _ hk => hk.1.2)⟩
                            have n2_ : Aside0 (Kd.R k25 25 (((w65.setCell ⟨gb580, 0, none⟩ (.bool t571)).setCell ⟨gb580, 1, none⟩ (.slice Ao67 t572.length co67)).setCell ⟨gb580, 2, none⟩ (.slice Ao68 t575.length co68)) w.heap.size (fun k_ => some k_ ≠ (.slice Ao63 x3_2.length co63 : Value).ownBlock ∧ some k_ ≠ (.slice Ao67 t572.length co67 : Value).ownBlock ∧ k_ ≠ gb580) (.slice Ao68 t575.length co68) t575) := ⟨by (with_reducible repeat (first | apply Kd.R_alloc | apply Kd.R_drewN | apply Kd.R_drew)); exact Kd.R_mono (Kd.R_far (p := ⟨gb580, 2, none⟩) (Kd.R_far (p := ⟨gb580, 1, none⟩) (Kd.R_far (p := ⟨gb580, 0, none⟩) (Kd.R_mono HO577.out (fun k_ hk => (⟨hk, hk.2⟩ : _ ∧ k_ ≠ gb580))) (fun _ hk => hk.2) (.bool t571)) (fun _ hk => hk.2) (.slice Ao67 t572.length co67)) (fun _ hk => hk.2) (.slice Ao68 t575.length co68)) (fun _ hk => ⟨hk.1.1.2, ⟨hk.1.1.1, hk.1.2⟩⟩)⟩
                            have n3_ : Aside0 ((((w65.setCell ⟨gb580, 0, none⟩ (.bool t571)).setCell ⟨gb580, 1, none⟩ (.slice Ao67 t572.length co67)).setCell ⟨gb580, 2, none⟩ (.slice Ao68 t575.length co68)).heap[gb580]? = some (.cells #[.bool t571, .slice Ao67 t572.length co67, .slice Ao68 t575.length co68] 25 (0, 0))) := ⟨by (with_reducible repeat (first | refine blk_drewN ?_ _ | refine blk_drew ?_ | refine blk_alloc ?_ _)); refine blk_put (cs := #[.bool t571, .slice Ao67 t572.length co67, .slice none 0 0]) ?_ 2 _ rfl; (with_reducible repeat (first | refine blk_drewN ?_ _ | refine blk_drew ?_ | refine blk_alloc ?_ _)); refine blk_put (cs := #[.bool t571, .slice none 0 0, .slice none 0 0]) ?_ 1 _ rfl; (with_reducible repeat (first | refine blk_drewN ?_ _ | refine blk_drew ?_ | refine blk_alloc ?_ _)); refine blk_put (cs := #[.bool false, .slice none 0 0, .slice none 0 0]) ?_ 0 _ rfl; (with_reducible repeat (first | refine blk_drewN ?_ _ | refine blk_drew ?_ | refine blk_alloc ?_ _)); exact BK580.out⟩
                            have n4_ : Aside0 (Below w.heap.size w (((w65.setCell ⟨gb580, 0, none⟩ (.bool t571)).setCell ⟨gb580, 1, none⟩ (.slice Ao67 t572.length co67)).setCell ⟨gb580, 2, none⟩ (.slice Ao68 t575.length co68))) := ⟨by repeat (first | (with_reducible first | exact HB.out | apply below_alloc | apply pw_below_drewN | apply below_drew1 | refine below_set ?_ GE580.out) | exact HB.out)⟩
                            (try clear HO_3)
                            (try clear HO574)
                            (try clear HO577)
                            (try clear BK580)
                            (try clear HB)
                            generalize (((w65.setCell ⟨gb580, 0, none⟩ (.bool t571)).setCell ⟨gb580, 1, none⟩ (.slice Ao67 t572.length co67)).setCell ⟨gb580, 2, none⟩ (.slice Ao68 t575.length co68)) = w69 at n0_ n1_ n2_ n3_ n4_ ⊢
                            have HO_3 := n0_
                            have HO574 := n1_
                            have HO577 := n2_
                            have BK580 := n3_
                            have HB := n4_
                            clear n0_ n1_ n2_ n3_ n4_
                            have n0_ := Aside0.mk (Kd.Q_drew HO_3.out)
                            have n1_ := Aside0.mk (Kd.R_drew HO574.out)
                            have n2_ := Aside0.mk (Kd.R_drew HO577.out)
                            have n3_ := Aside0.mk (blk_drew BK580.out)
                            have n4_ := Aside0.mk (below_drew1 HB.out)
                            clear HO_3
                            clear HO574
                            clear HO577
                            clear BK580
                            clear HB
                            have HO_3 := n0_
                            have HO574 := n1_
                            have HO577 := n2_
                            have BK580 := n3_
                            have HB := n4_
                            clear n0_ n1_ n2_ n3_ n4_
                            have p581 : 0 ≤ (x7_2 : Int) := of_decide_eq_true (by first | (with_reducible assumption) | assumption)
                            have q581 : x7_2 < (l0.length : Int) := of_decide_eq_true (by first | (with_reducible assumption) | assumption)
                            obtain ⟨ad581, A581_1, c581_1, A581_2, c581_2, e581, hx581_0, hx581_1, hx581_2, hl581_1, hi581_1, hl581_2, hi581_2⟩ := at_T25 HR0.out x7_2 p581 q581
                            have hw581_2 := hx581_2
                            have hw581_1 := hx581_1
                            have hw581_0 := hx581_0
                            cases e581
                            replace hx581_0 := (HB.out.cell (World.block_lt_of_cell? w _ hx581_0)).trans hx581_0
                            replace hx581_1 := (HB.out.cell (World.block_lt_of_cell? w _ hx581_1)).trans hx581_1
                            replace hx581_2 := (HB.out.cell (World.block_lt_of_cell? w _ hx581_2)).trans hx581_2
                            have HR581_1 := Aside0.mk hi581_1
                            have HC581_1 := Aside0.mk hl581_1
                            clear hi581_1 hl581_1
                            have HR581_2 := Aside0.mk hi581_2
                            have HC581_2 := Aside0.mk hl581_2
                            clear hi581_2 hl581_2
                            replace p581 := eq_true p581
                            replace q581 := eq_true q581
                            refine start_ (n := 21) (S := fun w' => w'.cell? ⟨gb580, 0, none⟩ = some (.bool t571) ∧ w'.cell? ⟨gb580, 1, none⟩ = some (.slice Ao67 t572.length co67) ∧ w'.cell? ⟨gb580, 2, none⟩ = some (.slice Ao68 t575.length co68) ∧ w'.cell? (ad581.add ((x7_2).toNat * 3)) = some (.bool ((rd_T25 l0 x7_2).f0)) ∧ w'.cell? ⟨(ad581.add ((x7_2).toNat * 3)).block, (ad581.add ((x7_2).toNat * 3)).off + 1, none⟩ = some (.slice A581_1 ((rd_T25 l0 x7_2).f1).length c581_1) ∧ w'.cell? ⟨(ad581.add ((x7_2).toNat * 3)).block, (ad581.add ((x7_2).toNat * 3)).off + 2, none⟩ = some (.slice A581_2 ((rd_T25 l0 x7_2).f2).length c581_2)) (ds := []) #[false, false, false, false, false, false, false, false, false, false, false, false, false, false, false, false, false, false, false, false, false] (by kernel_rfl) rfl rfl ⟨(blk_cell BK580.out 0).trans rfl, (blk_cell BK580.out 1).trans rfl, (blk_cell BK580.out 2).trans rfl, ((HB.out.cell (World.block_lt_of_cell? w _ hw581_0)).trans hw581_0), ((HB.out.cell (World.block_lt_of_cell? w _ hw581_1)).trans hw581_1), ((HB.out.cell (World.block_lt_of_cell? w _ hw581_2)).trans hw581_2)⟩ (fun hHeld => ?_); refine with_tabW morainelaw4_RlpStream.tab19 morainelaw4_RlpStream.bits19 (fun HT_ HW_ => ?_)
                            generalize w69.drew = w70 at HO_3 HO574 HO577 BK580 HB HR581_1 HR581_2 hx581_0 hx581_1 hx581_2 hHeld ⊢
                            refine pure_ (i := 0) (N := some 64) (v := ?_) (a' := ?_) #[true, false, false, false, false, false, false, false, false, false, false, false, false, false, false, false, false, false, false, false, false] rfl rfl (any_of HT_.out (by kernel_rfl)) (fun _ _ _ h => h) (Or.inl ⟨by rfl, ?_⟩) ?_ ?_
                            rotate_left
                            · intro w'
                              go_simp
                              with_reducible rfl
                            rotate_left
                            · simp only [Act.put, List.setIfInBounds_toArray, List.set_cons_zero, List.set_cons_succ, i64_w, i32_w]
                              rfl
                            refine pure_ (i := 1) (N := some 65) (v := ?_) (a' := ?_) #[true, true, false, false, false, false, false, false, false, false, false, false, false, false, false, false, false, false, false, false, false] rfl rfl (any_of HT_.out (by kernel_rfl)) (fun _ _ _ h => h) (Or.inl ⟨by rfl, ?_⟩) ?_ ?_
                            rotate_left
                            · intro w'
                              go_simp
                              with_reducible rfl
                            rotate_left
                            · simp only [Act.put, List.setIfInBounds_toArray, List.set_cons_zero, List.set_cons_succ, i64_w, i32_w]
                              rfl
                            refine pure_ (i := 2) (N := some 66) (v := ?_) (a' := ?_) #[true, true, true, false, false, false, false, false, false, false, false, false, false, false, false, false, false, false, false, false, false] rfl rfl (any_of HT_.out (by kernel_rfl)) (fun _ _ _ h => h) (Or.inl ⟨by rfl, ?_⟩) ?_ ?_
                            rotate_left
                            · intro w'
                              go_simp
                              with_reducible rfl
                            rotate_left
                            · simp only [Act.put, List.setIfInBounds_toArray, List.set_cons_zero, List.set_cons_succ, i64_w, i32_w]
                              rfl
                            refine pure_ (i := 3) (N := some 67) (v := ?_) (a' := ?_) #[true, true, true, true, false, false, false, false, false, false, false, false, false, false, false, false, false, false, false, false, false] rfl rfl (any_of HT_.out (by kernel_rfl)) (fun _ _ _ h => h) (Or.inl ⟨by rfl, ?_⟩) ?_ ?_
                            rotate_left
                            · intro w'
                              go_simp
                              with_reducible rfl
                            rotate_left
                            · simp only [Act.put, List.setIfInBounds_toArray, List.set_cons_zero, List.set_cons_succ, i64_w, i32_w]
                              rfl
                            refine pure_ (i := 4) (N := some 68) (v := ?_) (a' := ?_) #[true, true, true, true, true, false, false, false, false, false, false, false, false, false, false, false, false, false, false, false, false] rfl rfl (any_of HT_.out (by kernel_rfl)) (fun _ _ _ h => h) (Or.inl ⟨by rfl, ?_⟩) ?_ ?_
                            rotate_left
                            · intro w'
                              go_simp
                              with_reducible rfl
                            rotate_left
                            · simp only [Act.put, List.setIfInBounds_toArray, List.set_cons_zero, List.set_cons_succ, i64_w, i32_w]
                              rfl
                            refine pure_ (i := 5) (N := some 69) (v := ?_) (a' := ?_) #[true, true, true, true, true, true, false, false, false, false, false, false, false, false, false, false, false, false, false, false, false] rfl rfl (any_of HT_.out (by kernel_rfl)) (fun _ _ _ h => h) (Or.inl ⟨by rfl, ?_⟩) ?_ ?_
                            rotate_left
                            · intro w'
                              go_simp
                              with_reducible rfl
                            rotate_left
                            · simp only [Act.put, List.setIfInBounds_toArray, List.set_cons_zero, List.set_cons_succ, i64_w, i32_w]
                              rfl
                            refine pure_ (i := 6) (N := some 70) (v := ?_) (a' := ?_) #[true, true, true, true, true, true, true, false, false, false, false, false, false, false, false, false, false, false, false, false, false] rfl rfl (any_of HT_.out (by kernel_rfl)) (fun _ _ _ h => h) (Or.inl ⟨by rfl, ?_⟩) ?_ ?_
                            rotate_left
                            · intro w'
                              go_simp
                              with_reducible rfl
                            rotate_left
                            · simp only [Act.put, List.setIfInBounds_toArray, List.set_cons_zero, List.set_cons_succ, i64_w, i32_w]
                              rfl
                            refine pure_ (i := 7) (N := some 71) (v := ?_) (a' := ?_) #[true, true, true, true, true, true, true, true, false, false, false, false, false, false, false, false, false, false, false, false, false] rfl rfl (any_of HT_.out (by kernel_rfl)) (fun _ _ _ h => h) (Or.inl ⟨by rfl, ?_⟩) ?_ ?_
                            rotate_left
                            · intro w'
                              go_simp
                              with_reducible rfl
                            rotate_left
                            · simp only [Act.put, List.setIfInBounds_toArray, List.set_cons_zero, List.set_cons_succ, i64_w, i32_w]
                              rfl
                            refine pure_ (i := 8) (N := some 72) (v := ?_) (a' := ?_) #[true, true, true, true, true, true, true, true, true, false, false, false, false, false, false, false, false, false, false, false, false] rfl rfl (any_of HT_.out (by kernel_rfl)) (fun _ _ _ h => h) (Or.inl ⟨by rfl, ?_⟩) ?_ ?_
                            rotate_left
                            · intro w'
                              go_simp
                              with_reducible rfl
                            rotate_left
                            · simp only [Act.put, List.setIfInBounds_toArray, List.set_cons_zero, List.set_cons_succ, i64_w, i32_w]
                              rfl
                            refine pure_ (i := 9) (N := some 73) (v := ?_) (a' := ?_) #[true, true, true, true, true, true, true, true, true, true, false, false, false, false, false, false, false, false, false, false, false] rfl rfl (any_of HT_.out (by kernel_rfl)) (fun _ _ _ h => h) (Or.inl ⟨by rfl, ?_⟩) ?_ ?_
                            rotate_left
                            · intro w'
                              go_simp
                              with_reducible rfl
                            rotate_left
                            · simp only [Act.put, List.setIfInBounds_toArray, List.set_cons_zero, List.set_cons_succ, i64_w, i32_w]
                              rfl
                            refine pure_ (i := 10) (N := some 74) (v := ?_) (a' := ?_) #[true, true, true, true, true, true, true, true, true, true, true, false, false, false, false, false, false, false, false, false, false] rfl rfl (any_of HT_.out (by kernel_rfl)) (fun _ _ _ h => h) (Or.inl ⟨by rfl, ?_⟩) ?_ ?_
                            rotate_left
                            · intro w'
                              go_simp
                              with_reducible rfl
                            rotate_left
                            · simp only [Act.put, List.setIfInBounds_toArray, List.set_cons_zero, List.set_cons_succ, i64_w, i32_w]
                              rfl
                            refine pure_ (i := 11) (N := some 75) (v := ?_) (a' := ?_) #[true, true, true, true, true, true, true, true, true, true, true, true, false, false, false, false, false, false, false, false, false] rfl rfl (any_of HT_.out (by kernel_rfl)) (fun _ _ _ h => h) (Or.inl ⟨by rfl, ?_⟩) ?_ ?_
                            rotate_left
                            · intro w'
                              go_simp
                              with_reducible rfl
                            rotate_left
                            · simp only [Act.put, List.setIfInBounds_toArray, List.set_cons_zero, List.set_cons_succ, i64_w, i32_w]
                              rfl
                            refine pure_ (i := 12) (N := some 76) (v := ?_) (a' := ?_) #[true, true, true, true, true, true, true, true, true, true, true, true, true, false, false, false, false, false, false, false, false] rfl rfl (any_of HT_.out (by kernel_rfl)) (fun _ _ _ h => h) (Or.inl ⟨by rfl, ?_⟩) ?_ ?_
                            rotate_left
                            · intro w'
                              go_simp
                              with_reducible rfl
                            rotate_left
                            · simp only [Act.put, List.setIfInBounds_toArray, List.set_cons_zero, List.set_cons_succ, i64_w, i32_w]
                              rfl
                            refine pure_ (i := 14) (N := some 78) (v := ?_) (a' := ?_) #[true, true, true, true, true, true, true, true, true, true, true, true, true, false, true, false, false, false, false, false, false] rfl rfl (any_of HT_.out (by kernel_rfl)) (fun _ _ _ h => h) (Or.inl ⟨by rfl, ?_⟩) ?_ ?_
                            rotate_left
                            · intro w'
                              go_simp
                              with_reducible rfl
                            rotate_left
                            · simp only [Act.put, List.setIfInBounds_toArray, List.set_cons_zero, List.set_cons_succ, i64_w, i32_w]
                              rfl
                            refine pure_ (i := 15) (N := some 79) (v := ?_) (a' := ?_) #[true, true, true, true, true, true, true, true, true, true, true, true, true, false, true, true, false, false, false, false, false] rfl rfl (any_of HT_.out (by kernel_rfl)) (fun _ _ _ h => h) (Or.inl ⟨by rfl, ?_⟩) ?_ ?_
                            rotate_left
                            · intro w'
                              go_simp
                              with_reducible rfl
                            rotate_left
                            · simp only [Act.put, List.setIfInBounds_toArray, List.set_cons_zero, List.set_cons_succ, i64_w, i32_w]
                              rfl
                            refine pure_ (i := 16) (N := some 80) (v := ?_) (a' := ?_) #[true, true, true, true, true, true, true, true, true, true, true, true, true, false, true, true, true, false, false, false, false] rfl rfl (any_of HT_.out (by kernel_rfl)) (fun _ _ _ h => h) (Or.inl ⟨by rfl, ?_⟩) ?_ ?_
                            rotate_left
                            · intro w'
                              go_simp
                              with_reducible rfl
                            rotate_left
                            · simp only [Act.put, List.setIfInBounds_toArray, List.set_cons_zero, List.set_cons_succ, i64_w, i32_w]
                              rfl
                            refine take_ (i := 13) (N := some 77) (v := ?_) (a' := ?_) #[true, true, true, true, true, true, true, true, true, true, true, true, true, true, true, true, true, false, false, false, false] rfl rfl (take_ofW HT_.out HW_.out (by kernel_rfl)) (fun _ _ _ h => h) (Or.inl ⟨by rfl, ?_⟩) hHeld ?_ ?_
                            rotate_left
                            · rintro w' ⟨s0, s1, s2, s3, s4, s5⟩
                              go_simp
                              with_reducible rfl
                            rotate_left
                            · simp only [Act.put, List.setIfInBounds_toArray, List.set_cons_zero, List.set_cons_succ, i64_w, i32_w]
                              rfl
                            refine take_ (i := 17) (N := some 81) (v := ?_) (a' := ?_) #[true, true, true, true, true, true, true, true, true, true, true, true, true, true, true, true, true, true, false, false, false] rfl rfl (take_ofW HT_.out HW_.out (by kernel_rfl)) (fun _ _ _ h => h) (Or.inl ⟨by rfl, ?_⟩) hHeld ?_ ?_
                            rotate_left
                            · rintro w' ⟨s0, s1, s2, s3, s4, s5⟩
                              go_simp
                              with_reducible rfl
                            rotate_left
                            · simp only [Act.put, List.setIfInBounds_toArray, List.set_cons_zero, List.set_cons_succ, i64_w, i32_w]
                              rfl
                            refine one_ (i := 18) (N := some 82) #[true, true, true, true, true, true, true, true, true, true, true, true, true, true, true, true, true, true, true, false, false] rfl rfl (one_of HT_.out (by kernel_rfl)) (by decide) (fun K hK => ?_)
                            refine goes_ Try.func20 (by kernel_rfl) rfl #[.agg #[.bool t571, .slice Ao67 t572.length co67, .slice Ao68 t575.length co68], .agg #[.bool ((rd_T25 l0 x7_2).f0), .slice A581_1 ((rd_T25 l0 x7_2).f1).length c581_1, .slice A581_2 ((rd_T25 l0 x7_2).f2).length c581_2]] (by rfl) rfl rfl zw6 ?_
                            with_reducible refine (moraineref4_Same.calls k2 t571 _ _ t572 _ _ t575 ((rd_T25 l0 x7_2).f0) _ _ ((rd_T25 l0 x7_2).f1) _ _ ((rd_T25 l0 x7_2).f2) false _ ?side1 ?side2 ?side3 ?side4 ?side5 ?side6 ?side7 ?side8 A49.out).mono ?_
                            (case side1 => exact zw9 HO574.out)
                            (case side2 => exact (Kd.R_reads' HO574.out).2.1)
                            (case side3 => exact zw9 HO577.out)
                            (case side4 => exact (Kd.R_reads' HO577.out).2.1)
                            (case side5 => exact zw4 HR581_1.out HB.out)
                            (case side6 => exact HC581_1.out)
                            (case side7 => exact zw4 HR581_2.out HB.out)
                            (case side8 => exact HC581_2.out)
                            rintro e w71 ⟨rfl, hb⟩
                            refine ⟨_, rfl, ?_⟩
                            have n0_ := Aside0.mk (Kd.Q_below (zw16 HO_3.out) hb)
                            have n1_ := Aside0.mk (Kd.R_below (zw1 HO574.out) hb)
                            have n2_ := Aside0.mk (Kd.R_below (zw1 HO577.out) hb)
                            have n3_ := Aside0.mk (blk_below (g := gb580) (o := .cells #[.bool t571, .slice Ao67 t572.length co67, .slice Ao68 t575.length co68] 25 (0, 0)) (zw0 BK580.out) hb)
                            have n4_ := Aside0.mk (below_step (zw3 HB.out GE580.out) hb)
                            clear HO_3
                            clear HO574
                            clear HO577
                            clear BK580
                            clear HB
                            have HO_3 := n0_
                            have HO574 := n1_
                            have HO577 := n2_
                            have BK580 := n3_
                            have HB := n4_
                            clear n0_ n1_ n2_ n3_ n4_
                            (try clear hb)
                            (try clear hb2)
                            (try clear hk)
                            (try clear hi)
                            refine hK.out _ _ ⟨(blk_cell BK580.out 0).trans rfl, (blk_cell BK580.out 1).trans rfl, (blk_cell BK580.out 2).trans rfl, ((HB.out.cell (World.block_lt_of_cell? w _ hw581_0)).trans hw581_0), ((HB.out.cell (World.block_lt_of_cell? w _ hw581_1)).trans hw581_1), ((HB.out.cell (World.block_lt_of_cell? w _ hw581_2)).trans hw581_2)⟩ (fun hHeld => ?_)
                            clear hK K
                            refine norm_ (a' := ?_) ?_ ?_
                            rotate_left
                            · show Act.put _ (some 82) _ = _
                              simp only [Act.put, List.setIfInBounds_toArray, List.set_cons_zero, List.set_cons_succ, i64_w, i32_w]
                              rfl
                            refine pure_ (i := 19) (N := some 83) (v := ?_) (a' := ?_) #[true, true, true, true, true, true, true, true, true, true, true, true, true, true, true, true, true, true, true, true, false] rfl rfl (any_of HT_.out (by kernel_rfl)) (fun _ _ _ h => h) (Or.inl ⟨by rfl, ?_⟩) ?_ ?_
                            rotate_left
                            · intro w'
                              go_simp
                              with_reducible rfl
                            rotate_left
                            · simp only [Act.put, List.setIfInBounds_toArray, List.set_cons_zero, List.set_cons_succ, i64_w, i32_w]
                              rfl
                            refine pure_ (i := 20) (N := some 84) (v := ?_) (a' := ?_) #[true, true, true, true, true, true, true, true, true, true, true, true, true, true, true, true, true, true, true, true, true] rfl rfl (any_of HT_.out (by kernel_rfl)) (fun _ _ _ h => h) (Or.inl ⟨by rfl, ?_⟩) ?_ ?_
                            rotate_left
                            · intro w'
                              go_simp
                              with_reducible rfl
                            rotate_left
                            · simp only [Act.put, List.setIfInBounds_toArray, List.set_cons_zero, List.set_cons_succ, i64_w, i32_w]
                              rfl
                            refine done_ (done_of HT_.out (by kernel_rfl)) ?_
                            try go_wp2
                            go_ret
                            exact ⟨by first | rfl | (simp [errW_none, errW_some] <;> rfl) | (simp [*, errW_none, errW_some] <;> rfl), by repeat (first | (with_reducible first | exact HB.out | apply below_alloc | apply pw_below_drewN | apply below_drew1 | refine below_set ?_ GE580.out) | exact HB.out)⟩
                        · rw [if_neg c48] at H
                          exact absurd H (by simp)
                  · rw [if_neg c29] at H
                    have c29b0 : (t579 == 0) = false := beq_eq_false_iff_ne.mpr c29
                    have c29b1 : (t579 != 0) = true := bne_iff_ne.mpr c29
                    obtain rfl := Option.some.inj H
                    obtain ⟨Ao72, co72, eo72, _⟩ := Kd.Q_slice HO_3.out
                    subst eo72
                    try go_wp2_with (first | ((with_reducible refine gate_callee (f := 17) rfl ?_); refine goesL_ (some 60) rfl rfl Try.func17 (by kernel_rfl) rfl #[.slice Ao72 x3_2.length co72] rfl zw6 ?_; (with_reducible refine (rlp_First.calls k2 _ _ x3_2 t571 t572 t575 t578 t579 _ ?side1 ?side2 A28.out).mono ?_); (case side1 => exact zw32 HO_3.out); (case side2 => exact (Kd.Q_reads' HO_3.out).2.1); rintro e w73 ⟨v573, v576, rfl, ho0, ho1, hb⟩; refine ⟨_, rfl, ?_⟩; have n0_ := Aside0.mk (Kd.Q_elder' (zw16 HO_3.out) (Kd.R_base ho0) hb); have n1_ := Aside0.mk (Kd.R_lower (Kd.R_new' ho0 (Kd.Q_lt (zw16 HO_3.out))) (below_size (zw2 HB.out))); have n2_ := Aside0.mk (Kd.R_lower (Kd.R_new' ho1 (Kd.Q_lt (zw16 HO_3.out))) (below_size (zw2 HB.out))); have n3_ := Aside0.mk (below_step (zw2 HB.out) hb); clear HO_3; clear HB; have HO_3 := n0_; have HO574 := n1_; have HO577 := n2_; have HB := n3_; clear n0_ n1_ n2_ n3_; (try clear hb); (try clear hb2); (try clear hk); (try clear hi); (try clear ho0); (try clear ho1)) | ((with_reducible refine gate_dst (N := 8) rfl ?_); (try (refine gate_guard (by rfl) ?_; dsimp only)); refine box_event ?hg (N := 8) ?hd (cs := #[.bool false, .slice none 0 0, .slice none 0 0]) (t := 25) ?hr ?_; (case hd => rfl); (case hg => rfl); (case hr => first | (go_simp; done) | (go_simp; rfl)); intro gb580 hg w74 hbox hb; have n0_ := Aside0.mk (Kd.Q_below (zw16 HO_3.out) hb); have n1_ := Aside0.mk (Kd.R_below (zw1 HO574.out) hb); have n2_ := Aside0.mk (Kd.R_below (Kd.R_elderB (zw1 HO577.out) gb580 (Nat.le_of_eq hg.symm)) hb); have n3_ := Aside0.mk (below_step (zw2 HB.out) hb); have n4_ := Aside0.mk (hbox); have n5_ := Aside0.mk ((by rw [hg]; exact (below_size (zw2 HB.out)) : w.heap.size ≤ gb580)); have n6_ := Aside0.mk ((by rw [hg]; exact (below_size (zw2 HB.out)) : w.heap.size ≤ gb580)); clear HO_3; clear HO574; clear HO577; clear HB; have HO_3 := n0_; have HO574 := n1_; have HO577 := n2_; have HB := n3_; have BK580 := n4_; have GW580 := n5_; have GE580 := n6_; clear n0_ n1_ n2_ n3_ n4_ n5_ n6_; clear hb hbox hg; have hcz75_0 : w74.cell? ⟨gb580, 0, none⟩ = some (.bool false) := (blk_cell BK580.out 0).trans rfl; have hcz75_1 : w74.cell? ⟨gb580, 1, none⟩ = some (.slice none 0 0) := (blk_cell BK580.out 1).trans rfl; have hcz75_2 : w74.cell? ⟨gb580, 2, none⟩ = some (.slice none 0 0) := (blk_cell BK580.out 2).trans rfl; have hfz75_0 := blk_frozen BK580.out 0; have hfz75_1 := blk_frozen BK580.out 1; have hfz75_2 := blk_frozen BK580.out 2; obtain ⟨Ao76, co76, eo76⟩ := Kd.R_slice HO574.out; subst eo76; obtain ⟨Ao77, co77, eo77⟩ := Kd.R_slice HO577.out; subst eo77))
                    have n0_ : Aside0 (Kd.Q (Kd.int .u8) 5 (((w74.setCell ⟨gb580, 0, none⟩ (.bool t571)).setCell ⟨gb580, 1, none⟩ (.slice Ao76 t572.length co76)).setCell ⟨gb580, 2, none⟩ (.slice Ao77 t575.length co77)) w.heap.size (fun k_ => some k_ ≠ (.slice Ao76 t572.length co76 : Value).ownBlock) (.slice Ao72 x3_2.length co72) x3_2) := ⟨by (with_reducible repeat (first | apply Kd.Q_alloc | apply Kd.Q_drewN | apply Kd.Q_drew)); exact Kd.Q_mono (Kd.Q_far (p := ⟨gb580, 2, none⟩) (Kd.Q_far (p := ⟨gb580, 1, none⟩) (Kd.Q_far (p := ⟨gb580, 0, none⟩) (Kd.Q_types HO_3.out BK580.out (by decide)) (fun _ hk => hk.2) (.bool t571)) (fun _ hk => hk.2) (.slice Ao76 t572.length co76)) (fun _ hk => hk.2) (.slice Ao77 t575.length co77)) (fun _ hk => hk.1.2)⟩
                    have n1_ : Aside0 (Kd.R (Kd.int .u8) 5 (((w74.setCell ⟨gb580, 0, none⟩ (.bool t571)).setCell ⟨gb580, 1, none⟩ (.slice Ao76 t572.length co76)).setCell ⟨gb580, 2, none⟩ (.slice Ao77 t575.length co77)) w.heap.size (fun k_ => some k_ ≠ (.slice Ao72 x3_2.length co72 : Value).ownBlock) (.slice Ao76 t572.length co76) t572) := ⟨by (with_reducible repeat (first | apply Kd.R_alloc | apply Kd.R_drewN | apply Kd.R_drew)); exact Kd.R_mono (Kd.R_far (p := ⟨gb580, 2, none⟩) (Kd.R_far (p := ⟨gb580, 1, none⟩) (Kd.R_far (p := ⟨gb580, 0, none⟩) (Kd.R_types HO574.out BK580.out (by decide)) (fun _ hk => hk.2) (.bool t571)) (fun _ hk => hk.2) (.slice Ao76 t572.length co76)) (fun _ hk => hk.2) (.slice Ao77 t575.length co77)) (fun _ hk => hk.1.2)⟩
                    have n2_ : Aside0 (Kd.R k25 25 (((w74.setCell ⟨gb580, 0, none⟩ (.bool t571)).setCell ⟨gb580, 1, none⟩ (.slice Ao76 t572.length co76)).setCell ⟨gb580, 2, none⟩ (.slice Ao77 t575.length co77)) w.heap.size (fun k_ => some k_ ≠ (.slice Ao72 x3_2.length co72 : Value).ownBlock ∧ some k_ ≠ (.slice Ao76 t572.length co76 : Value).ownBlock ∧ k_ ≠ gb580) (.slice Ao77 t575.length co77) t575) := ⟨by (with_reducible repeat (first | apply Kd.R_alloc | apply Kd.R_drewN | apply Kd.R_drew)); exact Kd.R_mono (Kd.R_far (p := ⟨gb580, 2, none⟩) (Kd.R_far (p := ⟨gb580, 1, none⟩) (Kd.R_far (p := ⟨gb580, 0, none⟩) (Kd.R_mono HO577.out (fun k_ hk => (⟨hk, hk.2⟩ : _ ∧ k_ ≠ gb580))) (fun _ hk => hk.2) (.bool t571)) (fun _ hk => hk.2) (.slice Ao76 t572.length co76)) (fun _ hk => hk.2) (.slice Ao77 t575.length co77)) (fun _ hk => ⟨hk.1.1.2, ⟨hk.1.1.1, hk.1.2⟩⟩)⟩
                    have n3_ : Aside0 ((((w74.setCell ⟨gb580, 0, none⟩ (.bool t571)).setCell ⟨gb580, 1, none⟩ (.slice Ao76 t572.length co76)).setCell ⟨gb580, 2, none⟩ (.slice Ao77 t575.length co77)).heap[gb580]? = some (.cells #[.bool t571, .slice Ao76 t572.length co76, .slice Ao77 t575.length co77] 25 (0, 0))) := ⟨by (with_reducible repeat (first | refine blk_drewN ?_ _ | refine blk_drew ?_ | refine blk_alloc ?_ _)); refine blk_put (cs := #[.bool t571, .slice Ao76 t572.length co76, .slice none 0 0]) ?_ 2 _ rfl; (with_reducible repeat (first | refine blk_drewN ?_ _ | refine blk_drew ?_ | refine blk_alloc ?_ _)); refine blk_put (cs := #[.bool t571, .slice none 0 0, .slice none 0 0]) ?_ 1 _ rfl; (with_reducible repeat (first | refine blk_drewN ?_ _ | refine blk_drew ?_ | refine blk_alloc ?_ _)); refine blk_put (cs := #[.bool false, .slice none 0 0, .slice none 0 0]) ?_ 0 _ rfl; (with_reducible repeat (first | refine blk_drewN ?_ _ | refine blk_drew ?_ | refine blk_alloc ?_ _)); exact BK580.out⟩
                    have n4_ : Aside0 (Below w.heap.size w (((w74.setCell ⟨gb580, 0, none⟩ (.bool t571)).setCell ⟨gb580, 1, none⟩ (.slice Ao76 t572.length co76)).setCell ⟨gb580, 2, none⟩ (.slice Ao77 t575.length co77))) := ⟨by repeat (first | (with_reducible first | exact HB.out | apply below_alloc | apply pw_below_drewN | apply below_drew1 | refine below_set ?_ GE580.out) | exact HB.out)⟩
                    (try clear HO_3)
                    (try clear HO574)
                    (try clear HO577)
                    (try clear BK580)
                    (try clear HB)
                    generalize (((w74.setCell ⟨gb580, 0, none⟩ (.bool t571)).setCell ⟨gb580, 1, none⟩ (.slice Ao76 t572.length co76)).setCell ⟨gb580, 2, none⟩ (.slice Ao77 t575.length co77)) = w78 at n0_ n1_ n2_ n3_ n4_ ⊢
                    have HO_3 := n0_
                    have HO574 := n1_
                    have HO577 := n2_
                    have BK580 := n3_
                    have HB := n4_
                    clear n0_ n1_ n2_ n3_ n4_
                    have n0_ := Aside0.mk (Kd.Q_drew HO_3.out)
                    have n1_ := Aside0.mk (Kd.R_drew HO574.out)
                    have n2_ := Aside0.mk (Kd.R_drew HO577.out)
                    have n3_ := Aside0.mk (blk_drew BK580.out)
                    have n4_ := Aside0.mk (below_drew1 HB.out)
                    clear HO_3
                    clear HO574
                    clear HO577
                    clear BK580
                    clear HB
                    have HO_3 := n0_
                    have HO574 := n1_
                    have HO577 := n2_
                    have BK580 := n3_
                    have HB := n4_
                    clear n0_ n1_ n2_ n3_ n4_
                    refine start_ (n := 21) (S := fun w' => True) (ds := []) #[false, false, false, false, false, false, false, false, false, false, false, false, false, false, false, false, false, false, false, false, false] (by kernel_rfl) rfl rfl trivial (fun hHeld => ?_); refine with_tabW morainelaw4_RlpStream.tab19 morainelaw4_RlpStream.bits19 (fun HT_ HW_ => ?_)
                    generalize w78.drew = w79 at HO_3 HO574 HO577 BK580 HB hHeld ⊢
                    refine pure_ (i := 0) (N := some 64) (v := ?_) (a' := ?_) #[true, false, false, false, false, false, false, false, false, false, false, false, false, false, false, false, false, false, false, false, false] rfl rfl (any_of HT_.out (by kernel_rfl)) (fun _ _ _ h => h) (Or.inl ⟨by rfl, ?_⟩) ?_ ?_
                    rotate_left
                    · intro w'
                      go_simp
                      with_reducible rfl
                    rotate_left
                    · simp only [Act.put, List.setIfInBounds_toArray, List.set_cons_zero, List.set_cons_succ, i64_w, i32_w]
                      rfl
                    refine pure_ (i := 1) (N := some 65) (v := ?_) (a' := ?_) #[true, true, false, false, false, false, false, false, false, false, false, false, false, false, false, false, false, false, false, false, false] rfl rfl (any_of HT_.out (by kernel_rfl)) (fun _ _ _ h => h) (Or.inl ⟨by rfl, ?_⟩) ?_ ?_
                    rotate_left
                    · intro w'
                      go_simp
                      with_reducible rfl
                    rotate_left
                    · simp only [Act.put, List.setIfInBounds_toArray, List.set_cons_zero, List.set_cons_succ, i64_w, i32_w]
                      rfl
                    refine pure_ (i := 2) (N := some 66) (v := ?_) (a' := ?_) #[true, true, true, false, false, false, false, false, false, false, false, false, false, false, false, false, false, false, false, false, false] rfl rfl (any_of HT_.out (by kernel_rfl)) (fun _ _ _ h => h) (Or.inl ⟨by rfl, ?_⟩) ?_ ?_
                    rotate_left
                    · intro w'
                      go_simp
                      with_reducible rfl
                    rotate_left
                    · simp only [Act.put, List.setIfInBounds_toArray, List.set_cons_zero, List.set_cons_succ, i64_w, i32_w]
                      rfl
                    refine pure_ (i := 3) (N := some 67) (v := undef) (a' := ?_) #[true, true, true, true, false, false, false, false, false, false, false, false, false, false, false, false, false, false, false, false, false] rfl rfl (any_of HT_.out (by kernel_rfl)) (fun _ _ _ h => h) (Or.inr ⟨by rfl, rfl⟩) ?_ ?_
                    rotate_left
                    · simp only [Act.put, List.setIfInBounds_toArray, List.set_cons_zero, List.set_cons_succ, i64_w, i32_w]
                      rfl
                    refine pure_ (i := 4) (N := some 68) (v := undef) (a' := ?_) #[true, true, true, true, true, false, false, false, false, false, false, false, false, false, false, false, false, false, false, false, false] rfl rfl (any_of HT_.out (by kernel_rfl)) (fun _ _ _ h => h) (Or.inr ⟨by rfl, rfl⟩) ?_ ?_
                    rotate_left
                    · simp only [Act.put, List.setIfInBounds_toArray, List.set_cons_zero, List.set_cons_succ, i64_w, i32_w]
                      rfl
                    refine pure_ (i := 5) (N := some 69) (v := ?_) (a' := ?_) #[true, true, true, true, true, true, false, false, false, false, false, false, false, false, false, false, false, false, false, false, false] rfl rfl (any_of HT_.out (by kernel_rfl)) (fun _ _ _ h => h) (Or.inl ⟨by rfl, ?_⟩) ?_ ?_
                    rotate_left
                    · intro w'
                      go_simp
                      with_reducible rfl
                    rotate_left
                    · simp only [Act.put, List.setIfInBounds_toArray, List.set_cons_zero, List.set_cons_succ, i64_w, i32_w]
                      rfl
                    refine pure_ (i := 6) (N := some 70) (v := ?_) (a' := ?_) #[true, true, true, true, true, true, true, false, false, false, false, false, false, false, false, false, false, false, false, false, false] rfl rfl (any_of HT_.out (by kernel_rfl)) (fun _ _ _ h => h) (Or.inl ⟨by rfl, ?_⟩) ?_ ?_
                    rotate_left
                    · intro w'
                      go_simp
                      with_reducible rfl
                    rotate_left
                    · simp only [Act.put, List.setIfInBounds_toArray, List.set_cons_zero, List.set_cons_succ, i64_w, i32_w]
                      rfl
                    refine pure_ (i := 7) (N := some 71) (v := undef) (a' := ?_) #[true, true, true, true, true, true, true, true, false, false, false, false, false, false, false, false, false, false, false, false, false] rfl rfl (any_of HT_.out (by kernel_rfl)) (fun _ _ _ h => h) (Or.inr ⟨by rfl, rfl⟩) ?_ ?_
                    rotate_left
                    · simp only [Act.put, List.setIfInBounds_toArray, List.set_cons_zero, List.set_cons_succ, i64_w, i32_w]
                      rfl
                    refine pure_ (i := 8) (N := some 72) (v := undef) (a' := ?_) #[true, true, true, true, true, true, true, true, true, false, false, false, false, false, false, false, false, false, false, false, false] rfl rfl (any_of HT_.out (by kernel_rfl)) (fun _ _ _ h => h) (Or.inr ⟨by rfl, rfl⟩) ?_ ?_
                    rotate_left
                    · simp only [Act.put, List.setIfInBounds_toArray, List.set_cons_zero, List.set_cons_succ, i64_w, i32_w]
                      rfl
                    refine pure_ (i := 9) (N := some 73) (v := undef) (a' := ?_) #[true, true, true, true, true, true, true, true, true, true, false, false, false, false, false, false, false, false, false, false, false] rfl rfl (any_of HT_.out (by kernel_rfl)) (fun _ _ _ h => h) (Or.inr ⟨by rfl, rfl⟩) ?_ ?_
                    rotate_left
                    · simp only [Act.put, List.setIfInBounds_toArray, List.set_cons_zero, List.set_cons_succ, i64_w, i32_w]
                      rfl
                    refine pure_ (i := 10) (N := some 74) (v := undef) (a' := ?_) #[true, true, true, true, true, true, true, true, true, true, true, false, false, false, false, false, false, false, false, false, false] rfl rfl (any_of HT_.out (by kernel_rfl)) (fun _ _ _ h => h) (Or.inr ⟨by rfl, rfl⟩) ?_ ?_
                    rotate_left
                    · simp only [Act.put, List.setIfInBounds_toArray, List.set_cons_zero, List.set_cons_succ, i64_w, i32_w]
                      rfl
                    refine pure_ (i := 11) (N := some 75) (v := ?_) (a' := ?_) #[true, true, true, true, true, true, true, true, true, true, true, true, false, false, false, false, false, false, false, false, false] rfl rfl (any_of HT_.out (by kernel_rfl)) (fun _ _ _ h => h) (Or.inl ⟨by rfl, ?_⟩) ?_ ?_
                    rotate_left
                    · intro w'
                      go_simp
                      with_reducible rfl
                    rotate_left
                    · simp only [Act.put, List.setIfInBounds_toArray, List.set_cons_zero, List.set_cons_succ, i64_w, i32_w]
                      rfl
                    refine pure_ (i := 12) (N := some 76) (v := ?_) (a' := ?_) #[true, true, true, true, true, true, true, true, true, true, true, true, true, false, false, false, false, false, false, false, false] rfl rfl (any_of HT_.out (by kernel_rfl)) (fun _ _ _ h => h) (Or.inl ⟨by rfl, ?_⟩) ?_ ?_
                    rotate_left
                    · intro w'
                      go_simp
                      with_reducible rfl
                    rotate_left
                    · simp only [Act.put, List.setIfInBounds_toArray, List.set_cons_zero, List.set_cons_succ, i64_w, i32_w]
                      rfl
                    refine pure_ (i := 13) (N := some 77) (v := undef) (a' := ?_) #[true, true, true, true, true, true, true, true, true, true, true, true, true, true, false, false, false, false, false, false, false] rfl rfl (any_of HT_.out (by kernel_rfl)) (fun _ _ _ h => h) (Or.inr ⟨by rfl, rfl⟩) ?_ ?_
                    rotate_left
                    · simp only [Act.put, List.setIfInBounds_toArray, List.set_cons_zero, List.set_cons_succ, i64_w, i32_w]
                      rfl
                    refine pure_ (i := 14) (N := some 78) (v := undef) (a' := ?_) #[true, true, true, true, true, true, true, true, true, true, true, true, true, true, true, false, false, false, false, false, false] rfl rfl (any_of HT_.out (by kernel_rfl)) (fun _ _ _ h => h) (Or.inr ⟨by rfl, rfl⟩) ?_ ?_
                    rotate_left
                    · simp only [Act.put, List.setIfInBounds_toArray, List.set_cons_zero, List.set_cons_succ, i64_w, i32_w]
                      rfl
                    refine pure_ (i := 15) (N := some 79) (v := undef) (a' := ?_) #[true, true, true, true, true, true, true, true, true, true, true, true, true, true, true, true, false, false, false, false, false] rfl rfl (any_of HT_.out (by kernel_rfl)) (fun _ _ _ h => h) (Or.inr ⟨by rfl, rfl⟩) ?_ ?_
                    rotate_left
                    · simp only [Act.put, List.setIfInBounds_toArray, List.set_cons_zero, List.set_cons_succ, i64_w, i32_w]
                      rfl
                    refine pure_ (i := 16) (N := some 80) (v := undef) (a' := ?_) #[true, true, true, true, true, true, true, true, true, true, true, true, true, true, true, true, true, false, false, false, false] rfl rfl (any_of HT_.out (by kernel_rfl)) (fun _ _ _ h => h) (Or.inr ⟨by rfl, rfl⟩) ?_ ?_
                    rotate_left
                    · simp only [Act.put, List.setIfInBounds_toArray, List.set_cons_zero, List.set_cons_succ, i64_w, i32_w]
                      rfl
                    refine pure_ (i := 17) (N := some 81) (v := undef) (a' := ?_) #[true, true, true, true, true, true, true, true, true, true, true, true, true, true, true, true, true, true, false, false, false] rfl rfl (any_of HT_.out (by kernel_rfl)) (fun _ _ _ h => h) (Or.inr ⟨by rfl, rfl⟩) ?_ ?_
                    rotate_left
                    · simp only [Act.put, List.setIfInBounds_toArray, List.set_cons_zero, List.set_cons_succ, i64_w, i32_w]
                      rfl
                    refine pure_ (i := 18) (N := some 82) (v := undef) (a' := ?_) #[true, true, true, true, true, true, true, true, true, true, true, true, true, true, true, true, true, true, true, false, false] rfl rfl (any_of HT_.out (by kernel_rfl)) (fun _ _ _ h => h) (Or.inr ⟨by rfl, rfl⟩) ?_ ?_
                    rotate_left
                    · simp only [Act.put, List.setIfInBounds_toArray, List.set_cons_zero, List.set_cons_succ, i64_w, i32_w]
                      rfl
                    refine pure_ (i := 19) (N := some 83) (v := undef) (a' := ?_) #[true, true, true, true, true, true, true, true, true, true, true, true, true, true, true, true, true, true, true, true, false] rfl rfl (any_of HT_.out (by kernel_rfl)) (fun _ _ _ h => h) (Or.inr ⟨by rfl, rfl⟩) ?_ ?_
                    rotate_left
                    · simp only [Act.put, List.setIfInBounds_toArray, List.set_cons_zero, List.set_cons_succ, i64_w, i32_w]
                      rfl
                    refine pure_ (i := 20) (N := some 84) (v := ?_) (a' := ?_) #[true, true, true, true, true, true, true, true, true, true, true, true, true, true, true, true, true, true, true, true, true] rfl rfl (any_of HT_.out (by kernel_rfl)) (fun _ _ _ h => h) (Or.inl ⟨by rfl, ?_⟩) ?_ ?_
                    rotate_left
                    · intro w'
                      go_simp
                      with_reducible rfl
                    rotate_left
                    · simp only [Act.put, List.setIfInBounds_toArray, List.set_cons_zero, List.set_cons_succ, i64_w, i32_w]
                      rfl
                    refine done_ (done_of HT_.out (by kernel_rfl)) ?_
                    try go_wp2
                    go_ret
                    exact ⟨by first | rfl | (simp [errW_none, errW_some] <;> rfl) | (simp [*, errW_none, errW_some] <;> rfl), by repeat (first | (with_reducible first | exact HB.out | apply below_alloc | apply pw_below_drewN | apply below_drew1 | refine below_set ?_ GE580.out) | exact HB.out)⟩
                · rw [if_neg c27] at H
                  have c27b0 : decide (x7_2 < (l0.length : Int)) = false := decide_eq_false c27
                  clear c27
                  replace H := Option.bind_eq_some_iff.mp H
                  obtain ⟨⟨t561, t562, t565, t568, t569⟩, A800, H⟩ := H
                  replace H : (if (x3_2.length : Int) = 0 then (if t568 = 0 then (some (t569 == 41)) else (some false)) else (some false)) = some r := H
                  have A80 := Aside0.mk A800
                  clear A800
                  by_cases c81 : (x3_2.length : Int) = 0
                  · rw [if_pos c81] at H
                    have c81b0 : ((x3_2.length : Int) == 0) = true := beq_iff_eq.mpr c81
                    have c81b1 : ((x3_2.length : Int) != 0) = false := bne_eq_false_iff_eq.mpr c81
                    clear c81
                    by_cases c82 : t568 = 0
                    · rw [if_pos c82] at H
                      have c82b0 : (t568 == 0) = true := beq_iff_eq.mpr c82
                      have c82b1 : (t568 != 0) = false := bne_eq_false_iff_eq.mpr c82
                      clear c82
                      obtain rfl := Option.some.inj H
                      obtain ⟨Ao83, co83, eo83, _⟩ := Kd.Q_slice HO_3.out
                      subst eo83
                      go_wp2_with (first | ((with_reducible refine gate_callee (f := 17) rfl ?_); refine goesL_ (some 90) rfl rfl Try.func17 (by kernel_rfl) rfl #[.slice Ao83 x3_2.length co83] rfl zw6 ?_; (with_reducible refine (rlp_First.calls k2 _ _ x3_2 t561 t562 t565 t568 t569 _ ?side1 ?side2 A80.out).mono ?_); (case side1 => exact zw32 HO_3.out); (case side2 => exact (Kd.Q_reads' HO_3.out).2.1); rintro e w84 ⟨v563, v566, rfl, ho0, ho1, hb⟩; refine ⟨_, rfl, ?_⟩; have n0_ := Aside0.mk (Kd.Q_elder' (zw16 HO_3.out) (Kd.R_base ho0) hb); have n1_ := Aside0.mk (Kd.R_lower (Kd.R_new' ho0 (Kd.Q_lt (zw16 HO_3.out))) (below_size (zw2 HB.out))); have n2_ := Aside0.mk (Kd.R_lower (Kd.R_new' ho1 (Kd.Q_lt (zw16 HO_3.out))) (below_size (zw2 HB.out))); have n3_ := Aside0.mk (below_step (zw2 HB.out) hb); clear HO_3; clear HB; have HO_3 := n0_; have HO564 := n1_; have HO567 := n2_; have HB := n3_; clear n0_ n1_ n2_ n3_; (try clear hb); (try clear hb2); (try clear hk); (try clear hi); (try clear ho0); (try clear ho1)) | ((with_reducible refine gate_dst (N := 11) rfl ?_); (try (refine gate_guard (by rfl) ?_; dsimp only)); refine box_event ?hg (N := 11) ?hd (cs := #[.bool false, .slice none 0 0, .slice none 0 0]) (t := 25) ?hr ?_; (case hd => rfl); (case hg => rfl); (case hr => first | (go_simp; done) | (go_simp; rfl)); intro gb570 hg w85 hbox hb; have n0_ := Aside0.mk (Kd.Q_below (zw16 HO_3.out) hb); have n1_ := Aside0.mk (Kd.R_below (zw1 HO564.out) hb); have n2_ := Aside0.mk (Kd.R_below (Kd.R_elderB (zw1 HO567.out) gb570 (Nat.le_of_eq hg.symm)) hb); have n3_ := Aside0.mk (below_step (zw2 HB.out) hb); have n4_ := Aside0.mk (hbox); have n5_ := Aside0.mk ((by rw [hg]; exact (below_size (zw2 HB.out)) : w.heap.size ≤ gb570)); have n6_ := Aside0.mk ((by rw [hg]; exact (below_size (zw2 HB.out)) : w.heap.size ≤ gb570)); clear HO_3; clear HO564; clear HO567; clear HB; have HO_3 := n0_; have HO564 := n1_; have HO567 := n2_; have HB := n3_; have BK570 := n4_; have GW570 := n5_; have GE570 := n6_; clear n0_ n1_ n2_ n3_ n4_ n5_ n6_; clear hb hbox hg; have hcz86_0 : w85.cell? ⟨gb570, 0, none⟩ = some (.bool false) := (blk_cell BK570.out 0).trans rfl; have hcz86_1 : w85.cell? ⟨gb570, 1, none⟩ = some (.slice none 0 0) := (blk_cell BK570.out 1).trans rfl; have hcz86_2 : w85.cell? ⟨gb570, 2, none⟩ = some (.slice none 0 0) := (blk_cell BK570.out 2).trans rfl; have hfz86_0 := blk_frozen BK570.out 0; have hfz86_1 := blk_frozen BK570.out 1; have hfz86_2 := blk_frozen BK570.out 2; obtain ⟨Ao87, co87, eo87⟩ := Kd.R_slice HO564.out; subst eo87; obtain ⟨Ao88, co88, eo88⟩ := Kd.R_slice HO567.out; subst eo88))
                      go_ret
                      exact ⟨by first | rfl | (simp [errW_none, errW_some] <;> rfl) | (simp [*, errW_none, errW_some] <;> rfl), by repeat (first | (with_reducible first | exact HB.out | apply below_alloc | apply pw_below_drewN | apply below_drew1 | refine below_set ?_ GE570.out) | exact HB.out)⟩
                    · rw [if_neg c82] at H
                      have c82b0 : (t568 == 0) = false := beq_eq_false_iff_ne.mpr c82
                      have c82b1 : (t568 != 0) = true := bne_iff_ne.mpr c82
                      obtain rfl := Option.some.inj H
                      obtain ⟨Ao89, co89, eo89, _⟩ := Kd.Q_slice HO_3.out
                      subst eo89
                      go_wp2_with (first | ((with_reducible refine gate_callee (f := 17) rfl ?_); refine goesL_ (some 90) rfl rfl Try.func17 (by kernel_rfl) rfl #[.slice Ao89 x3_2.length co89] rfl zw6 ?_; (with_reducible refine (rlp_First.calls k2 _ _ x3_2 t561 t562 t565 t568 t569 _ ?side1 ?side2 A80.out).mono ?_); (case side1 => exact zw32 HO_3.out); (case side2 => exact (Kd.Q_reads' HO_3.out).2.1); rintro e w90 ⟨v563, v566, rfl, ho0, ho1, hb⟩; refine ⟨_, rfl, ?_⟩; have n0_ := Aside0.mk (Kd.Q_elder' (zw16 HO_3.out) (Kd.R_base ho0) hb); have n1_ := Aside0.mk (Kd.R_lower (Kd.R_new' ho0 (Kd.Q_lt (zw16 HO_3.out))) (below_size (zw2 HB.out))); have n2_ := Aside0.mk (Kd.R_lower (Kd.R_new' ho1 (Kd.Q_lt (zw16 HO_3.out))) (below_size (zw2 HB.out))); have n3_ := Aside0.mk (below_step (zw2 HB.out) hb); clear HO_3; clear HB; have HO_3 := n0_; have HO564 := n1_; have HO567 := n2_; have HB := n3_; clear n0_ n1_ n2_ n3_; (try clear hb); (try clear hb2); (try clear hk); (try clear hi); (try clear ho0); (try clear ho1)) | ((with_reducible refine gate_dst (N := 11) rfl ?_); (try (refine gate_guard (by rfl) ?_; dsimp only)); refine box_event ?hg (N := 11) ?hd (cs := #[.bool false, .slice none 0 0, .slice none 0 0]) (t := 25) ?hr ?_; (case hd => rfl); (case hg => rfl); (case hr => first | (go_simp; done) | (go_simp; rfl)); intro gb570 hg w91 hbox hb; have n0_ := Aside0.mk (Kd.Q_below (zw16 HO_3.out) hb); have n1_ := Aside0.mk (Kd.R_below (zw1 HO564.out) hb); have n2_ := Aside0.mk (Kd.R_below (Kd.R_elderB (zw1 HO567.out) gb570 (Nat.le_of_eq hg.symm)) hb); have n3_ := Aside0.mk (below_step (zw2 HB.out) hb); have n4_ := Aside0.mk (hbox); have n5_ := Aside0.mk ((by rw [hg]; exact (below_size (zw2 HB.out)) : w.heap.size ≤ gb570)); have n6_ := Aside0.mk ((by rw [hg]; exact (below_size (zw2 HB.out)) : w.heap.size ≤ gb570)); clear HO_3; clear HO564; clear HO567; clear HB; have HO_3 := n0_; have HO564 := n1_; have HO567 := n2_; have HB := n3_; have BK570 := n4_; have GW570 := n5_; have GE570 := n6_; clear n0_ n1_ n2_ n3_ n4_ n5_ n6_; clear hb hbox hg; have hcz92_0 : w91.cell? ⟨gb570, 0, none⟩ = some (.bool false) := (blk_cell BK570.out 0).trans rfl; have hcz92_1 : w91.cell? ⟨gb570, 1, none⟩ = some (.slice none 0 0) := (blk_cell BK570.out 1).trans rfl; have hcz92_2 : w91.cell? ⟨gb570, 2, none⟩ = some (.slice none 0 0) := (blk_cell BK570.out 2).trans rfl; have hfz92_0 := blk_frozen BK570.out 0; have hfz92_1 := blk_frozen BK570.out 1; have hfz92_2 := blk_frozen BK570.out 2; obtain ⟨Ao93, co93, eo93⟩ := Kd.R_slice HO564.out; subst eo93; obtain ⟨Ao94, co94, eo94⟩ := Kd.R_slice HO567.out; subst eo94))
                      go_ret
                      exact ⟨by first | rfl | (simp [errW_none, errW_some] <;> rfl) | (simp [*, errW_none, errW_some] <;> rfl), by repeat (first | (with_reducible first | exact HB.out | apply below_alloc | apply pw_below_drewN | apply below_drew1 | refine below_set ?_ GE570.out) | exact HB.out)⟩
                  · rw [if_neg c81] at H
                    have c81b0 : ((x3_2.length : Int) == 0) = false := beq_eq_false_iff_ne.mpr c81
                    have c81b1 : ((x3_2.length : Int) != 0) = true := bne_iff_ne.mpr c81
                    have c81b2 : ¬ (x3_2 = []) := fun h_ => c81 (by rw [h_]; rfl)
                    obtain rfl := Option.some.inj H
                    obtain ⟨Ao95, co95, eo95, _⟩ := Kd.Q_slice HO_3.out
                    subst eo95
                    go_wp2_with (first | ((with_reducible refine gate_callee (f := 17) rfl ?_); refine goesL_ (some 90) rfl rfl Try.func17 (by kernel_rfl) rfl #[.slice Ao95 x3_2.length co95] rfl zw6 ?_; (with_reducible refine (rlp_First.calls k2 _ _ x3_2 t561 t562 t565 t568 t569 _ ?side1 ?side2 A80.out).mono ?_); (case side1 => exact zw32 HO_3.out); (case side2 => exact (Kd.Q_reads' HO_3.out).2.1); rintro e w96 ⟨v563, v566, rfl, ho0, ho1, hb⟩; refine ⟨_, rfl, ?_⟩; have n0_ := Aside0.mk (Kd.Q_elder' (zw16 HO_3.out) (Kd.R_base ho0) hb); have n1_ := Aside0.mk (Kd.R_lower (Kd.R_new' ho0 (Kd.Q_lt (zw16 HO_3.out))) (below_size (zw2 HB.out))); have n2_ := Aside0.mk (Kd.R_lower (Kd.R_new' ho1 (Kd.Q_lt (zw16 HO_3.out))) (below_size (zw2 HB.out))); have n3_ := Aside0.mk (below_step (zw2 HB.out) hb); clear HO_3; clear HB; have HO_3 := n0_; have HO564 := n1_; have HO567 := n2_; have HB := n3_; clear n0_ n1_ n2_ n3_; (try clear hb); (try clear hb2); (try clear hk); (try clear hi); (try clear ho0); (try clear ho1)) | ((with_reducible refine gate_dst (N := 11) rfl ?_); (try (refine gate_guard (by rfl) ?_; dsimp only)); refine box_event ?hg (N := 11) ?hd (cs := #[.bool false, .slice none 0 0, .slice none 0 0]) (t := 25) ?hr ?_; (case hd => rfl); (case hg => rfl); (case hr => first | (go_simp; done) | (go_simp; rfl)); intro gb570 hg w97 hbox hb; have n0_ := Aside0.mk (Kd.Q_below (zw16 HO_3.out) hb); have n1_ := Aside0.mk (Kd.R_below (zw1 HO564.out) hb); have n2_ := Aside0.mk (Kd.R_below (Kd.R_elderB (zw1 HO567.out) gb570 (Nat.le_of_eq hg.symm)) hb); have n3_ := Aside0.mk (below_step (zw2 HB.out) hb); have n4_ := Aside0.mk (hbox); have n5_ := Aside0.mk ((by rw [hg]; exact (below_size (zw2 HB.out)) : w.heap.size ≤ gb570)); have n6_ := Aside0.mk ((by rw [hg]; exact (below_size (zw2 HB.out)) : w.heap.size ≤ gb570)); clear HO_3; clear HO564; clear HO567; clear HB; have HO_3 := n0_; have HO564 := n1_; have HO567 := n2_; have HB := n3_; have BK570 := n4_; have GW570 := n5_; have GE570 := n6_; clear n0_ n1_ n2_ n3_ n4_ n5_ n6_; clear hb hbox hg; have hcz98_0 : w97.cell? ⟨gb570, 0, none⟩ = some (.bool false) := (blk_cell BK570.out 0).trans rfl; have hcz98_1 : w97.cell? ⟨gb570, 1, none⟩ = some (.slice none 0 0) := (blk_cell BK570.out 1).trans rfl; have hcz98_2 : w97.cell? ⟨gb570, 2, none⟩ = some (.slice none 0 0) := (blk_cell BK570.out 2).trans rfl; have hfz98_0 := blk_frozen BK570.out 0; have hfz98_1 := blk_frozen BK570.out 1; have hfz98_2 := blk_frozen BK570.out 2; obtain ⟨Ao99, co99, eo99⟩ := Kd.R_slice HO564.out; subst eo99; obtain ⟨Ao100, co100, eo100⟩ := Kd.R_slice HO567.out; subst eo100))
                    go_ret
                    exact ⟨by first | rfl | (simp [errW_none, errW_some] <;> rfl) | (simp [*, errW_none, errW_some] <;> rfl), by repeat (first | (with_reducible first | exact HB.out | apply below_alloc | apply pw_below_drewN | apply below_drew1 | refine below_set ?_ GE570.out) | exact HB.out)⟩
  · replace c3 := Bool.eq_false_iff.mpr c3
    subst c3
    have H1 : (some false) = some r := by rw [if_neg (show ¬ (false = true) by decide)] at H; exact H
    clear H
    have H := H1
    clear H1
    obtain rfl := Option.some.inj H
    go_enter Try.func7, Try.ntmps7
    go_wp2_with (first | ((with_reducible refine gate_callee (f := 9) rfl ?_); refine goesL_ (some 14) rfl rfl Try.func9 (by kernel_rfl) rfl #[] rfl zw6 ?_; (with_reducible refine (morainelaw4_known.calls k  false _ A2.out).mono ?_); rintro e w101 ⟨rfl, hb⟩; refine ⟨_, rfl, ?_⟩; have n0_ := Aside0.mk (below_step (zw2 HB.out) hb); clear HB; have HB := n0_; clear n0_; (try clear hb); (try clear hb2); (try clear hk); (try clear hi)))
    go_ret
    exact ⟨by first | rfl | (simp [errW_none, errW_some] <;> rfl) | (simp [*, errW_none, errW_some] <;> rfl), by repeat (first | (with_reducible first | exact HB.out | apply below_alloc | apply pw_below_drewN | apply below_drew1) | exact HB.out)⟩

end Go.Proofs.Ytbobnopnfjcajaa.P
