-- Written by a program of this session out of the translation.
import Derived.Test.YteogjahkccmfaaaPx0
import Derived.Test.YteogjahkccmfaaaPx1
import Derived.Test.YteogjahkccmfaaaPx5
import Derived.Test.YteogjahkccmfaaaPx19
import Derived.Test.YteogjahkccmfaaaPx21
namespace Go.Proofs.Yteogjahkccmfaaa.P
open Go.RowKit Go.Proofs.YteogjahkccmfaaaW.PrintWords Go.Proofs.YteogjahkccmfaaaW.PrintLast Go.Proofs.YteogjahkccmfaaaW.PrintMore
attribute [local go_sem] max2_int min2_int max_two min_two max_three min_three max_four min_four   -- for this text's walks alone
set_option linter.unusedVariables false
set_option linter.unusedSimpArgs false

/-! ### codec_Unframe: function 29 -/
def codec_Unframe.f (k : Nat) (l0 : List Int) : Option (List Int × Int × Int) := (codec_Unfixed4.f k l0).bind fun bt285 => (if bt285.2 = 0 then (if 4 ≤ (l0.length : Int) then ((codec_Take.f k (l0.drop 4)).bind fun bt288 => (if 0 ≤ (mn (l0.length : Int) (wrap64 (4 + bt288.2.1))) then (if (mn (l0.length : Int) (wrap64 (4 + bt288.2.1))) ≤ (l0.length : Int) then (if bt288.2.2 = 0 then (if bt288.1 > 1048576 then (some (([] : List Int), 0, 21)) else (if bt288.1 > (IntKind.u64.wrap (((l0.drop ((mn (l0.length : Int) (wrap64 (4 + bt288.2.1))) : Int).toNat).length : Int))) then (some (([] : List Int), 0, 20)) else (if 0 ≤ bt288.1 then (if bt288.1 ≤ ((l0.drop ((mn (l0.length : Int) (wrap64 (4 + bt288.2.1))) : Int).toNat).length : Int) then ((codec_Sum.f k ((l0.drop ((mn (l0.length : Int) (wrap64 (4 + bt288.2.1))) : Int).toNat).take (bt288.1 : Int).toNat)).bind fun t293 => (if t293 = bt285.1 then ((bytes_Clone.f ((l0.drop ((mn (l0.length : Int) (wrap64 (4 + bt288.2.1))) : Int).toNat).take (bt288.1 : Int).toNat)).bind fun t294 => (some (t294, wrap64 ((wrap64 (4 + bt288.2.1)) + (wrap64 (bt288.1))), 0))) else (some (([] : List Int), 0, 22)))) else (none)) else (none)))) else (some (([] : List Int), 0, bt288.2.2))) else (none)) else (none))) else (none)) else (some (([] : List Int), 0, bt285.2)))
theorem codec_Unframe.mono : ∀ a0 k, LeO (codec_Unframe.f k a0) (codec_Unframe.f (k + 1) a0) := by
  intro a0 k
  unfold codec_Unframe.f
  repeat' first
      | (with_reducible exact codec_Sum.mono _ _)
      | (with_reducible exact codec_Take.mono _ _)
      | (with_reducible exact codec_Unfixed4.mono _ _)
      | (with_reducible exact LeO.refl _)
      | (with_reducible exact LeO.none _)
      | (with_reducible refine LeO.ite ?_ ?_)
      | (with_reducible refine LeO.bind ?_ (fun _ => ?_))
      | exact codec_Sum.mono _ _
      | exact codec_Take.mono _ _
      | exact codec_Unfixed4.mono _ _
      | exact LeO.none _
      | refine LeO.ite ?_ ?_
      | refine LeO.bind ?_ (fun _ => ?_)
set_option maxHeartbeats 8000000 in
set_option maxRecDepth 100000 in
theorem codec_Unframe.calls (k : Nat) (A0 : Option Addr) (c0 : Nat) (l0 : List Int) (r1 : List Int) (r2 : Int) (r3 : Int) (w : World) (hr0 : Kd.C (Kd.int .u8) w A0 l0.length l0) (hc0 : l0.length ≤ c0) (h : codec_Unframe.f k l0 = some (r1, r2, r3)) :
    Calls Try.prog 29 #[.slice A0 l0.length c0] w fun e w' => ∃ v0_ : Value, e = .returned (.tuple #[v0_, .int .i64 r2, .int .i64 r3]) ∧ Kd.R (Kd.int .u8) 5 w' w.heap.size (fun _ => True) v0_ r1 ∧ Below w.heap.size w w' := by
  have HR0 := Aside0.mk hr0
  have HC0 := Aside0.mk hc0
  clear hr0 hc0
  have HB := Aside0.mk (Below.refl w.heap.size w)
  have H : ((codec_Unfixed4.f k l0).bind fun bt285 => (if bt285.2 = 0 then (if 4 ≤ (l0.length : Int) then ((codec_Take.f k (l0.drop 4)).bind fun bt288 => (if 0 ≤ (mn (l0.length : Int) (wrap64 (4 + bt288.2.1))) then (if (mn (l0.length : Int) (wrap64 (4 + bt288.2.1))) ≤ (l0.length : Int) then (if bt288.2.2 = 0 then (if bt288.1 > 1048576 then (some (([] : List Int), 0, 21)) else (if bt288.1 > (IntKind.u64.wrap (((l0.drop ((mn (l0.length : Int) (wrap64 (4 + bt288.2.1))) : Int).toNat).length : Int))) then (some (([] : List Int), 0, 20)) else (if 0 ≤ bt288.1 then (if bt288.1 ≤ ((l0.drop ((mn (l0.length : Int) (wrap64 (4 + bt288.2.1))) : Int).toNat).length : Int) then ((codec_Sum.f k ((l0.drop ((mn (l0.length : Int) (wrap64 (4 + bt288.2.1))) : Int).toNat).take (bt288.1 : Int).toNat)).bind fun t293 => (if t293 = bt285.1 then ((bytes_Clone.f ((l0.drop ((mn (l0.length : Int) (wrap64 (4 + bt288.2.1))) : Int).toNat).take (bt288.1 : Int).toNat)).bind fun t294 => (some (t294, wrap64 ((wrap64 (4 + bt288.2.1)) + (wrap64 (bt288.1))), 0))) else (some (([] : List Int), 0, 22)))) else (none)) else (none)))) else (some (([] : List Int), 0, bt288.2.2))) else (none)) else (none))) else (none)) else (some (([] : List Int), 0, bt285.2)))) = some (r1, r2, r3) := h
  clear h
  replace H := Option.bind_eq_some_iff.mp H
  obtain ⟨⟨t285, t286⟩, A20, H⟩ := H
  replace H : (if t286 = 0 then (if 4 ≤ (l0.length : Int) then ((codec_Take.f k (l0.drop 4)).bind fun bt288 => (if 0 ≤ (mn (l0.length : Int) (wrap64 (4 + bt288.2.1))) then (if (mn (l0.length : Int) (wrap64 (4 + bt288.2.1))) ≤ (l0.length : Int) then (if bt288.2.2 = 0 then (if bt288.1 > 1048576 then (some (([] : List Int), 0, 21)) else (if bt288.1 > (IntKind.u64.wrap (((l0.drop ((mn (l0.length : Int) (wrap64 (4 + bt288.2.1))) : Int).toNat).length : Int))) then (some (([] : List Int), 0, 20)) else (if 0 ≤ bt288.1 then (if bt288.1 ≤ ((l0.drop ((mn (l0.length : Int) (wrap64 (4 + bt288.2.1))) : Int).toNat).length : Int) then ((codec_Sum.f k ((l0.drop ((mn (l0.length : Int) (wrap64 (4 + bt288.2.1))) : Int).toNat).take (bt288.1 : Int).toNat)).bind fun t293 => (if t293 = t285 then ((bytes_Clone.f ((l0.drop ((mn (l0.length : Int) (wrap64 (4 + bt288.2.1))) : Int).toNat).take (bt288.1 : Int).toNat)).bind fun t294 => (some (t294, wrap64 ((wrap64 (4 + bt288.2.1)) + (wrap64 (bt288.1))), 0))) else (some (([] : List Int), 0, 22)))) else (none)) else (none)))) else (some (([] : List Int), 0, bt288.2.2))) else (none)) else (none))) else (none)) else (some (([] : List Int), 0, t286))) = some (r1, r2, r3) := H
  have A2 := Aside0.mk A20
  clear A20
  by_cases c3 : t286 = 0
  · rw [if_pos c3] at H
    have c3b0 : (t286 == 0) = true := beq_iff_eq.mpr c3
    have c3b1 : (t286 != 0) = false := bne_eq_false_iff_eq.mpr c3
    clear c3
    by_cases c4 : 4 ≤ (l0.length : Int)
    · rw [if_pos c4] at H
      have c4b0 := eq_true c4
      have c4b1 : decide (4 ≤ (l0.length : Int)) = true := decide_eq_true c4
      clear c4
      replace H := Option.bind_eq_some_iff.mp H
      obtain ⟨⟨t288, t289, t290⟩, A50, H⟩ := H
      replace H : (if 0 ≤ (mn (l0.length : Int) (wrap64 (4 + t289))) then (if (mn (l0.length : Int) (wrap64 (4 + t289))) ≤ (l0.length : Int) then (if t290 = 0 then (if t288 > 1048576 then (some (([] : List Int), 0, 21)) else (if t288 > (IntKind.u64.wrap (((l0.drop ((mn (l0.length : Int) (wrap64 (4 + t289))) : Int).toNat).length : Int))) then (some (([] : List Int), 0, 20)) else (if 0 ≤ t288 then (if t288 ≤ ((l0.drop ((mn (l0.length : Int) (wrap64 (4 + t289))) : Int).toNat).length : Int) then ((codec_Sum.f k ((l0.drop ((mn (l0.length : Int) (wrap64 (4 + t289))) : Int).toNat).take (t288 : Int).toNat)).bind fun t293 => (if t293 = t285 then ((bytes_Clone.f ((l0.drop ((mn (l0.length : Int) (wrap64 (4 + t289))) : Int).toNat).take (t288 : Int).toNat)).bind fun t294 => (some (t294, wrap64 ((wrap64 (4 + t289)) + (wrap64 (t288))), 0))) else (some (([] : List Int), 0, 22)))) else (none)) else (none)))) else (some (([] : List Int), 0, t290))) else (none)) else (none)) = some (r1, r2, r3) := H
      have A5 := Aside0.mk A50
      clear A50
      obtain ⟨ji6, hji6⟩ : ∃ j_ : Int, (mn (l0.length : Int) (wrap64 (4 + t289))) = j_ := ⟨_, rfl⟩
      replace H : (if 0 ≤ (ji6) then (if (ji6) ≤ (l0.length : Int) then (if t290 = 0 then (if t288 > 1048576 then (some (([] : List Int), 0, 21)) else (if t288 > (IntKind.u64.wrap (((l0.drop ((ji6) : Int).toNat).length : Int))) then (some (([] : List Int), 0, 20)) else (if 0 ≤ t288 then (if t288 ≤ ((l0.drop ((ji6) : Int).toNat).length : Int) then ((codec_Sum.f k ((l0.drop ((ji6) : Int).toNat).take (t288 : Int).toNat)).bind fun t293 => (if t293 = t285 then ((bytes_Clone.f ((l0.drop ((ji6) : Int).toNat).take (t288 : Int).toNat)).bind fun t294 => (some (t294, wrap64 ((wrap64 (4 + t289)) + (wrap64 (t288))), 0))) else (some (([] : List Int), 0, 22)))) else (none)) else (none)))) else (some (([] : List Int), 0, t290))) else (none)) else (none)) = some (r1, r2, r3) := by first | (rw [hji6] at H; exact H) | (simp only [hji6] at H ⊢; exact H)
      (try rw [hji6] at A2)
      (try rw [hji6] at A5)
      have hji6_ : (if (wrap64 (4 + t289)) < (l0.length : Int) then (wrap64 (4 + t289)) else (l0.length : Int)) = ji6 := hji6
      by_cases c7 : 0 ≤ (ji6)
      · rw [if_pos c7] at H
        have c7b0 := eq_true c7
        have c7b1 : decide (0 ≤ (ji6)) = true := decide_eq_true c7
        clear c7
        by_cases c8 : (ji6) ≤ (l0.length : Int)
        · rw [if_pos c8] at H
          have c8b0 := eq_true c8
          have c8b1 : decide ((ji6) ≤ (l0.length : Int)) = true := decide_eq_true c8
          clear c8
          by_cases c9 : t290 = 0
          · rw [if_pos c9] at H
            have c9b0 : (t290 == 0) = true := beq_iff_eq.mpr c9
            have c9b1 : (t290 != 0) = false := bne_eq_false_iff_eq.mpr c9
            clear c9
            by_cases c10 : t288 > 1048576
            · rw [if_pos c10] at H
              have c10b0 : decide (1048576 < t288) = true := decide_eq_true c10
              clear c10
              simp only [Option.some.injEq, Prod.mk.injEq] at H
              obtain ⟨rfl, rfl, rfl⟩ := H
              go_enter Try.func29, Try.ntmps29
              go_wp2_with (first | ((with_reducible refine gate_callee (f := 22) rfl ?_); refine goesL_ (some 12) rfl rfl Try.func22 (by kernel_rfl) rfl #[.slice A0 l0.length c0] rfl (by (try simp only [List.map_toArray, List.map_cons, List.map_nil]); first | done | rfl | (simp only [List.length_drop, List.length_take]; rfl)) ?_; (with_reducible refine (codec_Unfixed4.calls k _ _ l0 t285 t286 _ ?side1 ?side2 A2.out).mono ?_); (case side1 => repeat (first | exact HR0.out | (with_reducible refine Kd.C_alloc ?_ _) | (with_reducible refine Kd.C_drewN ?_ _) | (with_reducible refine Kd.C_drew ?_))); (case side2 => exact HC0.out); rintro e w' ⟨rfl, ⟨nd, rfl⟩⟩; refine ⟨_, rfl, ?_⟩; obtain ⟨i011, hi011, _, hsz11, _⟩ := info_parts info5; obtain ⟨A11, hcut11, hA11, hC11⟩ := print_drop_of (P := Try.prog) (Value.int .u8) 0 22 5 .i64 Try.underlying22 hi011 hsz11 A0 c0 l0 4 (by omega) (of_decide_eq_true (by first | (with_reducible assumption) | assumption)) HC0.out; have HR287 := Aside0.mk (Kd.C_of_reads (h1 := fun _ => rfl) (hA11 _ (Kd.reads_of_C HR0.out))); have HC287 := Aside0.mk hC11; clear hA11 hC11 hi011 hsz11) | ((with_reducible refine gate_callee (f := 19) rfl ?_); refine goesL_ (some 21) rfl rfl Try.func19 (by kernel_rfl) rfl #[.slice A11 (l0.drop 4).length (c0 - 4)] rfl (by (try simp only [List.map_toArray, List.map_cons, List.map_nil]); first | done | (rw [show (l0.drop 4).length = (l0.length - 4) from List.length_drop] <;> rfl) | rfl | (simp only [List.length_drop, List.length_take]; rfl)) ?_; (with_reducible refine (codec_Take.calls k _ _ (l0.drop 4) t288 t289 t290 _ ?side1 ?side2 A5.out).mono ?_); (case side1 => repeat (first | exact HR287.out | (with_reducible refine Kd.C_alloc ?_ _) | (with_reducible refine Kd.C_drewN ?_ _) | (with_reducible refine Kd.C_drew ?_))); (case side2 => exact HC287.out); rintro e w' ⟨rfl, ⟨nd, rfl⟩⟩; refine ⟨_, rfl, ?_⟩; obtain ⟨i012, hi012, _, hsz12, _⟩ := info_parts info5; obtain ⟨A12, hcut12, hA12, hC12⟩ := print_drop_of (P := Try.prog) (Value.int .u8) 0 22 5 .i64 Try.underlying22 hi012 hsz12 A0 c0 l0 (ji6) (of_decide_eq_true (by first | (with_reducible assumption) | assumption)) (of_decide_eq_true (by first | (with_reducible assumption) | assumption)) HC0.out; have HR291 := Aside0.mk (Kd.C_of_reads (h1 := fun _ => rfl) (hA12 _ (Kd.reads_of_C HR0.out))); have HC291 := Aside0.mk hC12; clear hA12 hC12 hi012 hsz12))
              go_ret3
              exact ⟨_, by first | rfl | (simp [errW_none, errW_some] <;> rfl) | (simp only [← hji6]; first | rfl | (simp [errW_none, errW_some] <;> rfl)) | (simp [*, errW_none, errW_some] <;> rfl), by first | exact Kd.R_nil _ _ _ _ _ | exact Kd.N_nil _ _ _ _ _ | exact Kd.V_nil _ _ _ _ _ | exact Kd.Q_nil _ _ _ _ _ | exact Kd.S_nil _ _ _ _ _, by repeat (first | (with_reducible first | exact HB.out | apply below_alloc | apply pw_below_drewN | apply below_drew1) | exact HB.out)⟩
            · rw [if_neg c10] at H
              have c10b0 : decide (1048576 < t288) = false := decide_eq_false c10
              clear c10
              by_cases c13 : t288 > (IntKind.u64.wrap (((l0.drop ((ji6) : Int).toNat).length : Int)))
              · rw [if_pos c13] at H
                have c13b0 : decide ((IntKind.u64.wrap (((l0.drop ((ji6) : Int).toNat).length : Int))) < t288) = true := decide_eq_true c13
                (try (have c13b1 : decide ((IntKind.u64.wrap (((l0.length - ((ji6) : Int).toNat : Nat) : Int))) < t288) = true := by have h_ : decide ((IntKind.u64.wrap (((l0.drop ((ji6) : Int).toNat).length : Int))) < t288) = true := decide_eq_true c13; simpa only [List.length_drop] using h_))
                clear c13
                simp only [Option.some.injEq, Prod.mk.injEq] at H
                obtain ⟨rfl, rfl, rfl⟩ := H
                go_enter Try.func29, Try.ntmps29
                go_wp2_with (first | ((with_reducible refine gate_callee (f := 22) rfl ?_); refine goesL_ (some 12) rfl rfl Try.func22 (by kernel_rfl) rfl #[.slice A0 l0.length c0] rfl (by (try simp only [List.map_toArray, List.map_cons, List.map_nil]); first | done | rfl | (simp only [List.length_drop, List.length_take]; rfl)) ?_; (with_reducible refine (codec_Unfixed4.calls k _ _ l0 t285 t286 _ ?side1 ?side2 A2.out).mono ?_); (case side1 => repeat (first | exact HR0.out | (with_reducible refine Kd.C_alloc ?_ _) | (with_reducible refine Kd.C_drewN ?_ _) | (with_reducible refine Kd.C_drew ?_))); (case side2 => exact HC0.out); rintro e w' ⟨rfl, ⟨nd, rfl⟩⟩; refine ⟨_, rfl, ?_⟩; obtain ⟨i014, hi014, _, hsz14, _⟩ := info_parts info5; obtain ⟨A14, hcut14, hA14, hC14⟩ := print_drop_of (P := Try.prog) (Value.int .u8) 0 22 5 .i64 Try.underlying22 hi014 hsz14 A0 c0 l0 4 (by omega) (of_decide_eq_true (by first | (with_reducible assumption) | assumption)) HC0.out; have HR287 := Aside0.mk (Kd.C_of_reads (h1 := fun _ => rfl) (hA14 _ (Kd.reads_of_C HR0.out))); have HC287 := Aside0.mk hC14; clear hA14 hC14 hi014 hsz14) | ((with_reducible refine gate_callee (f := 19) rfl ?_); refine goesL_ (some 21) rfl rfl Try.func19 (by kernel_rfl) rfl #[.slice A14 (l0.drop 4).length (c0 - 4)] rfl (by (try simp only [List.map_toArray, List.map_cons, List.map_nil]); first | done | (rw [show (l0.drop 4).length = (l0.length - 4) from List.length_drop] <;> rfl) | rfl | (simp only [List.length_drop, List.length_take]; rfl)) ?_; (with_reducible refine (codec_Take.calls k _ _ (l0.drop 4) t288 t289 t290 _ ?side1 ?side2 A5.out).mono ?_); (case side1 => repeat (first | exact HR287.out | (with_reducible refine Kd.C_alloc ?_ _) | (with_reducible refine Kd.C_drewN ?_ _) | (with_reducible refine Kd.C_drew ?_))); (case side2 => exact HC287.out); rintro e w' ⟨rfl, ⟨nd, rfl⟩⟩; refine ⟨_, rfl, ?_⟩; obtain ⟨i015, hi015, _, hsz15, _⟩ := info_parts info5; obtain ⟨A15, hcut15, hA15, hC15⟩ := print_drop_of (P := Try.prog) (Value.int .u8) 0 22 5 .i64 Try.underlying22 hi015 hsz15 A0 c0 l0 (ji6) (of_decide_eq_true (by first | (with_reducible assumption) | assumption)) (of_decide_eq_true (by first | (with_reducible assumption) | assumption)) HC0.out; have HR291 := Aside0.mk (Kd.C_of_reads (h1 := fun _ => rfl) (hA15 _ (Kd.reads_of_C HR0.out))); have HC291 := Aside0.mk hC15; clear hA15 hC15 hi015 hsz15))
                go_ret3
                exact ⟨_, by first | rfl | (simp [errW_none, errW_some] <;> rfl) | (simp only [← hji6]; first | rfl | (simp [errW_none, errW_some] <;> rfl)) | (simp [*, errW_none, errW_some] <;> rfl), by first | exact Kd.R_nil _ _ _ _ _ | exact Kd.N_nil _ _ _ _ _ | exact Kd.V_nil _ _ _ _ _ | exact Kd.Q_nil _ _ _ _ _ | exact Kd.S_nil _ _ _ _ _, by repeat (first | (with_reducible first | exact HB.out | apply below_alloc | apply pw_below_drewN | apply below_drew1) | exact HB.out)⟩
              · rw [if_neg c13] at H
                have c13b0 : decide ((IntKind.u64.wrap (((l0.drop ((ji6) : Int).toNat).length : Int))) < t288) = false := decide_eq_false c13
                (try (have c13b1 : decide ((IntKind.u64.wrap (((l0.length - ((ji6) : Int).toNat : Nat) : Int))) < t288) = false := by have h_ : decide ((IntKind.u64.wrap (((l0.drop ((ji6) : Int).toNat).length : Int))) < t288) = false := decide_eq_false c13; simpa only [List.length_drop] using h_))
                clear c13
                by_cases c16 : 0 ≤ t288
                · rw [if_pos c16] at H
                  have c16b0 := eq_true c16
                  have c16b1 : decide (0 ≤ t288) = true := decide_eq_true c16
                  clear c16
                  by_cases c17 : t288 ≤ ((l0.drop ((ji6) : Int).toNat).length : Int)
                  · rw [if_pos c17] at H
                    have c17b0 := eq_true c17
                    have c17b1 : decide (t288 ≤ ((l0.drop ((ji6) : Int).toNat).length : Int)) = true := decide_eq_true c17
                    clear c17
                    replace H := Option.bind_eq_some_iff.mp H
                    obtain ⟨t293, A180, H⟩ := H
                    replace H : (if t293 = t285 then ((bytes_Clone.f ((l0.drop ((ji6) : Int).toNat).take (t288 : Int).toNat)).bind fun t294 => (some (t294, wrap64 ((wrap64 (4 + t289)) + (wrap64 (t288))), 0))) else (some (([] : List Int), 0, 22))) = some (r1, r2, r3) := H
                    have A18 := Aside0.mk A180
                    clear A180
                    by_cases c19 : t293 = t285
                    · rw [if_pos c19] at H
                      have c19b0 : (t293 == t285) = true := beq_iff_eq.mpr c19
                      have c19b1 : (t293 != t285) = false := bne_eq_false_iff_eq.mpr c19
                      clear c19
                      replace H := Option.bind_eq_some_iff.mp H
                      obtain ⟨t294, A200, H⟩ := H
                      replace H : (some (t294, wrap64 ((wrap64 (4 + t289)) + (wrap64 (t288))), 0)) = some (r1, r2, r3) := H
                      have A20 := Aside0.mk A200
                      clear A200
                      simp only [Option.some.injEq, Prod.mk.injEq] at H
                      obtain ⟨rfl, rfl, rfl⟩ := H
                      go_enter Try.func29, Try.ntmps29
                      go_wp2_with (first | ((with_reducible refine gate_callee (f := 22) rfl ?_); refine goesL_ (some 12) rfl rfl Try.func22 (by kernel_rfl) rfl #[.slice A0 l0.length c0] rfl (by (try simp only [List.map_toArray, List.map_cons, List.map_nil]); first | done | rfl | (simp only [List.length_drop, List.length_take]; rfl)) ?_; (with_reducible refine (codec_Unfixed4.calls k _ _ l0 t285 t286 _ ?side1 ?side2 A2.out).mono ?_); (case side1 => repeat (first | exact HR0.out | (with_reducible refine Kd.C_alloc ?_ _) | (with_reducible refine Kd.C_drewN ?_ _) | (with_reducible refine Kd.C_drew ?_))); (case side2 => exact HC0.out); rintro e w' ⟨rfl, ⟨nd, rfl⟩⟩; refine ⟨_, rfl, ?_⟩; obtain ⟨i021, hi021, _, hsz21, _⟩ := info_parts info5; obtain ⟨A21, hcut21, hA21, hC21⟩ := print_drop_of (P := Try.prog) (Value.int .u8) 0 22 5 .i64 Try.underlying22 hi021 hsz21 A0 c0 l0 4 (by omega) (of_decide_eq_true (by first | (with_reducible assumption) | assumption)) HC0.out; have HR287 := Aside0.mk (Kd.C_of_reads (h1 := fun _ => rfl) (hA21 _ (Kd.reads_of_C HR0.out))); have HC287 := Aside0.mk hC21; clear hA21 hC21 hi021 hsz21) | ((with_reducible refine gate_callee (f := 19) rfl ?_); refine goesL_ (some 21) rfl rfl Try.func19 (by kernel_rfl) rfl #[.slice A21 (l0.drop 4).length (c0 - 4)] rfl (by (try simp only [List.map_toArray, List.map_cons, List.map_nil]); first | done | (rw [show (l0.drop 4).length = (l0.length - 4) from List.length_drop] <;> rfl) | rfl | (simp only [List.length_drop, List.length_take]; rfl)) ?_; (with_reducible refine (codec_Take.calls k _ _ (l0.drop 4) t288 t289 t290 _ ?side1 ?side2 A5.out).mono ?_); (case side1 => repeat (first | exact HR287.out | (with_reducible refine Kd.C_alloc ?_ _) | (with_reducible refine Kd.C_drewN ?_ _) | (with_reducible refine Kd.C_drew ?_))); (case side2 => exact HC287.out); rintro e w' ⟨rfl, ⟨nd, rfl⟩⟩; refine ⟨_, rfl, ?_⟩; obtain ⟨i022, hi022, _, hsz22, _⟩ := info_parts info5; obtain ⟨A22, hcut22, hA22, hC22⟩ := print_drop_of (P := Try.prog) (Value.int .u8) 0 22 5 .i64 Try.underlying22 hi022 hsz22 A0 c0 l0 (ji6) (of_decide_eq_true (by first | (with_reducible assumption) | assumption)) (of_decide_eq_true (by first | (with_reducible assumption) | assumption)) HC0.out; have HR291 := Aside0.mk (Kd.C_of_reads (h1 := fun _ => rfl) (hA22 _ (Kd.reads_of_C HR0.out))); have HC291 := Aside0.mk hC22; clear hA22 hC22 hi022 hsz22; obtain ⟨i023, hi023, _, hsz23, _⟩ := info_parts info5; obtain ⟨hcut23, hA23, hC23⟩ := print_take_of (P := Try.prog) (Value.int .u8) 0 22 5 .u64 Try.underlying22 hi023 hsz23 A22 (c0 - (ji6).toNat) (l0.drop ((ji6) : Int).toNat) t288 (of_decide_eq_true (by first | (with_reducible assumption) | assumption)) (of_decide_eq_true (by first | (with_reducible assumption) | assumption)) HC291.out; have HR292 := Aside0.mk (Kd.C_of_reads (h1 := fun _ => rfl) (hA23 _ (Kd.reads_of_C HR291.out))); have HC292 := Aside0.mk hC23; have hcut23b := hcut23; (try simp only [List.length_drop] at hcut23b); clear hA23 hC23 hi023 hsz23) | ((with_reducible refine gate_callee (f := 13) rfl ?_); refine goesL_ (some 49) rfl rfl Try.func13 (by kernel_rfl) rfl #[.slice A22 ((l0.drop ((ji6) : Int).toNat).take (t288 : Int).toNat).length (c0 - (ji6).toNat)] rfl (by (try simp only [List.map_toArray, List.map_cons, List.map_nil]); first | done | (rw [show ((l0.drop ((ji6) : Int).toNat).take (t288 : Int).toNat).length = t288.toNat from (by rw [List.length_take]; have h_ : (t288 : Int) ≤ ((l0.drop ((ji6) : Int).toNat).length : Int) := of_decide_eq_true (by first | (with_reducible assumption) | assumption); omega)] <;> rfl) | (simp only [hji6]; rfl) | rfl | (simp only [List.length_drop, List.length_take]; rfl)) ?_; (with_reducible refine (codec_Sum.calls k _ _ ((l0.drop ((ji6) : Int).toNat).take (t288 : Int).toNat) t293 _ ?side1 ?side2 A18.out).mono ?_); (case side1 => repeat (first | exact HR292.out | (with_reducible refine Kd.C_alloc ?_ _) | (with_reducible refine Kd.C_drewN ?_ _) | (with_reducible refine Kd.C_drew ?_))); (case side2 => exact HC292.out); rintro e w' ⟨rfl, ⟨nd, rfl⟩⟩; refine ⟨_, rfl, ?_⟩) | ((with_reducible refine gate_callee (f := 37) rfl ?_); refine goesL_ (some 55) rfl rfl Try.func37 (by kernel_rfl) rfl #[.slice A22 ((l0.drop ((ji6) : Int).toNat).take (t288 : Int).toNat).length (c0 - (ji6).toNat)] rfl (by (try simp only [List.map_toArray, List.map_cons, List.map_nil]); first | done | (rw [show ((l0.drop ((ji6) : Int).toNat).take (t288 : Int).toNat).length = t288.toNat from (by rw [List.length_take]; have h_ : (t288 : Int) ≤ ((l0.drop ((ji6) : Int).toNat).length : Int) := of_decide_eq_true (by first | (with_reducible assumption) | assumption); omega)] <;> rfl) | (simp only [hji6]; rfl) | rfl | (simp only [List.length_drop, List.length_take]; rfl)) ?_; (with_reducible refine (bytes_Clone.calls _ _ ((l0.drop ((ji6) : Int).toNat).take (t288 : Int).toNat) t294 _ ?side1 ?side2 A20.out).mono ?_); (case side1 => repeat (first | exact HR292.out | (with_reducible refine Kd.C_alloc ?_ _) | (with_reducible refine Kd.C_drewN ?_ _) | (with_reducible refine Kd.C_drew ?_))); (case side2 => exact HC292.out); rintro e w24 ⟨v295, rfl, ho0, hb⟩; refine ⟨_, rfl, ?_⟩; have n0_ := Aside0.mk (Kd.R_lower ho0 (below_size (by repeat (first | (with_reducible first | exact HB.out | apply below_alloc | apply pw_below_drewN | apply below_drew1) | exact HB.out)))); have n1_ := Aside0.mk (below_step (by repeat (first | (with_reducible first | exact HB.out | apply below_alloc | apply pw_below_drewN | apply below_drew1) | exact HB.out)) hb); clear HB; have HO296 := n0_; have HB := n1_; clear n0_ n1_; (try clear hb); (try clear hb2); (try clear hk); (try clear hi); (try clear ho0)))
                      go_ret3
                      exact ⟨_, by first | rfl | (simp [errW_none, errW_some] <;> rfl) | (simp only [← hji6]; first | rfl | (simp [errW_none, errW_some] <;> rfl)) | (simp [*, errW_none, errW_some] <;> rfl), by (with_reducible repeat (first | apply Kd.R_alloc | apply Kd.R_drewN | apply Kd.R_drew)); exact HO296.out, by repeat (first | (with_reducible first | exact HB.out | apply below_alloc | apply pw_below_drewN | apply below_drew1) | exact HB.out)⟩
                    · rw [if_neg c19] at H
                      have c19b0 : (t293 == t285) = false := beq_eq_false_iff_ne.mpr c19
                      have c19b1 : (t293 != t285) = true := bne_iff_ne.mpr c19
                      simp only [Option.some.injEq, Prod.mk.injEq] at H
                      obtain ⟨rfl, rfl, rfl⟩ := H
                      go_enter Try.func29, Try.ntmps29
                      go_wp2_with (first | ((with_reducible refine gate_callee (f := 22) rfl ?_); refine goesL_ (some 12) rfl rfl Try.func22 (by kernel_rfl) rfl #[.slice A0 l0.length c0] rfl (by (try simp only [List.map_toArray, List.map_cons, List.map_nil]); first | done | rfl | (simp only [List.length_drop, List.length_take]; rfl)) ?_; (with_reducible refine (codec_Unfixed4.calls k _ _ l0 t285 t286 _ ?side1 ?side2 A2.out).mono ?_); (case side1 => repeat (first | exact HR0.out | (with_reducible refine Kd.C_alloc ?_ _) | (with_reducible refine Kd.C_drewN ?_ _) | (with_reducible refine Kd.C_drew ?_))); (case side2 => exact HC0.out); rintro e w' ⟨rfl, ⟨nd, rfl⟩⟩; refine ⟨_, rfl, ?_⟩; obtain ⟨i025, hi025, _, hsz25, _⟩ := info_parts info5; obtain ⟨A25, hcut25, hA25, hC25⟩ := print_drop_of (P := Try.prog) (Value.int .u8) 0 22 5 .i64 Try.underlying22 hi025 hsz25 A0 c0 l0 4 (by omega) (of_decide_eq_true (by first | (with_reducible assumption) | assumption)) HC0.out; have HR287 := Aside0.mk (Kd.C_of_reads (h1 := fun _ => rfl) (hA25 _ (Kd.reads_of_C HR0.out))); have HC287 := Aside0.mk hC25; clear hA25 hC25 hi025 hsz25) | ((with_reducible refine gate_callee (f := 19) rfl ?_); refine goesL_ (some 21) rfl rfl Try.func19 (by kernel_rfl) rfl #[.slice A25 (l0.drop 4).length (c0 - 4)] rfl (by (try simp only [List.map_toArray, List.map_cons, List.map_nil]); first | done | (rw [show (l0.drop 4).length = (l0.length - 4) from List.length_drop] <;> rfl) | rfl | (simp only [List.length_drop, List.length_take]; rfl)) ?_; (with_reducible refine (codec_Take.calls k _ _ (l0.drop 4) t288 t289 t290 _ ?side1 ?side2 A5.out).mono ?_); (case side1 => repeat (first | exact HR287.out | (with_reducible refine Kd.C_alloc ?_ _) | (with_reducible refine Kd.C_drewN ?_ _) | (with_reducible refine Kd.C_drew ?_))); (case side2 => exact HC287.out); rintro e w' ⟨rfl, ⟨nd, rfl⟩⟩; refine ⟨_, rfl, ?_⟩; obtain ⟨i026, hi026, _, hsz26, _⟩ := info_parts info5; obtain ⟨A26, hcut26, hA26, hC26⟩ := print_drop_of (P := Try.prog) (Value.int .u8) 0 22 5 .i64 Try.underlying22 hi026 hsz26 A0 c0 l0 (ji6) (of_decide_eq_true (by first | (with_reducible assumption) | assumption)) (of_decide_eq_true (by first | (with_reducible assumption) | assumption)) HC0.out; have HR291 := Aside0.mk (Kd.C_of_reads (h1 := fun _ => rfl) (hA26 _ (Kd.reads_of_C HR0.out))); have HC291 := Aside0.mk hC26; clear hA26 hC26 hi026 hsz26; obtain ⟨i027, hi027, _, hsz27, _⟩ := info_parts info5; obtain ⟨hcut27, hA27, hC27⟩ := print_take_of (P := Try.prog) (Value.int .u8) 0 22 5 .u64 Try.underlying22 hi027 hsz27 A26 (c0 - (ji6).toNat) (l0.drop ((ji6) : Int).toNat) t288 (of_decide_eq_true (by first | (with_reducible assumption) | assumption)) (of_decide_eq_true (by first | (with_reducible assumption) | assumption)) HC291.out; have HR292 := Aside0.mk (Kd.C_of_reads (h1 := fun _ => rfl) (hA27 _ (Kd.reads_of_C HR291.out))); have HC292 := Aside0.mk hC27; have hcut27b := hcut27; (try simp only [List.length_drop] at hcut27b); clear hA27 hC27 hi027 hsz27) | ((with_reducible refine gate_callee (f := 13) rfl ?_); refine goesL_ (some 49) rfl rfl Try.func13 (by kernel_rfl) rfl #[.slice A26 ((l0.drop ((ji6) : Int).toNat).take (t288 : Int).toNat).length (c0 - (ji6).toNat)] rfl (by (try simp only [List.map_toArray, List.map_cons, List.map_nil]); first | done | (rw [show ((l0.drop ((ji6) : Int).toNat).take (t288 : Int).toNat).length = t288.toNat from (by rw [List.length_take]; have h_ : (t288 : Int) ≤ ((l0.drop ((ji6) : Int).toNat).length : Int) := of_decide_eq_true (by first | (with_reducible assumption) | assumption); omega)] <;> rfl) | (simp only [hji6]; rfl) | rfl | (simp only [List.length_drop, List.length_take]; rfl)) ?_; (with_reducible refine (codec_Sum.calls k _ _ ((l0.drop ((ji6) : Int).toNat).take (t288 : Int).toNat) t293 _ ?side1 ?side2 A18.out).mono ?_); (case side1 => repeat (first | exact HR292.out | (with_reducible refine Kd.C_alloc ?_ _) | (with_reducible refine Kd.C_drewN ?_ _) | (with_reducible refine Kd.C_drew ?_))); (case side2 => exact HC292.out); rintro e w' ⟨rfl, ⟨nd, rfl⟩⟩; refine ⟨_, rfl, ?_⟩))
                      go_ret3
                      exact ⟨_, by first | rfl | (simp [errW_none, errW_some] <;> rfl) | (simp only [← hji6]; first | rfl | (simp [errW_none, errW_some] <;> rfl)) | (simp [*, errW_none, errW_some] <;> rfl), by first | exact Kd.R_nil _ _ _ _ _ | exact Kd.N_nil _ _ _ _ _ | exact Kd.V_nil _ _ _ _ _ | exact Kd.Q_nil _ _ _ _ _ | exact Kd.S_nil _ _ _ _ _, by repeat (first | (with_reducible first | exact HB.out | apply below_alloc | apply pw_below_drewN | apply below_drew1) | exact HB.out)⟩
                  · rw [if_neg c17] at H
                    exact absurd H (by simp)
                · rw [if_neg c16] at H
                  exact absurd H (by simp)
          · rw [if_neg c9] at H
            have c9b0 : (t290 == 0) = false := beq_eq_false_iff_ne.mpr c9
            have c9b1 : (t290 != 0) = true := bne_iff_ne.mpr c9
            simp only [Option.some.injEq, Prod.mk.injEq] at H
            obtain ⟨rfl, rfl, rfl⟩ := H
            go_enter Try.func29, Try.ntmps29
            go_wp2_with (first | ((with_reducible refine gate_callee (f := 22) rfl ?_); refine goesL_ (some 12) rfl rfl Try.func22 (by kernel_rfl) rfl #[.slice A0 l0.length c0] rfl (by (try simp only [List.map_toArray, List.map_cons, List.map_nil]); first | done | rfl | (simp only [List.length_drop, List.length_take]; rfl)) ?_; (with_reducible refine (codec_Unfixed4.calls k _ _ l0 t285 t286 _ ?side1 ?side2 A2.out).mono ?_); (case side1 => repeat (first | exact HR0.out | (with_reducible refine Kd.C_alloc ?_ _) | (with_reducible refine Kd.C_drewN ?_ _) | (with_reducible refine Kd.C_drew ?_))); (case side2 => exact HC0.out); rintro e w' ⟨rfl, ⟨nd, rfl⟩⟩; refine ⟨_, rfl, ?_⟩; obtain ⟨i028, hi028, _, hsz28, _⟩ := info_parts info5; obtain ⟨A28, hcut28, hA28, hC28⟩ := print_drop_of (P := Try.prog) (Value.int .u8) 0 22 5 .i64 Try.underlying22 hi028 hsz28 A0 c0 l0 4 (by omega) (of_decide_eq_true (by first | (with_reducible assumption) | assumption)) HC0.out; have HR287 := Aside0.mk (Kd.C_of_reads (h1 := fun _ => rfl) (hA28 _ (Kd.reads_of_C HR0.out))); have HC287 := Aside0.mk hC28; clear hA28 hC28 hi028 hsz28) | ((with_reducible refine gate_callee (f := 19) rfl ?_); refine goesL_ (some 21) rfl rfl Try.func19 (by kernel_rfl) rfl #[.slice A28 (l0.drop 4).length (c0 - 4)] rfl (by (try simp only [List.map_toArray, List.map_cons, List.map_nil]); first | done | (rw [show (l0.drop 4).length = (l0.length - 4) from List.length_drop] <;> rfl) | rfl | (simp only [List.length_drop, List.length_take]; rfl)) ?_; (with_reducible refine (codec_Take.calls k _ _ (l0.drop 4) t288 t289 t290 _ ?side1 ?side2 A5.out).mono ?_); (case side1 => repeat (first | exact HR287.out | (with_reducible refine Kd.C_alloc ?_ _) | (with_reducible refine Kd.C_drewN ?_ _) | (with_reducible refine Kd.C_drew ?_))); (case side2 => exact HC287.out); rintro e w' ⟨rfl, ⟨nd, rfl⟩⟩; refine ⟨_, rfl, ?_⟩; obtain ⟨i029, hi029, _, hsz29, _⟩ := info_parts info5; obtain ⟨A29, hcut29, hA29, hC29⟩ := print_drop_of (P := Try.prog) (Value.int .u8) 0 22 5 .i64 Try.underlying22 hi029 hsz29 A0 c0 l0 (ji6) (of_decide_eq_true (by first | (with_reducible assumption) | assumption)) (of_decide_eq_true (by first | (with_reducible assumption) | assumption)) HC0.out; have HR291 := Aside0.mk (Kd.C_of_reads (h1 := fun _ => rfl) (hA29 _ (Kd.reads_of_C HR0.out))); have HC291 := Aside0.mk hC29; clear hA29 hC29 hi029 hsz29))
            go_ret3
            exact ⟨_, by first | rfl | (simp [errW_none, errW_some] <;> rfl) | (simp only [← hji6]; first | rfl | (simp [errW_none, errW_some] <;> rfl)) | (simp [*, errW_none, errW_some] <;> rfl), by first | exact Kd.R_nil _ _ _ _ _ | exact Kd.N_nil _ _ _ _ _ | exact Kd.V_nil _ _ _ _ _ | exact Kd.Q_nil _ _ _ _ _ | exact Kd.S_nil _ _ _ _ _, by repeat (first | (with_reducible first | exact HB.out | apply below_alloc | apply pw_below_drewN | apply below_drew1) | exact HB.out)⟩
        · rw [if_neg c8] at H
          exact absurd H (by simp)
      · rw [if_neg c7] at H
        exact absurd H (by simp)
    · rw [if_neg c4] at H
      exact absurd H (by simp)
  · rw [if_neg c3] at H
    have c3b0 : (t286 == 0) = false := beq_eq_false_iff_ne.mpr c3
    have c3b1 : (t286 != 0) = true := bne_iff_ne.mpr c3
    simp only [Option.some.injEq, Prod.mk.injEq] at H
    obtain ⟨rfl, rfl, rfl⟩ := H
    go_enter Try.func29, Try.ntmps29
    go_wp2_with (first | ((with_reducible refine gate_callee (f := 22) rfl ?_); refine goesL_ (some 12) rfl rfl Try.func22 (by kernel_rfl) rfl #[.slice A0 l0.length c0] rfl (by (try simp only [List.map_toArray, List.map_cons, List.map_nil]); first | done | rfl | (simp only [List.length_drop, List.length_take]; rfl)) ?_; (with_reducible refine (codec_Unfixed4.calls k _ _ l0 t285 t286 _ ?side1 ?side2 A2.out).mono ?_); (case side1 => repeat (first | exact HR0.out | (with_reducible refine Kd.C_alloc ?_ _) | (with_reducible refine Kd.C_drewN ?_ _) | (with_reducible refine Kd.C_drew ?_))); (case side2 => exact HC0.out); rintro e w' ⟨rfl, ⟨nd, rfl⟩⟩; refine ⟨_, rfl, ?_⟩))
    go_ret3
    exact ⟨_, by first | rfl | (simp [errW_none, errW_some] <;> rfl) | (simp [*, errW_none, errW_some] <;> rfl), by first | exact Kd.R_nil _ _ _ _ _ | exact Kd.N_nil _ _ _ _ _ | exact Kd.V_nil _ _ _ _ _ | exact Kd.Q_nil _ _ _ _ _ | exact Kd.S_nil _ _ _ _ _, by repeat (first | (with_reducible first | exact HB.out | apply below_alloc | apply pw_below_drewN | apply below_drew1) | exact HB.out)⟩

end Go.Proofs.Yteogjahkccmfaaa.P
