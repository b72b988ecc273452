/- CodecStream: the Go law of that name returns true for every input and leaves its arguments as they were. Conditions: none but the statement's own. Written by a program of this session out of the translation. -/
import Derived.Test.YteogjahkccmfaaaZCodecStream0
import Derived.Deep.Slices
import Derived.ChangeArms
import Derived.SizedLaws
import Derived.Test.YteogjahkccmfaaaRows
import Derived.WalkKit
import Derived.ProofKit
import Derived.OpenShut
import Derived.ShutString
import Derived.ChangeOld
import Derived.Below
import Derived.Test.YteogjahkccmfaaaWSized
-- Written by a program of this session out of the translation.
namespace Go.Proofs.Yteogjahkccmfaaa.P
open Go.RowKit Go.Proofs.YteogjahkccmfaaaW.PrintWords Go.Proofs.YteogjahkccmfaaaW.PrintLast Go.Proofs.YteogjahkccmfaaaW.PrintMore
attribute [local go_sem] max2_int min2_int max_two min_two max_three min_three max_four min_four   -- for this text's walks alone
set_option linter.unusedVariables false
set_option linter.unusedSimpArgs false

/-! ### morainelaw2_CodecFrames: function 8 -/
mutual
def morainelaw2_CodecFrames.j0 : Nat → List Int → List Int → Int → Int → List Int → Bool → Option (Bool)
  | 0, _, _, _, _, _, _ => none
  | k + 1, x0, x1, x2, x3, x9, x45 => if x45 = true then (some false) else (if ([] : List Int).length + x9.length < 140737488355328 then ((some (([] : List Int) ++ x9 : List Int)).bind fun y366 => (if y366.length + x1.length < 140737488355328 then ((codec_Unframe.f k (y366 ++ x1)).bind fun bt372 => (if bt372.2.2 = 0 then (if bt372.2.1 = (x9.length : Int) then ((morainehelp_Bytes.f x0 bt372.1).bind fun t377 => (morainelaw2_CodecFrames.j1 k x0 x2 x3 x9 (!t377))) else (morainelaw2_CodecFrames.j1 k x0 x2 x3 x9 true)) else (morainelaw2_CodecFrames.j1 k x0 x2 x3 x9 true))) else (none))) else (none))
def morainelaw2_CodecFrames.j1 : Nat → List Int → Int → Int → List Int → Bool → Option (Bool)
  | 0, _, _, _, _, _ => none
  | k + 1, x0, x2, x3, x9, x68 => if x68 = true then (some false) else (if x2 < 0 then (some true) else (if x2 ≥ (x9.length : Int) then (some true) else (if x2 ≥ 4 then (if x2 < (wrap64 ((x9.length : Int) - (x0.length : Int))) then (some true) else (if x3 = 0 then (some true) else (if 0 ≤ x2 then (if x2 < (x9.length : Int) then ((codec_Unframe.f k (x9.set (x2 : Int).toNat (Go.bits .xor .u8 (rd x9 x2) x3))).bind fun bt380 => (if bt380.2.2 = 22 then (if bt380.2.1 = 0 then (some ((bt380.1.length : Int) == 0)) else (some false)) else (some false))) else (none)) else (none)))) else (if x3 = 0 then (some true) else (if 0 ≤ x2 then (if x2 < (x9.length : Int) then ((codec_Unframe.f k (x9.set (x2 : Int).toNat (Go.bits .xor .u8 (rd x9 x2) x3))).bind fun bt387 => (if bt387.2.2 = 22 then (if bt387.2.1 = 0 then (some ((bt387.1.length : Int) == 0)) else (some false)) else (some false))) else (none)) else (none))))))
end
def morainelaw2_CodecFrames.f (k : Nat) (l0 : List Int) (l1 : List Int) (a2 : Int) (a3 : Int) : Option (Bool) := (morainelaw2_known.f).bind fun t354 => (if t354 = true then (if (l0.length : Int) > 3000 then (some true) else ((codec_Frame.f k l0).bind fun bt355 => ((moraineref2_Frame.f k l0).bind fun bt359 => (if bt355.2 = 0 then ((morainehelp_Bytes.f bt355.1 bt359.1).bind fun t363 => (if t363 = true then ((codec_Sum.f k l0).bind fun t364 => ((moraineref2_Sum.f k l0).bind fun t365 => (morainelaw2_CodecFrames.j0 k l0 l1 a2 a3 bt355.1 (t364 != t365)))) else (morainelaw2_CodecFrames.j0 k l0 l1 a2 a3 bt355.1 true))) else (morainelaw2_CodecFrames.j0 k l0 l1 a2 a3 bt355.1 true))))) else (some false))
theorem morainelaw2_CodecFrames.mono_l : ∀ k, (∀ y0 y1 y2 y3 y4 y5, LeO (morainelaw2_CodecFrames.j0 k y0 y1 y2 y3 y4 y5) (morainelaw2_CodecFrames.j0 (k + 1) y0 y1 y2 y3 y4 y5)) ∧ (∀ y0 y1 y2 y3 y4, LeO (morainelaw2_CodecFrames.j1 k y0 y1 y2 y3 y4) (morainelaw2_CodecFrames.j1 (k + 1) y0 y1 y2 y3 y4))
  | 0 => ⟨fun _ _ _ _ _ _ r h => by simp [morainelaw2_CodecFrames.j0] at h, fun _ _ _ _ _ r h => by simp [morainelaw2_CodecFrames.j1] at h⟩
  | k + 1 => by
    obtain ⟨ih0, ih1⟩ := morainelaw2_CodecFrames.mono_l k
    refine ⟨?_, ?_⟩
    · intro y0 y1 y2 y3 y4 y5
      unfold morainelaw2_CodecFrames.j0
      repeat' first
      | (with_reducible exact ih0 _ _ _ _ _ _)
      | (with_reducible exact ih1 _ _ _ _ _)
      | (with_reducible exact codec_Frame.mono _ _)
      | (with_reducible exact codec_Sum.mono _ _)
      | (with_reducible exact codec_Unframe.mono _ _)
      | (with_reducible exact moraineref2_Frame.mono _ _)
      | (with_reducible exact moraineref2_Sum.mono _ _)
      | (with_reducible exact LeO.refl _)
      | (with_reducible exact LeO.none _)
      | (with_reducible refine LeO.ite ?_ ?_)
      | (with_reducible refine LeO.bind ?_ (fun _ => ?_))
      | exact ih0 _ _ _ _ _ _
      | exact ih1 _ _ _ _ _
      | exact codec_Frame.mono _ _
      | exact codec_Sum.mono _ _
      | exact codec_Unframe.mono _ _
      | exact moraineref2_Frame.mono _ _
      | exact moraineref2_Sum.mono _ _
      | exact LeO.none _
      | refine LeO.ite ?_ ?_
      | refine LeO.bind ?_ (fun _ => ?_)
    · intro y0 y1 y2 y3 y4
      unfold morainelaw2_CodecFrames.j1
      repeat' first
      | (with_reducible exact ih0 _ _ _ _ _ _)
      | (with_reducible exact ih1 _ _ _ _ _)
      | (with_reducible exact codec_Frame.mono _ _)
      | (with_reducible exact codec_Sum.mono _ _)
      | (with_reducible exact codec_Unframe.mono _ _)
      | (with_reducible exact moraineref2_Frame.mono _ _)
      | (with_reducible exact moraineref2_Sum.mono _ _)
      | (with_reducible exact LeO.refl _)
      | (with_reducible exact LeO.none _)
      | (with_reducible refine LeO.ite ?_ ?_)
      | (with_reducible refine LeO.bind ?_ (fun _ => ?_))
      | exact ih0 _ _ _ _ _ _
      | exact ih1 _ _ _ _ _
      | exact codec_Frame.mono _ _
      | exact codec_Sum.mono _ _
      | exact codec_Unframe.mono _ _
      | exact moraineref2_Frame.mono _ _
      | exact moraineref2_Sum.mono _ _
      | exact LeO.none _
      | refine LeO.ite ?_ ?_
      | refine LeO.bind ?_ (fun _ => ?_)
theorem morainelaw2_CodecFrames.mono : ∀ a0 a1 a2 a3 k, LeO (morainelaw2_CodecFrames.f k a0 a1 a2 a3) (morainelaw2_CodecFrames.f (k + 1) a0 a1 a2 a3) := by
  intro a0 a1 a2 a3 k
  obtain ⟨ih0, ih1⟩ := morainelaw2_CodecFrames.mono_l k
  unfold morainelaw2_CodecFrames.f
  repeat' first
      | (with_reducible exact ih0 _ _ _ _ _ _)
      | (with_reducible exact ih1 _ _ _ _ _)
      | (with_reducible exact codec_Frame.mono _ _)
      | (with_reducible exact codec_Sum.mono _ _)
      | (with_reducible exact codec_Unframe.mono _ _)
      | (with_reducible exact moraineref2_Frame.mono _ _)
      | (with_reducible exact moraineref2_Sum.mono _ _)
      | (with_reducible exact LeO.refl _)
      | (with_reducible exact LeO.none _)
      | (with_reducible refine LeO.ite ?_ ?_)
      | (with_reducible refine LeO.bind ?_ (fun _ => ?_))
      | exact ih0 _ _ _ _ _ _
      | exact ih1 _ _ _ _ _
      | exact codec_Frame.mono _ _
      | exact codec_Sum.mono _ _
      | exact codec_Unframe.mono _ _
      | exact moraineref2_Frame.mono _ _
      | exact moraineref2_Sum.mono _ _
      | exact LeO.none _
      | refine LeO.ite ?_ ?_
      | refine LeO.bind ?_ (fun _ => ?_)
set_option maxHeartbeats 8000000 in
set_option maxRecDepth 100000 in
theorem morainelaw2_CodecFrames.calls (k : Nat) (A0 : Option Addr) (c0 : Nat) (l0 : List Int) (A1 : Option Addr) (c1 : Nat) (l1 : List Int) (a2 : Int) (a3 : Int) (r : Bool) (w : World) (hr0 : Kd.C (Kd.int .u8) w A0 l0.length l0) (hc0 : l0.length ≤ c0) (hr1 : Kd.C (Kd.int .u8) w A1 l1.length l1) (hc1 : l1.length ≤ c1) (h : morainelaw2_CodecFrames.f k l0 l1 a2 a3 = some r) :
    Calls Try.prog 8 #[.slice A0 l0.length c0, .slice A1 l1.length c1, .int .i64 a2, .int .u8 a3] w fun e w' => e = .returned (.bool r) ∧ Below w.heap.size w w' := by
  have HR0 := Aside0.mk hr0
  have HC0 := Aside0.mk hc0
  clear hr0 hc0
  have HR1 := Aside0.mk hr1
  have HC1 := Aside0.mk hc1
  clear hr1 hc1
  have HB := Aside0.mk (Below.refl w.heap.size w)
  have H : ((morainelaw2_known.f).bind fun t354 => (if t354 = true then (if (l0.length : Int) > 3000 then (some true) else ((codec_Frame.f k l0).bind fun bt355 => ((moraineref2_Frame.f k l0).bind fun bt359 => (if bt355.2 = 0 then ((morainehelp_Bytes.f bt355.1 bt359.1).bind fun t363 => (if t363 = true then ((codec_Sum.f k l0).bind fun t364 => ((moraineref2_Sum.f k l0).bind fun t365 => (morainelaw2_CodecFrames.j0 k l0 l1 a2 a3 bt355.1 (t364 != t365)))) else (morainelaw2_CodecFrames.j0 k l0 l1 a2 a3 bt355.1 true))) else (morainelaw2_CodecFrames.j0 k l0 l1 a2 a3 bt355.1 true))))) else (some false))) = some r := h
  clear h
  replace H := Option.bind_eq_some_iff.mp H
  obtain ⟨t354, A50, H⟩ := H
  replace H : (if t354 = true then (if (l0.length : Int) > 3000 then (some true) else ((codec_Frame.f k l0).bind fun bt355 => ((moraineref2_Frame.f k l0).bind fun bt359 => (if bt355.2 = 0 then ((morainehelp_Bytes.f bt355.1 bt359.1).bind fun t363 => (if t363 = true then ((codec_Sum.f k l0).bind fun t364 => ((moraineref2_Sum.f k l0).bind fun t365 => (morainelaw2_CodecFrames.j0 k l0 l1 a2 a3 bt355.1 (t364 != t365)))) else (morainelaw2_CodecFrames.j0 k l0 l1 a2 a3 bt355.1 true))) else (morainelaw2_CodecFrames.j0 k l0 l1 a2 a3 bt355.1 true))))) else (some false)) = some r := H
  have A5 := Aside0.mk A50
  clear A50
  by_cases c6 : t354 = true
  · subst c6
    have H1 : (if (l0.length : Int) > 3000 then (some true) else ((codec_Frame.f k l0).bind fun bt355 => ((moraineref2_Frame.f k l0).bind fun bt359 => (if bt355.2 = 0 then ((morainehelp_Bytes.f bt355.1 bt359.1).bind fun t363 => (if t363 = true then ((codec_Sum.f k l0).bind fun t364 => ((moraineref2_Sum.f k l0).bind fun t365 => (morainelaw2_CodecFrames.j0 k l0 l1 a2 a3 bt355.1 (t364 != t365)))) else (morainelaw2_CodecFrames.j0 k l0 l1 a2 a3 bt355.1 true))) else (morainelaw2_CodecFrames.j0 k l0 l1 a2 a3 bt355.1 true))))) = some r := by rw [if_pos rfl] at H; exact H
    clear H
    have H := H1
    clear H1
    by_cases c7 : (l0.length : Int) > 3000
    · rw [if_pos c7] at H
      have c7b0 : decide (3000 < (l0.length : Int)) = true := decide_eq_true c7
      have c7b1 : decide (3000 < l0.length) = true := decide_eq_true (by omega)
      clear c7
      obtain rfl := Option.some.inj H
      go_enter Try.func8, Try.ntmps8
      go_wp2_with (first | ((with_reducible refine gate_callee (f := 12) rfl ?_); refine goesL_ (some 16) rfl rfl Try.func12 (by kernel_rfl) rfl #[] rfl (by (try simp only [List.map_toArray, List.map_cons, List.map_nil]); first | done | rfl | (simp only [List.length_drop, List.length_take]; rfl)) ?_; (with_reducible refine (morainelaw2_known.calls  true _ A5.out).mono ?_); rintro e w8 ⟨rfl, hb⟩; refine ⟨_, rfl, ?_⟩; have n0_ := Aside0.mk (below_step (by repeat (first | (with_reducible first | exact HB.out | apply below_alloc | apply pw_below_drewN | apply below_drew1) | exact HB.out)) hb); clear HB; have HB := n0_; clear n0_; (try clear hb); (try clear hb2); (try clear hk); (try clear hi)))
      go_ret
      exact ⟨by first | rfl | (simp [errW_none, errW_some] <;> rfl) | (simp [*, errW_none, errW_some] <;> rfl), by repeat (first | (with_reducible first | exact HB.out | apply below_alloc | apply pw_below_drewN | apply below_drew1) | exact HB.out)⟩
    · rw [if_neg c7] at H
      have c7b0 : decide (3000 < (l0.length : Int)) = false := decide_eq_false c7
      have c7b1 : decide (3000 < l0.length) = false := decide_eq_false (by omega)
      clear c7
      replace H := Option.bind_eq_some_iff.mp H
      obtain ⟨⟨t355, t356⟩, A90, H⟩ := H
      replace H : ((moraineref2_Frame.f k l0).bind fun bt359 => (if t356 = 0 then ((morainehelp_Bytes.f t355 bt359.1).bind fun t363 => (if t363 = true then ((codec_Sum.f k l0).bind fun t364 => ((moraineref2_Sum.f k l0).bind fun t365 => (morainelaw2_CodecFrames.j0 k l0 l1 a2 a3 t355 (t364 != t365)))) else (morainelaw2_CodecFrames.j0 k l0 l1 a2 a3 t355 true))) else (morainelaw2_CodecFrames.j0 k l0 l1 a2 a3 t355 true))) = some r := H
      have A9 := Aside0.mk A90
      clear A90
      replace H := Option.bind_eq_some_iff.mp H
      obtain ⟨⟨t359, t360⟩, A100, H⟩ := H
      replace H : (if t356 = 0 then ((morainehelp_Bytes.f t355 t359).bind fun t363 => (if t363 = true then ((codec_Sum.f k l0).bind fun t364 => ((moraineref2_Sum.f k l0).bind fun t365 => (morainelaw2_CodecFrames.j0 k l0 l1 a2 a3 t355 (t364 != t365)))) else (morainelaw2_CodecFrames.j0 k l0 l1 a2 a3 t355 true))) else (morainelaw2_CodecFrames.j0 k l0 l1 a2 a3 t355 true)) = some r := H
      have A10 := Aside0.mk A100
      clear A100
      have HC11 := Aside0.mk H
      clear H
      go_enter Try.func8, Try.ntmps8
      go_upto_region 7 with (first | ((with_reducible refine gate_callee (f := 12) rfl ?_); refine goesL_ (some 16) rfl rfl Try.func12 (by kernel_rfl) rfl #[] rfl (by (try simp only [List.map_toArray, List.map_cons, List.map_nil]); first | done | rfl | (simp only [List.length_drop, List.length_take]; rfl)) ?_; (with_reducible refine (morainelaw2_known.calls  true _ A5.out).mono ?_); rintro e w12 ⟨rfl, hb⟩; refine ⟨_, rfl, ?_⟩; have n0_ := Aside0.mk (below_step (by repeat (first | (with_reducible first | exact HB.out | apply below_alloc | apply pw_below_drewN | apply below_drew1) | exact HB.out)) hb); clear HB; have HB := n0_; clear n0_; (try clear hb); (try clear hb2); (try clear hk); (try clear hi)) | ((with_reducible refine gate_callee (f := 31) rfl ?_); refine goesL_ (some 23) rfl rfl Try.func31 (by kernel_rfl) rfl #[.slice A0 l0.length c0] rfl (by (try simp only [List.map_toArray, List.map_cons, List.map_nil]); first | done | rfl | (simp only [List.length_drop, List.length_take]; rfl)) ?_; (with_reducible refine (codec_Frame.calls k _ _ l0 t355 t356 _ ?side1 ?side2 A9.out).mono ?_); (case side1 => repeat (first | exact (Kd.C_below HR0.out HB.out) | (with_reducible refine Kd.C_alloc ?_ _) | (with_reducible refine Kd.C_drewN ?_ _) | (with_reducible refine Kd.C_drew ?_))); (case side2 => exact HC0.out); rintro e w13 ⟨v357, rfl, ho0, hb⟩; refine ⟨_, rfl, ?_⟩; have n0_ := Aside0.mk (Kd.R_lower ho0 (below_size (by repeat (first | (with_reducible first | exact HB.out | apply below_alloc | apply pw_below_drewN | apply below_drew1) | exact HB.out)))); have n1_ := Aside0.mk (below_step (by repeat (first | (with_reducible first | exact HB.out | apply below_alloc | apply pw_below_drewN | apply below_drew1) | exact HB.out)) hb); clear HB; have HO358 := n0_; have HB := n1_; clear n0_ n1_; (try clear hb); (try clear hb2); (try clear hk); (try clear hi); (try clear ho0)) | ((with_reducible refine gate_callee (f := 32) rfl ?_); refine goesL_ (some 28) rfl rfl Try.func32 (by kernel_rfl) rfl #[.slice A0 l0.length c0] rfl (by (try simp only [List.map_toArray, List.map_cons, List.map_nil]); first | done | rfl | (simp only [List.length_drop, List.length_take]; rfl)) ?_; (with_reducible refine (moraineref2_Frame.calls k _ _ l0 t359 t360 _ ?side1 ?side2 A10.out).mono ?_); (case side1 => repeat (first | exact (Kd.C_below HR0.out HB.out) | (with_reducible refine Kd.C_alloc ?_ _) | (with_reducible refine Kd.C_drewN ?_ _) | (with_reducible refine Kd.C_drew ?_))); (case side2 => exact HC0.out); rintro e w14 ⟨v361, rfl, ho0, hb⟩; refine ⟨_, rfl, ?_⟩; have n0_ := Aside0.mk (Kd.R_elder' (by (with_reducible repeat (first | apply Kd.R_alloc | apply Kd.R_drewN | apply Kd.R_drew)); exact HO358.out) (Kd.R_base ho0) hb); have n1_ := Aside0.mk (Kd.R_lower (Kd.R_new' ho0 (Kd.R_lt (by (with_reducible repeat (first | apply Kd.R_alloc | apply Kd.R_drewN | apply Kd.R_drew)); exact HO358.out))) (below_size (by repeat (first | (with_reducible first | exact HB.out | apply below_alloc | apply pw_below_drewN | apply below_drew1) | exact HB.out)))); have n2_ := Aside0.mk (below_step (by repeat (first | (with_reducible first | exact HB.out | apply below_alloc | apply pw_below_drewN | apply below_drew1) | exact HB.out)) hb); clear HO358; clear HB; have HO358 := n0_; have HO362 := n1_; have HB := n2_; clear n0_ n1_ n2_; (try clear hb); (try clear hb2); (try clear hk); (try clear hi); (try clear ho0)))
      (try simp only [Act.put, List.setIfInBounds_toArray, List.set_cons_zero, List.set_cons_succ])
      go_cut [45] (fun v45 wc => ∃ (kq : Nat) (x45_10 : Bool), v45 = .bool x45_10 ∧ Aside0 (morainelaw2_CodecFrames.j0 kq l0 l1 a2 a3 t355 x45_10 = some r) ∧ Aside0 (kq ≤ k) ∧ Aside0 (Kd.R (Kd.int .u8) 5 wc w.heap.size (fun _ => True) v357 t355) ∧ Aside0 (Below w.heap.size w wc))
      case first =>
        have H := HC11.out
        clear HC11
        by_cases c15 : t356 = 0
        · rw [if_pos c15] at H
          have c15b0 : (t356 == 0) = true := beq_iff_eq.mpr c15
          have c15b1 : (t356 != 0) = false := bne_eq_false_iff_eq.mpr c15
          clear c15
          (first | rw [c15b0] | (simp only [i64_w, i32_w]; rw [c15b0]) | skip)
          replace H := Option.bind_eq_some_iff.mp H
          obtain ⟨t363, A160, H⟩ := H
          replace H : (if t363 = true then ((codec_Sum.f k l0).bind fun t364 => ((moraineref2_Sum.f k l0).bind fun t365 => (morainelaw2_CodecFrames.j0 k l0 l1 a2 a3 t355 (t364 != t365)))) else (morainelaw2_CodecFrames.j0 k l0 l1 a2 a3 t355 true)) = some r := H
          have A16 := Aside0.mk A160
          clear A160
          by_cases c17 : t363 = true
          · subst c17
            have H1 : ((codec_Sum.f k l0).bind fun t364 => ((moraineref2_Sum.f k l0).bind fun t365 => (morainelaw2_CodecFrames.j0 k l0 l1 a2 a3 t355 (t364 != t365)))) = some r := by rw [if_pos rfl] at H; exact H
            clear H
            have H := H1
            clear H1
            replace H := Option.bind_eq_some_iff.mp H
            obtain ⟨t364, A180, H⟩ := H
            replace H : ((moraineref2_Sum.f k l0).bind fun t365 => (morainelaw2_CodecFrames.j0 k l0 l1 a2 a3 t355 (t364 != t365))) = some r := H
            have A18 := Aside0.mk A180
            clear A180
            replace H := Option.bind_eq_some_iff.mp H
            obtain ⟨t365, A190, H⟩ := H
            replace H : (morainelaw2_CodecFrames.j0 k l0 l1 a2 a3 t355 (t364 != t365)) = some r := H
            have A19 := Aside0.mk A190
            clear A190
            have H' := Aside0.mk H
            clear H
            obtain ⟨Ao20, co20, eo20⟩ := Kd.R_slice HO358.out
            subst eo20
            obtain ⟨Ao21, co21, eo21⟩ := Kd.R_slice HO362.out
            subst eo21
            go_wp2_with (first | (go_at_call 16; (with_reducible refine (morainehelp_Bytes.calls _ _ t355 _ _ t359 true _ ?side1 ?side2 ?side3 ?side4 A16.out).mono ?_); (case side1 => repeat (first | exact (Kd.R_reads' HO358.out).2.2 | (with_reducible refine Kd.C_alloc ?_ _) | (with_reducible refine Kd.C_drewN ?_ _) | (with_reducible refine Kd.C_drew ?_))); (case side2 => exact (Kd.R_reads' HO358.out).2.1); (case side3 => repeat (first | exact (Kd.R_reads' HO362.out).2.2 | (with_reducible refine Kd.C_alloc ?_ _) | (with_reducible refine Kd.C_drewN ?_ _) | (with_reducible refine Kd.C_drew ?_))); (case side4 => exact (Kd.R_reads' HO362.out).2.1); rintro e w' ⟨rfl, ⟨nd, rfl⟩⟩) | (go_at_call 13; (with_reducible refine (codec_Sum.calls k _ _ l0 t364 _ ?side1 ?side2 A18.out).mono ?_); (case side1 => repeat (first | exact (Kd.C_below HR0.out (by repeat (first | (with_reducible first | exact HB.out | apply below_alloc | apply pw_below_drewN | apply below_drew1) | exact HB.out))) | (with_reducible refine Kd.C_alloc ?_ _) | (with_reducible refine Kd.C_drewN ?_ _) | (with_reducible refine Kd.C_drew ?_))); (case side2 => exact HC0.out); rintro e w' ⟨rfl, ⟨nd, rfl⟩⟩) | (go_at_call 33; (with_reducible refine (moraineref2_Sum.calls k _ _ l0 t365 _ ?side1 ?side2 A19.out).mono ?_); (case side1 => repeat (first | exact (Kd.C_below HR0.out (by repeat (first | (with_reducible first | exact HB.out | apply below_alloc | apply pw_below_drewN | apply below_drew1) | exact HB.out))) | (with_reducible refine Kd.C_alloc ?_ _) | (with_reducible refine Kd.C_drewN ?_ _) | (with_reducible refine Kd.C_drew ?_))); (case side2 => exact HC0.out); rintro e w' ⟨rfl, ⟨nd, rfl⟩⟩))
            go_meet
            case rel => exact ⟨_, ((t364 != t365)), (by first | rfl | (simp; done) | (simp [*]; done)), H', ⟨by first | omega | exact Nat.le_refl _⟩, ⟨by (with_reducible repeat (first | apply Kd.R_alloc | apply Kd.R_drewN | apply Kd.R_drew)); exact Kd.R_mono HO358.out (fun _ hk => trivial)⟩, ⟨by repeat (first | (with_reducible first | exact HB.out | apply below_alloc | apply pw_below_drewN | apply below_drew1) | exact HB.out)⟩⟩
          · replace c17 := Bool.eq_false_iff.mpr c17
            subst c17
            have H1 : (morainelaw2_CodecFrames.j0 k l0 l1 a2 a3 t355 true) = some r := by rw [if_neg (show ¬ (false = true) by decide)] at H; exact H
            clear H
            have H := H1
            clear H1
            have H' := Aside0.mk H
            clear H
            obtain ⟨Ao22, co22, eo22⟩ := Kd.R_slice HO358.out
            subst eo22
            obtain ⟨Ao23, co23, eo23⟩ := Kd.R_slice HO362.out
            subst eo23
            go_wp2_with (first | (go_at_call 16; (with_reducible refine (morainehelp_Bytes.calls _ _ t355 _ _ t359 false _ ?side1 ?side2 ?side3 ?side4 A16.out).mono ?_); (case side1 => repeat (first | exact (Kd.R_reads' HO358.out).2.2 | (with_reducible refine Kd.C_alloc ?_ _) | (with_reducible refine Kd.C_drewN ?_ _) | (with_reducible refine Kd.C_drew ?_))); (case side2 => exact (Kd.R_reads' HO358.out).2.1); (case side3 => repeat (first | exact (Kd.R_reads' HO362.out).2.2 | (with_reducible refine Kd.C_alloc ?_ _) | (with_reducible refine Kd.C_drewN ?_ _) | (with_reducible refine Kd.C_drew ?_))); (case side4 => exact (Kd.R_reads' HO362.out).2.1); rintro e w' ⟨rfl, ⟨nd, rfl⟩⟩))
            go_meet
            case rel => exact ⟨_, (true), (by first | rfl | (simp; done) | (simp [*]; done)), H', ⟨by first | omega | exact Nat.le_refl _⟩, ⟨by (with_reducible repeat (first | apply Kd.R_alloc | apply Kd.R_drewN | apply Kd.R_drew)); exact Kd.R_mono HO358.out (fun _ hk => trivial)⟩, ⟨by repeat (first | (with_reducible first | exact HB.out | apply below_alloc | apply pw_below_drewN | apply below_drew1) | exact HB.out)⟩⟩
        · rw [if_neg c15] at H
          have c15b0 : (t356 == 0) = false := beq_eq_false_iff_ne.mpr c15
          have c15b1 : (t356 != 0) = true := bne_iff_ne.mpr c15
          (first | rw [c15b0] | (simp only [i64_w, i32_w]; rw [c15b0]) | skip)
          have H' := Aside0.mk H
          clear H
          go_wp2
          go_meet
          case rel => exact ⟨_, (true), (by first | rfl | (simp; done) | (simp [*]; done)), H', ⟨by first | omega | exact Nat.le_refl _⟩, ⟨by (with_reducible repeat (first | apply Kd.R_alloc | apply Kd.R_drewN | apply Kd.R_drew)); exact Kd.R_mono HO358.out (fun _ hk => trivial)⟩, ⟨by repeat (first | (with_reducible first | exact HB.out | apply below_alloc | apply pw_below_drewN | apply below_drew1) | exact HB.out)⟩⟩
      case rest =>
        clear HC11
        try clear c1
        try clear p2
        try clear c3
        try clear c6
        try clear c7
        try clear c7b0
        try clear c7b1
        try clear c8
        try clear c12
        try clear c15
        try clear c15b0
        try clear c15b1
        try clear c17
        obtain ⟨kq, x45_10, rfl, HA, HJ10, HO_9, HB⟩ := hcut
        cases kq with
        | zero => exact absurd HA.out (by simp [morainelaw2_CodecFrames.j0])
        | succ kj10 =>
          have H := HA.out
          clear HA
          simp only [morainelaw2_CodecFrames.j0] at H
          by_cases c24 : x45_10 = true
          · subst c24
            have H1 : (some false) = some r := by rw [if_pos rfl] at H; exact H
            clear H
            have H := H1
            clear H1
            obtain rfl := Option.some.inj H
            go_wp2
            go_ret
            exact ⟨by first | rfl | (simp [errW_none, errW_some] <;> rfl) | (simp [*, errW_none, errW_some] <;> rfl), by repeat (first | (with_reducible first | exact HB.out | apply below_alloc | apply pw_below_drewN | apply below_drew1) | exact HB.out)⟩
          · replace c24 := Bool.eq_false_iff.mpr c24
            subst c24
            have H1 : (if ([] : List Int).length + t355.length < 140737488355328 then ((some (([] : List Int) ++ t355 : List Int)).bind fun y366 => (if y366.length + l1.length < 140737488355328 then ((codec_Unframe.f kj10 (y366 ++ l1)).bind fun bt372 => (if bt372.2.2 = 0 then (if bt372.2.1 = (t355.length : Int) then ((morainehelp_Bytes.f l0 bt372.1).bind fun t377 => (morainelaw2_CodecFrames.j1 kj10 l0 a2 a3 t355 (!t377))) else (morainelaw2_CodecFrames.j1 kj10 l0 a2 a3 t355 true)) else (morainelaw2_CodecFrames.j1 kj10 l0 a2 a3 t355 true))) else (none))) else (none)) = some r := by rw [if_neg (show ¬ (false = true) by decide)] at H; exact H
            clear H
            have H := H1
            clear H1
            by_cases c25 : ([] : List Int).length + t355.length < 140737488355328
            · rw [if_pos c25] at H
              have LMc25 := Aside0.mk c25
              clear c25
              obtain ⟨y366, hy366⟩ : ∃ y_ : List Int, y_ = (([] : List Int) ++ t355) := ⟨_, rfl⟩
              replace H : (if y366.length + l1.length < 140737488355328 then ((codec_Unframe.f kj10 (y366 ++ l1)).bind fun bt372 => (if bt372.2.2 = 0 then (if bt372.2.1 = (t355.length : Int) then ((morainehelp_Bytes.f l0 bt372.1).bind fun t377 => (morainelaw2_CodecFrames.j1 kj10 l0 a2 a3 t355 (!t377))) else (morainelaw2_CodecFrames.j1 kj10 l0 a2 a3 t355 true)) else (morainelaw2_CodecFrames.j1 kj10 l0 a2 a3 t355 true))) else (none)) = some r := by first | (rw [hy366]; with_reducible exact H) | (have H2_ := (Option.bind_some _ _).symm.trans H; rw [hy366]; with_reducible exact H2_) | (have H2_ := (Option.bind_some _ _).symm.trans H; with_reducible exact H2_) | with_reducible exact H | (rw [hy366]; exact H) | exact H
              have Ny366 := Aside0.mk hy366
              clear hy366
              by_cases c26 : y366.length + l1.length < 140737488355328
              · rw [if_pos c26] at H
                have LMc26 := Aside0.mk c26
                clear c26
                obtain ⟨y369, hy369⟩ : ∃ y_ : List Int, y_ = (y366 ++ l1) := ⟨_, rfl⟩
                replace H : ((codec_Unframe.f kj10 y369).bind fun bt372 => (if bt372.2.2 = 0 then (if bt372.2.1 = (t355.length : Int) then ((morainehelp_Bytes.f l0 bt372.1).bind fun t377 => (morainelaw2_CodecFrames.j1 kj10 l0 a2 a3 t355 (!t377))) else (morainelaw2_CodecFrames.j1 kj10 l0 a2 a3 t355 true)) else (morainelaw2_CodecFrames.j1 kj10 l0 a2 a3 t355 true))) = some r := by first | (rw [hy369]; with_reducible exact H) | (have H2_ := (Option.bind_some _ _).symm.trans H; rw [hy369]; with_reducible exact H2_) | (have H2_ := (Option.bind_some _ _).symm.trans H; with_reducible exact H2_) | with_reducible exact H | (rw [hy369]; exact H) | exact H
                have Ny369 := Aside0.mk hy369
                clear hy369
                replace H := Option.bind_eq_some_iff.mp H
                obtain ⟨⟨t372, t373, t374⟩, A270, H⟩ := H
                replace H : (if t374 = 0 then (if t373 = (t355.length : Int) then ((morainehelp_Bytes.f l0 t372).bind fun t377 => (morainelaw2_CodecFrames.j1 kj10 l0 a2 a3 t355 (!t377))) else (morainelaw2_CodecFrames.j1 kj10 l0 a2 a3 t355 true)) else (morainelaw2_CodecFrames.j1 kj10 l0 a2 a3 t355 true)) = some r := H
                have A27 := Aside0.mk A270
                clear A270
                have HC28 := Aside0.mk H
                clear H
                obtain ⟨Ao30, co30, eo30⟩ := Kd.R_slice HO_9.out
                subst eo30
                go_upto_region 10 with (first | ((with_reducible refine gate_builtin (b := .append) (xs := #[.const (.slice none 0 0), .tmp 47]) rfl ?_); (try (refine gate_guard (by rfl) ?_; dsimp only)); at_builtin; refine Kd.R_append_rows (Kd.int .u8) (w0 := w) w.heap.size rfl (.const (.slice none 0 0)) (.tmp 47) 22 5 (.int .u8 0) 1 rfl Try.underlying22 info5 rfl (by decide) (by omega) (.slice none 0 0) ([] : List Int) t355 _ _ _ (fun k_ => some k_ ≠ (.slice Ao30 t355.length co30 : Value).ownBlock) (fun _ => False) rfl rfl ?aO ?aR (fun _ _ h => h) (fun _ h => h.elim) ?aF ?aB ?aS ?aL ?_; (case aR => repeat (first | exact (Kd.R_reads' HO_9.out).2.2 | (with_reducible refine Kd.C_alloc ?_ _) | (with_reducible refine Kd.C_drewN ?_ _) | (with_reducible refine Kd.C_drew ?_))); (case aB => exact (by repeat (first | (with_reducible first | exact HB.out | apply below_alloc | apply pw_below_drewN | apply below_drew1) | exact HB.out))); (case aF => exact (fun k_ hk => Kd.fresh' (Kd.R_lt (by (with_reducible repeat (first | apply Kd.R_alloc | apply Kd.R_drewN | apply Kd.R_drew)); exact HO_9.out)) k_ hk)); (case aO => exact ((Kd.R_nil _ _ _ _ (fun k_ => some k_ ≠ (.slice Ao30 t355.length co30 : Value).ownBlock)))); (case aS => exact (below_size (by repeat (first | (with_reducible first | exact HB.out | apply below_alloc | apply pw_below_drewN | apply below_drew1) | exact HB.out)))); (case aL => have := LMc25.out; omega); intro v367 w29 ho hb hg hat; rw [← Ny366.out] at ho; have n0_ := Aside0.mk (Kd.R_after (Kd.R_apart_nil (by (with_reducible repeat (first | apply Kd.R_alloc | apply Kd.R_drewN | apply Kd.R_drew)); exact HO_9.out)) hg hat); have n1_ := Aside0.mk (hb); have n2_ := Aside0.mk (ho); clear HO_9; clear HB; have HO_9 := n0_; have HB := n1_; have HO368 := n2_; clear n0_ n1_ n2_; clear ho hb hg hat) | ((with_reducible refine gate_builtin (b := .append) (xs := #[.tmp 48, .tmp 49]) rfl ?_); (try (refine gate_guard (by rfl) ?_; dsimp only)); at_builtin; refine Kd.R_append_rows (Kd.int .u8) (w0 := w) w.heap.size rfl (.tmp 48) (.tmp 49) 22 5 (.int .u8 0) 1 rfl Try.underlying22 info5 rfl (by decide) (by omega) v367 y366 l1 _ _ _ (fun k_ => some k_ ≠ (.slice Ao30 t355.length co30 : Value).ownBlock) (fun _ => False) rfl rfl ?aO ?aR (fun _ _ h => h) (fun _ h => h.elim) ?aF ?aB ?aS ?aL ?_; (case aR => repeat (first | exact (Kd.C_below HR1.out HB.out) | (with_reducible refine Kd.C_alloc ?_ _) | (with_reducible refine Kd.C_drewN ?_ _) | (with_reducible refine Kd.C_drew ?_))); (case aB => exact (by repeat (first | (with_reducible first | exact HB.out | apply below_alloc | apply pw_below_drewN | apply below_drew1) | exact HB.out))); (case aF => exact (fun k_ hk => Kd.fresh' (Kd.R_lt (by (with_reducible repeat (first | apply Kd.R_alloc | apply Kd.R_drewN | apply Kd.R_drew)); exact HO_9.out)) k_ hk)); (case aO => exact (by (with_reducible repeat (first | apply Kd.R_alloc | apply Kd.R_drewN | apply Kd.R_drew)); exact HO368.out)); (case aS => exact (below_size (by repeat (first | (with_reducible first | exact HB.out | apply below_alloc | apply pw_below_drewN | apply below_drew1) | exact HB.out)))); (case aL => have := LMc26.out; omega); intro v370 w31 ho hb hg hat; rw [← Ny369.out] at ho; have n0_ := Aside0.mk (Kd.R_after (ok := (fun _ => True)) (by (with_reducible repeat (first | apply Kd.R_alloc | apply Kd.R_drewN | apply Kd.R_drew)); exact HO_9.out) hg hat); have n1_ := Aside0.mk (hb); have n2_ := Aside0.mk (ho); clear HO_9; clear HB; clear HO368; have HO_9 := n0_; have HB := n1_; have HO371 := n2_; clear n0_ n1_ n2_; clear ho hb hg hat; obtain ⟨Ao32, co32, eo32⟩ := Kd.R_slice HO371.out; subst eo32) | ((with_reducible refine gate_callee (f := 29) rfl ?_); refine goesL_ (some 51) rfl rfl Try.func29 (by kernel_rfl) rfl #[.slice Ao32 y369.length co32] rfl (by (try simp only [List.map_toArray, List.map_cons, List.map_nil]); first | done | rfl | (simp only [List.length_drop, List.length_take]; rfl)) ?_; (with_reducible refine (codec_Unframe.calls kj10 _ _ y369 t372 t373 t374 _ ?side1 ?side2 A27.out).mono ?_); (case side1 => repeat (first | exact (Kd.R_reads' HO371.out).2.2 | (with_reducible refine Kd.C_alloc ?_ _) | (with_reducible refine Kd.C_drewN ?_ _) | (with_reducible refine Kd.C_drew ?_))); (case side2 => exact (Kd.R_reads' HO371.out).2.1); rintro e w33 ⟨v375, rfl, ho0, hb⟩; refine ⟨_, rfl, ?_⟩; have n0_ := Aside0.mk (Kd.R_elder' (by (with_reducible repeat (first | apply Kd.R_alloc | apply Kd.R_drewN | apply Kd.R_drew)); exact HO_9.out) (Kd.R_base ho0) hb); have n1_ := Aside0.mk (Kd.R_elder' (by (with_reducible repeat (first | apply Kd.R_alloc | apply Kd.R_drewN | apply Kd.R_drew)); exact HO371.out) (Kd.R_base ho0) hb); have n2_ := Aside0.mk (Kd.R_lower (Kd.R_new' (Kd.R_new' ho0 (Kd.R_lt (by (with_reducible repeat (first | apply Kd.R_alloc | apply Kd.R_drewN | apply Kd.R_drew)); exact HO_9.out))) (Kd.R_lt (by (with_reducible repeat (first | apply Kd.R_alloc | apply Kd.R_drewN | apply Kd.R_drew)); exact HO371.out))) (below_size (by repeat (first | (with_reducible first | exact HB.out | apply below_alloc | apply pw_below_drewN | apply below_drew1) | exact HB.out)))); have n3_ := Aside0.mk (below_step (by repeat (first | (with_reducible first | exact HB.out | apply below_alloc | apply pw_below_drewN | apply below_drew1) | exact HB.out)) hb); clear HO_9; clear HO371; clear HB; have HO_9 := n0_; have HO371 := n1_; have HO376 := n2_; have HB := n3_; clear n0_ n1_ n2_ n3_; (try clear hb); (try clear hb2); (try clear hk); (try clear hi); (try clear ho0)))
                (try simp only [Act.put, List.setIfInBounds_toArray, List.set_cons_zero, List.set_cons_succ])
                go_cut [68] (fun v68 wc => ∃ (kq : Nat) (x68_27 : Bool), v68 = .bool x68_27 ∧ Aside0 (morainelaw2_CodecFrames.j1 kq l0 a2 a3 t355 x68_27 = some r) ∧ Aside0 (kq ≤ kj10) ∧ Aside0 (Kd.R (Kd.int .u8) 5 wc w.heap.size (fun _ => True) (.slice Ao30 t355.length co30) t355) ∧ Aside0 (Below w.heap.size w wc))
                case first =>
                  have H := HC28.out
                  clear HC28
                  by_cases c34 : t374 = 0
                  · rw [if_pos c34] at H
                    have c34b0 : (t374 == 0) = true := beq_iff_eq.mpr c34
                    have c34b1 : (t374 != 0) = false := bne_eq_false_iff_eq.mpr c34
                    clear c34
                    (first | rw [c34b0] | (simp only [i64_w, i32_w]; rw [c34b0]) | skip)
                    by_cases c35 : t373 = (t355.length : Int)
                    · rw [if_pos c35] at H
                      have c35b0 : (t373 == (t355.length : Int)) = true := beq_iff_eq.mpr c35
                      have c35b1 : (t373 != (t355.length : Int)) = false := bne_eq_false_iff_eq.mpr c35
                      clear c35
                      replace H := Option.bind_eq_some_iff.mp H
                      obtain ⟨t377, A360, H⟩ := H
                      replace H : (morainelaw2_CodecFrames.j1 kj10 l0 a2 a3 t355 (!t377)) = some r := H
                      have A36 := Aside0.mk A360
                      clear A360
                      have H' := Aside0.mk H
                      clear H
                      obtain ⟨Ao37, co37, eo37⟩ := Kd.R_slice HO376.out
                      subst eo37
                      go_wp2_with (first | (go_at_call 16; (with_reducible refine (morainehelp_Bytes.calls _ _ l0 _ _ t372 t377 _ ?side1 ?side2 ?side3 ?side4 A36.out).mono ?_); (case side1 => repeat (first | exact (Kd.C_below HR0.out HB.out) | (with_reducible refine Kd.C_alloc ?_ _) | (with_reducible refine Kd.C_drewN ?_ _) | (with_reducible refine Kd.C_drew ?_))); (case side2 => exact HC0.out); (case side3 => repeat (first | exact (Kd.R_reads' HO376.out).2.2 | (with_reducible refine Kd.C_alloc ?_ _) | (with_reducible refine Kd.C_drewN ?_ _) | (with_reducible refine Kd.C_drew ?_))); (case side4 => exact (Kd.R_reads' HO376.out).2.1); rintro e w' ⟨rfl, ⟨nd, rfl⟩⟩))
                      go_meet
                      case rel => exact ⟨_, (!t377), (by first | rfl | (simp; done) | (simp [*]; done)), H', ⟨by have := HJ10.out; first | omega | exact Nat.le_refl _⟩, ⟨by (with_reducible repeat (first | apply Kd.R_alloc | apply Kd.R_drewN | apply Kd.R_drew)); exact Kd.R_mono HO_9.out (fun _ hk => trivial)⟩, ⟨by repeat (first | (with_reducible first | exact HB.out | apply below_alloc | apply pw_below_drewN | apply below_drew1) | exact HB.out)⟩⟩
                    · rw [if_neg c35] at H
                      have c35b0 : (t373 == (t355.length : Int)) = false := beq_eq_false_iff_ne.mpr c35
                      have c35b1 : (t373 != (t355.length : Int)) = true := bne_iff_ne.mpr c35
                      have H' := Aside0.mk H
                      clear H
                      go_wp2
                      go_meet
                      case rel => exact ⟨_, (true), (by first | rfl | (simp; done) | (simp [*]; done)), H', ⟨by have := HJ10.out; first | omega | exact Nat.le_refl _⟩, ⟨by (with_reducible repeat (first | apply Kd.R_alloc | apply Kd.R_drewN | apply Kd.R_drew)); exact Kd.R_mono HO_9.out (fun _ hk => trivial)⟩, ⟨by repeat (first | (with_reducible first | exact HB.out | apply below_alloc | apply pw_below_drewN | apply below_drew1) | exact HB.out)⟩⟩
                  · rw [if_neg c34] at H
                    have c34b0 : (t374 == 0) = false := beq_eq_false_iff_ne.mpr c34
                    have c34b1 : (t374 != 0) = true := bne_iff_ne.mpr c34
                    (first | rw [c34b0] | (simp only [i64_w, i32_w]; rw [c34b0]) | skip)
                    have H' := Aside0.mk H
                    clear H
                    go_wp2
                    go_meet
                    case rel => exact ⟨_, (true), (by first | rfl | (simp; done) | (simp [*]; done)), H', ⟨by have := HJ10.out; first | omega | exact Nat.le_refl _⟩, ⟨by (with_reducible repeat (first | apply Kd.R_alloc | apply Kd.R_drewN | apply Kd.R_drew)); exact Kd.R_mono HO_9.out (fun _ hk => trivial)⟩, ⟨by repeat (first | (with_reducible first | exact HB.out | apply below_alloc | apply pw_below_drewN | apply below_drew1) | exact HB.out)⟩⟩
                case rest =>
                  clear HC28
                  try clear c1
                  try clear c2
                  try clear p2
                  try clear c3
                  try clear c6
                  try clear c7
                  try clear c7b0
                  try clear c7b1
                  try clear c8
                  try clear c12
                  try clear c15
                  try clear c15b0
                  try clear c15b1
                  try clear c17
                  try clear c24
                  try clear c25
                  try clear c26
                  try clear c29
                  try clear c31
                  try clear c32
                  try clear c34
                  try clear c34b0
                  try clear c34b1
                  try clear c35
                  try clear c35b0
                  try clear c35b1
                  try clear p2
                  obtain ⟨kq, x68_27, rfl, HA, HJ27, HO_9, HB⟩ := hcut
                  cases kq with
                  | zero => exact absurd HA.out (by simp [morainelaw2_CodecFrames.j1])
                  | succ kj27 =>
                    have H := HA.out
                    clear HA
                    simp only [morainelaw2_CodecFrames.j1] at H
                    by_cases c38 : x68_27 = true
                    · subst c38
                      have H1 : (some false) = some r := by rw [if_pos rfl] at H; exact H
                      clear H
                      have H := H1
                      clear H1
                      obtain rfl := Option.some.inj H
                      go_wp2
                      go_ret
                      exact ⟨by first | rfl | (simp [errW_none, errW_some] <;> rfl) | (simp [*, errW_none, errW_some] <;> rfl), by repeat (first | (with_reducible first | exact HB.out | apply below_alloc | apply pw_below_drewN | apply below_drew1) | exact HB.out)⟩
                    · replace c38 := Bool.eq_false_iff.mpr c38
                      subst c38
                      have H1 : (if a2 < 0 then (some true) else (if a2 ≥ (t355.length : Int) then (some true) else (if a2 ≥ 4 then (if a2 < (wrap64 ((t355.length : Int) - (l0.length : Int))) then (some true) else (if a3 = 0 then (some true) else (if 0 ≤ a2 then (if a2 < (t355.length : Int) then ((codec_Unframe.f kj27 (t355.set (a2 : Int).toNat (Go.bits .xor .u8 (rd t355 a2) a3))).bind fun bt380 => (if bt380.2.2 = 22 then (if bt380.2.1 = 0 then (some ((bt380.1.length : Int) == 0)) else (some false)) else (some false))) else (none)) else (none)))) else (if a3 = 0 then (some true) else (if 0 ≤ a2 then (if a2 < (t355.length : Int) then ((codec_Unframe.f kj27 (t355.set (a2 : Int).toNat (Go.bits .xor .u8 (rd t355 a2) a3))).bind fun bt387 => (if bt387.2.2 = 22 then (if bt387.2.1 = 0 then (some ((bt387.1.length : Int) == 0)) else (some false)) else (some false))) else (none)) else (none)))))) = some r := by rw [if_neg (show ¬ (false = true) by decide)] at H; exact H
                      clear H
                      have H := H1
                      clear H1
                      by_cases c39 : a2 < 0
                      · rw [if_pos c39] at H
                        have c39b0 : decide (a2 < 0) = true := decide_eq_true c39
                        clear c39
                        obtain rfl := Option.some.inj H
                        go_wp2
                        go_ret
                        exact ⟨by first | rfl | (simp [errW_none, errW_some] <;> rfl) | (simp [*, errW_none, errW_some] <;> rfl), by repeat (first | (with_reducible first | exact HB.out | apply below_alloc | apply pw_below_drewN | apply below_drew1) | exact HB.out)⟩
                      · rw [if_neg c39] at H
                        have c39b0 : decide (a2 < 0) = false := decide_eq_false c39
                        clear c39
                        by_cases c40 : a2 ≥ (t355.length : Int)
                        · rw [if_pos c40] at H
                          have c40b0 : decide ((t355.length : Int) ≤ a2) = true := decide_eq_true c40
                          clear c40
                          obtain rfl := Option.some.inj H
                          go_wp2
                          go_ret
                          exact ⟨by first | rfl | (simp [errW_none, errW_some] <;> rfl) | (simp [*, errW_none, errW_some] <;> rfl), by repeat (first | (with_reducible first | exact HB.out | apply below_alloc | apply pw_below_drewN | apply below_drew1) | exact HB.out)⟩
                        · rw [if_neg c40] at H
                          have c40b0 : decide ((t355.length : Int) ≤ a2) = false := decide_eq_false c40
                          clear c40
                          by_cases c41 : a2 ≥ 4
                          · rw [if_pos c41] at H
                            have c41b0 : decide (4 ≤ a2) = true := decide_eq_true c41
                            clear c41
                            by_cases c42 : a2 < (wrap64 ((t355.length : Int) - (l0.length : Int)))
                            · rw [if_pos c42] at H
                              have c42b0 : decide (a2 < (wrap64 ((t355.length : Int) - (l0.length : Int)))) = true := decide_eq_true c42
                              clear c42
                              obtain rfl := Option.some.inj H
                              go_wp2
                              go_ret
                              exact ⟨by first | rfl | (simp [errW_none, errW_some] <;> rfl) | (simp [*, errW_none, errW_some] <;> rfl), by repeat (first | (with_reducible first | exact HB.out | apply below_alloc | apply pw_below_drewN | apply below_drew1) | exact HB.out)⟩
                            · rw [if_neg c42] at H
                              have c42b0 : decide (a2 < (wrap64 ((t355.length : Int) - (l0.length : Int)))) = false := decide_eq_false c42
                              clear c42
                              by_cases c43 : a3 = 0
                              · rw [if_pos c43] at H
                                have c43b0 : (a3 == 0) = true := beq_iff_eq.mpr c43
                                have c43b1 : (a3 != 0) = false := bne_eq_false_iff_eq.mpr c43
                                clear c43
                                obtain rfl := Option.some.inj H
                                go_wp2
                                go_ret
                                exact ⟨by first | rfl | (simp [errW_none, errW_some] <;> rfl) | (simp [*, errW_none, errW_some] <;> rfl), by repeat (first | (with_reducible first | exact HB.out | apply below_alloc | apply pw_below_drewN | apply below_drew1) | exact HB.out)⟩
                              · rw [if_neg c43] at H
                                have c43b0 : (a3 == 0) = false := beq_eq_false_iff_ne.mpr c43
                                have c43b1 : (a3 != 0) = true := bne_iff_ne.mpr c43
                                by_cases c44 : 0 ≤ a2
                                · rw [if_pos c44] at H
                                  have c44b0 : decide (0 ≤ a2) = true := decide_eq_true c44
                                  clear c44
                                  by_cases c45 : a2 < (t355.length : Int)
                                  · rw [if_pos c45] at H
                                    have c45b0 : decide (a2 < (t355.length : Int)) = true := decide_eq_true c45
                                    clear c45
                                    obtain ⟨y379, hy379⟩ : ∃ y_ : List Int, y_ = (t355.set (a2 : Int).toNat (Go.bits .xor .u8 (rd t355 a2) a3)) := ⟨_, rfl⟩
                                    replace H : ((codec_Unframe.f kj27 y379).bind fun bt380 => (if bt380.2.2 = 22 then (if bt380.2.1 = 0 then (some ((bt380.1.length : Int) == 0)) else (some false)) else (some false))) = some r := by first | (rw [hy379]; with_reducible exact H) | (have H2_ := (Option.bind_some _ _).symm.trans H; rw [hy379]; with_reducible exact H2_) | (have H2_ := (Option.bind_some _ _).symm.trans H; with_reducible exact H2_) | with_reducible exact H | (rw [hy379]; exact H) | exact H
                                    have Ny379 := Aside0.mk hy379
                                    clear hy379
                                    replace H := Option.bind_eq_some_iff.mp H
                                    obtain ⟨⟨t380, t381, t382⟩, A470, H⟩ := H
                                    replace H : (if t382 = 22 then (if t381 = 0 then (some ((t380.length : Int) == 0)) else (some false)) else (some false)) = some r := H
                                    have A47 := Aside0.mk A470
                                    clear A470
                                    by_cases c48 : t382 = 22
                                    · rw [if_pos c48] at H
                                      have c48b0 : (t382 == 22) = true := beq_iff_eq.mpr c48
                                      have c48b1 : (t382 != 22) = false := bne_eq_false_iff_eq.mpr c48
                                      clear c48
                                      by_cases c49 : t381 = 0
                                      · rw [if_pos c49] at H
                                        have c49b0 : (t381 == 0) = true := beq_iff_eq.mpr c49
                                        have c49b1 : (t381 != 0) = false := bne_eq_false_iff_eq.mpr c49
                                        clear c49
                                        obtain rfl := Option.some.inj H
                                        have p378 : 0 ≤ (a2 : Int) := of_decide_eq_true (by first | (with_reducible assumption) | assumption)
                                        have q378 : a2 < (t355.length : Int) := of_decide_eq_true (by first | (with_reducible assumption) | assumption)
                                        obtain ⟨ad378, e378, hx378_0⟩ := Kd.at_int (Kd.R_reads' HO_9.out).2.2 a2 p378 q378
                                        cases e378
                                        replace p378 := eq_true p378
                                        replace q378 := eq_true q378
                                        have p46 : 0 ≤ (a2 : Int) := of_decide_eq_true (by first | (with_reducible assumption) | assumption)
                                        have q46 : (a2 : Int) < ((t355.length : Int) : Int) := of_decide_eq_true (by first | (with_reducible assumption) | assumption)
                                        obtain ⟨go46, co46, eo46, gb46, gl46, cl46, HG46⟩ := Kd.R_form HO_9.out (by omega)
                                        (first | cases eo46 | (injection eo46 with ea_ en_ ec_; (first | subst ea_ | (injection ea_ with ea_; subst ea_)); subst ec_; clear en_))
                                        have GB46 := Aside0.mk gb46
                                        have GG46 := Aside0.mk HG46
                                        clear gb46 gl46 HG46
                                        (first | simp only [add_plain] at hx378_0 | skip)
                                        obtain ⟨hx46_0, hf46_0⟩ := Kd.R_celln 0 HO_9.out (a2 : Int) p46 q46
                                        replace p46 := eq_true p46
                                        replace q46 := eq_true q46
                                        have HP50 := Kd.R_putg HO_9.out (a2 : Int) (Go.bits .xor .u8 (rd t355 a2) a3)
                                        go_wp2_with (first | ((with_reducible refine gate_store (t := 5) (p := 103) rfl ?_); refine store_event (t := 5) (p := 103) (v := ?vo_w51) (w1 := (wc.setCell ⟨go46, (a2 : Int).toNat, none⟩ (.int .u8 (Go.bits .xor .u8 (rd t355 a2) a3)))) ?hg ?ho ?hn ?hr ?_; (case ho => rfl); (case hg => rfl); (case hn => rfl); (case hr => first | (go_simp; done) | (go_simp; rfl)); intro w51 hw; have hg : wc.grownBy w51 (some go46) := (by rw [hw]; exact HP50.2); have hp_ : Kd.R (Kd.int .u8) 5 w51 w.heap.size (fun _ => True) (.slice (some ⟨go46, 0, none⟩) t355.length co30) y379 := (by rw [hw, Ny379.out]; exact HP50.1); clear HP50; have n0_ := Aside0.mk (hp_); have n1_ := Aside0.mk ((by rw [hw]; exact below_set (HB.out) GB46.out : Below w.heap.size w w51)); clear HO_9; clear HB; have HO_9 := n0_; have HB := n1_; clear n0_ n1_; clear hg hw hp_) | ((with_reducible refine gate_callee (f := 29) rfl ?_); refine goesL_ (some 106) rfl rfl Try.func29 (by kernel_rfl) rfl #[.slice (some ⟨go46, 0, none⟩) y379.length co30] rfl (by (try simp only [List.map_toArray, List.map_cons, List.map_nil]); first | done | (rw [show y379.length = t355.length from (Kd.R_reads' HO_9.out).1.symm] <;> rfl) | rfl | (simp only [List.length_drop, List.length_take]; rfl)) ?_; (with_reducible refine (codec_Unframe.calls kj27 _ _ y379 t380 t381 t382 _ ?side1 ?side2 A47.out).mono ?_); (case side1 => repeat (first | exact (Kd.R_reads' HO_9.out).2.2 | (with_reducible refine Kd.C_alloc ?_ _) | (with_reducible refine Kd.C_drewN ?_ _) | (with_reducible refine Kd.C_drew ?_))); (case side2 => rw [show y379.length = t355.length from (Kd.R_reads' HO_9.out).1.symm]; exact (Kd.R_reads' HO_9.out).2.1); rintro e w52 ⟨v383, rfl, ho0, hb⟩; refine ⟨_, rfl, ?_⟩; have n0_ := Aside0.mk (Kd.R_elder' (by (with_reducible repeat (first | apply Kd.R_alloc | apply Kd.R_drewN | apply Kd.R_drew)); exact HO_9.out) (Kd.R_base ho0) hb); have n1_ := Aside0.mk (Kd.R_lower (Kd.R_new' ho0 (Kd.R_lt (by (with_reducible repeat (first | apply Kd.R_alloc | apply Kd.R_drewN | apply Kd.R_drew)); exact HO_9.out))) (below_size (by repeat (first | (with_reducible first | exact HB.out | apply below_alloc | apply pw_below_drewN | apply below_drew1) | exact HB.out)))); have n2_ := Aside0.mk (below_step (by repeat (first | (with_reducible first | exact HB.out | apply below_alloc | apply pw_below_drewN | apply below_drew1) | exact HB.out)) hb); clear HO_9; clear HB; have HO_9 := n0_; have HO384 := n1_; have HB := n2_; clear n0_ n1_ n2_; (try clear hb); (try clear hb2); (try clear hk); (try clear hi); (try clear ho0); obtain ⟨Ao53, co53, eo53⟩ := Kd.R_slice HO384.out; subst eo53))
                                        go_ret
                                        exact ⟨by first | rfl | (simp [errW_none, errW_some] <;> rfl) | (simp [*, errW_none, errW_some] <;> rfl), by repeat (first | (with_reducible first | exact HB.out | apply below_alloc | apply pw_below_drewN | apply below_drew1) | exact HB.out)⟩
                                      · rw [if_neg c49] at H
                                        have c49b0 : (t381 == 0) = false := beq_eq_false_iff_ne.mpr c49
                                        have c49b1 : (t381 != 0) = true := bne_iff_ne.mpr c49
                                        obtain rfl := Option.some.inj H
                                        have p378 : 0 ≤ (a2 : Int) := of_decide_eq_true (by first | (with_reducible assumption) | assumption)
                                        have q378 : a2 < (t355.length : Int) := of_decide_eq_true (by first | (with_reducible assumption) | assumption)
                                        obtain ⟨ad378, e378, hx378_0⟩ := Kd.at_int (Kd.R_reads' HO_9.out).2.2 a2 p378 q378
                                        cases e378
                                        replace p378 := eq_true p378
                                        replace q378 := eq_true q378
                                        have p46 : 0 ≤ (a2 : Int) := of_decide_eq_true (by first | (with_reducible assumption) | assumption)
                                        have q46 : (a2 : Int) < ((t355.length : Int) : Int) := of_decide_eq_true (by first | (with_reducible assumption) | assumption)
                                        obtain ⟨go46, co46, eo46, gb46, gl46, cl46, HG46⟩ := Kd.R_form HO_9.out (by omega)
                                        (first | cases eo46 | (injection eo46 with ea_ en_ ec_; (first | subst ea_ | (injection ea_ with ea_; subst ea_)); subst ec_; clear en_))
                                        have GB46 := Aside0.mk gb46
                                        have GG46 := Aside0.mk HG46
                                        clear gb46 gl46 HG46
                                        (first | simp only [add_plain] at hx378_0 | skip)
                                        obtain ⟨hx46_0, hf46_0⟩ := Kd.R_celln 0 HO_9.out (a2 : Int) p46 q46
                                        replace p46 := eq_true p46
                                        replace q46 := eq_true q46
                                        have HP54 := Kd.R_putg HO_9.out (a2 : Int) (Go.bits .xor .u8 (rd t355 a2) a3)
                                        go_wp2_with (first | ((with_reducible refine gate_store (t := 5) (p := 103) rfl ?_); refine store_event (t := 5) (p := 103) (v := ?vo_w55) (w1 := (wc.setCell ⟨go46, (a2 : Int).toNat, none⟩ (.int .u8 (Go.bits .xor .u8 (rd t355 a2) a3)))) ?hg ?ho ?hn ?hr ?_; (case ho => rfl); (case hg => rfl); (case hn => rfl); (case hr => first | (go_simp; done) | (go_simp; rfl)); intro w55 hw; have hg : wc.grownBy w55 (some go46) := (by rw [hw]; exact HP54.2); have hp_ : Kd.R (Kd.int .u8) 5 w55 w.heap.size (fun _ => True) (.slice (some ⟨go46, 0, none⟩) t355.length co30) y379 := (by rw [hw, Ny379.out]; exact HP54.1); clear HP54; have n0_ := Aside0.mk (hp_); have n1_ := Aside0.mk ((by rw [hw]; exact below_set (HB.out) GB46.out : Below w.heap.size w w55)); clear HO_9; clear HB; have HO_9 := n0_; have HB := n1_; clear n0_ n1_; clear hg hw hp_) | ((with_reducible refine gate_callee (f := 29) rfl ?_); refine goesL_ (some 106) rfl rfl Try.func29 (by kernel_rfl) rfl #[.slice (some ⟨go46, 0, none⟩) y379.length co30] rfl (by (try simp only [List.map_toArray, List.map_cons, List.map_nil]); first | done | (rw [show y379.length = t355.length from (Kd.R_reads' HO_9.out).1.symm] <;> rfl) | rfl | (simp only [List.length_drop, List.length_take]; rfl)) ?_; (with_reducible refine (codec_Unframe.calls kj27 _ _ y379 t380 t381 t382 _ ?side1 ?side2 A47.out).mono ?_); (case side1 => repeat (first | exact (Kd.R_reads' HO_9.out).2.2 | (with_reducible refine Kd.C_alloc ?_ _) | (with_reducible refine Kd.C_drewN ?_ _) | (with_reducible refine Kd.C_drew ?_))); (case side2 => rw [show y379.length = t355.length from (Kd.R_reads' HO_9.out).1.symm]; exact (Kd.R_reads' HO_9.out).2.1); rintro e w56 ⟨v383, rfl, ho0, hb⟩; refine ⟨_, rfl, ?_⟩; have n0_ := Aside0.mk (Kd.R_elder' (by (with_reducible repeat (first | apply Kd.R_alloc | apply Kd.R_drewN | apply Kd.R_drew)); exact HO_9.out) (Kd.R_base ho0) hb); have n1_ := Aside0.mk (Kd.R_lower (Kd.R_new' ho0 (Kd.R_lt (by (with_reducible repeat (first | apply Kd.R_alloc | apply Kd.R_drewN | apply Kd.R_drew)); exact HO_9.out))) (below_size (by repeat (first | (with_reducible first | exact HB.out | apply below_alloc | apply pw_below_drewN | apply below_drew1) | exact HB.out)))); have n2_ := Aside0.mk (below_step (by repeat (first | (with_reducible first | exact HB.out | apply below_alloc | apply pw_below_drewN | apply below_drew1) | exact HB.out)) hb); clear HO_9; clear HB; have HO_9 := n0_; have HO384 := n1_; have HB := n2_; clear n0_ n1_ n2_; (try clear hb); (try clear hb2); (try clear hk); (try clear hi); (try clear ho0)))
                                        go_ret
                                        exact ⟨by first | rfl | (simp [errW_none, errW_some] <;> rfl) | (simp [*, errW_none, errW_some] <;> rfl), by repeat (first | (with_reducible first | exact HB.out | apply below_alloc | apply pw_below_drewN | apply below_drew1) | exact HB.out)⟩
                                    · rw [if_neg c48] at H
                                      have c48b0 : (t382 == 22) = false := beq_eq_false_iff_ne.mpr c48
                                      have c48b1 : (t382 != 22) = true := bne_iff_ne.mpr c48
                                      obtain rfl := Option.some.inj H
                                      have p378 : 0 ≤ (a2 : Int) := of_decide_eq_true (by first | (with_reducible assumption) | assumption)
                                      have q378 : a2 < (t355.length : Int) := of_decide_eq_true (by first | (with_reducible assumption) | assumption)
                                      obtain ⟨ad378, e378, hx378_0⟩ := Kd.at_int (Kd.R_reads' HO_9.out).2.2 a2 p378 q378
                                      cases e378
                                      replace p378 := eq_true p378
                                      replace q378 := eq_true q378
                                      have p46 : 0 ≤ (a2 : Int) := of_decide_eq_true (by first | (with_reducible assumption) | assumption)
                                      have q46 : (a2 : Int) < ((t355.length : Int) : Int) := of_decide_eq_true (by first | (with_reducible assumption) | assumption)
                                      obtain ⟨go46, co46, eo46, gb46, gl46, cl46, HG46⟩ := Kd.R_form HO_9.out (by omega)
                                      (first | cases eo46 | (injection eo46 with ea_ en_ ec_; (first | subst ea_ | (injection ea_ with ea_; subst ea_)); subst ec_; clear en_))
                                      have GB46 := Aside0.mk gb46
                                      have GG46 := Aside0.mk HG46
                                      clear gb46 gl46 HG46
                                      (first | simp only [add_plain] at hx378_0 | skip)
                                      obtain ⟨hx46_0, hf46_0⟩ := Kd.R_celln 0 HO_9.out (a2 : Int) p46 q46
                                      replace p46 := eq_true p46
                                      replace q46 := eq_true q46
                                      have HP57 := Kd.R_putg HO_9.out (a2 : Int) (Go.bits .xor .u8 (rd t355 a2) a3)
                                      go_wp2_with (first | ((with_reducible refine gate_store (t := 5) (p := 103) rfl ?_); refine store_event (t := 5) (p := 103) (v := ?vo_w58) (w1 := (wc.setCell ⟨go46, (a2 : Int).toNat, none⟩ (.int .u8 (Go.bits .xor .u8 (rd t355 a2) a3)))) ?hg ?ho ?hn ?hr ?_; (case ho => rfl); (case hg => rfl); (case hn => rfl); (case hr => first | (go_simp; done) | (go_simp; rfl)); intro w58 hw; have hg : wc.grownBy w58 (some go46) := (by rw [hw]; exact HP57.2); have hp_ : Kd.R (Kd.int .u8) 5 w58 w.heap.size (fun _ => True) (.slice (some ⟨go46, 0, none⟩) t355.length co30) y379 := (by rw [hw, Ny379.out]; exact HP57.1); clear HP57; have n0_ := Aside0.mk (hp_); have n1_ := Aside0.mk ((by rw [hw]; exact below_set (HB.out) GB46.out : Below w.heap.size w w58)); clear HO_9; clear HB; have HO_9 := n0_; have HB := n1_; clear n0_ n1_; clear hg hw hp_) | ((with_reducible refine gate_callee (f := 29) rfl ?_); refine goesL_ (some 106) rfl rfl Try.func29 (by kernel_rfl) rfl #[.slice (some ⟨go46, 0, none⟩) y379.length co30] rfl (by (try simp only [List.map_toArray, List.map_cons, List.map_nil]); first | done | (rw [show y379.length = t355.length from (Kd.R_reads' HO_9.out).1.symm] <;> rfl) | rfl | (simp only [List.length_drop, List.length_take]; rfl)) ?_; (with_reducible refine (codec_Unframe.calls kj27 _ _ y379 t380 t381 t382 _ ?side1 ?side2 A47.out).mono ?_); (case side1 => repeat (first | exact (Kd.R_reads' HO_9.out).2.2 | (with_reducible refine Kd.C_alloc ?_ _) | (with_reducible refine Kd.C_drewN ?_ _) | (with_reducible refine Kd.C_drew ?_))); (case side2 => rw [show y379.length = t355.length from (Kd.R_reads' HO_9.out).1.symm]; exact (Kd.R_reads' HO_9.out).2.1); rintro e w59 ⟨v383, rfl, ho0, hb⟩; refine ⟨_, rfl, ?_⟩; have n0_ := Aside0.mk (Kd.R_elder' (by (with_reducible repeat (first | apply Kd.R_alloc | apply Kd.R_drewN | apply Kd.R_drew)); exact HO_9.out) (Kd.R_base ho0) hb); have n1_ := Aside0.mk (Kd.R_lower (Kd.R_new' ho0 (Kd.R_lt (by (with_reducible repeat (first | apply Kd.R_alloc | apply Kd.R_drewN | apply Kd.R_drew)); exact HO_9.out))) (below_size (by repeat (first | (with_reducible first | exact HB.out | apply below_alloc | apply pw_below_drewN | apply below_drew1) | exact HB.out)))); have n2_ := Aside0.mk (below_step (by repeat (first | (with_reducible first | exact HB.out | apply below_alloc | apply pw_below_drewN | apply below_drew1) | exact HB.out)) hb); clear HO_9; clear HB; have HO_9 := n0_; have HO384 := n1_; have HB := n2_; clear n0_ n1_ n2_; (try clear hb); (try clear hb2); (try clear hk); (try clear hi); (try clear ho0)))
                                      go_ret
                                      exact ⟨by first | rfl | (simp [errW_none, errW_some] <;> rfl) | (simp [*, errW_none, errW_some] <;> rfl), by repeat (first | (with_reducible first | exact HB.out | apply below_alloc | apply pw_below_drewN | apply below_drew1) | exact HB.out)⟩
                                  · rw [if_neg c45] at H
                                    exact absurd H (by simp)
                                · rw [if_neg c44] at H
                                  exact absurd H (by simp)
                          · rw [if_neg c41] at H
                            have c41b0 : decide (4 ≤ a2) = false := decide_eq_false c41
                            clear c41
                            by_cases c60 : a3 = 0
                            · rw [if_pos c60] at H
                              have c60b0 : (a3 == 0) = true := beq_iff_eq.mpr c60
                              have c60b1 : (a3 != 0) = false := bne_eq_false_iff_eq.mpr c60
                              clear c60
                              obtain rfl := Option.some.inj H
                              go_wp2
                              go_ret
                              exact ⟨by first | rfl | (simp [errW_none, errW_some] <;> rfl) | (simp [*, errW_none, errW_some] <;> rfl), by repeat (first | (with_reducible first | exact HB.out | apply below_alloc | apply pw_below_drewN | apply below_drew1) | exact HB.out)⟩
                            · rw [if_neg c60] at H
                              have c60b0 : (a3 == 0) = false := beq_eq_false_iff_ne.mpr c60
                              have c60b1 : (a3 != 0) = true := bne_iff_ne.mpr c60
                              by_cases c61 : 0 ≤ a2
                              · rw [if_pos c61] at H
                                have c61b0 : decide (0 ≤ a2) = true := decide_eq_true c61
                                clear c61
                                by_cases c62 : a2 < (t355.length : Int)
                                · rw [if_pos c62] at H
                                  have c62b0 : decide (a2 < (t355.length : Int)) = true := decide_eq_true c62
                                  clear c62
                                  obtain ⟨y386, hy386⟩ : ∃ y_ : List Int, y_ = (t355.set (a2 : Int).toNat (Go.bits .xor .u8 (rd t355 a2) a3)) := ⟨_, rfl⟩
                                  replace H : ((codec_Unframe.f kj27 y386).bind fun bt387 => (if bt387.2.2 = 22 then (if bt387.2.1 = 0 then (some ((bt387.1.length : Int) == 0)) else (some false)) else (some false))) = some r := by first | (rw [hy386]; with_reducible exact H) | (have H2_ := (Option.bind_some _ _).symm.trans H; rw [hy386]; with_reducible exact H2_) | (have H2_ := (Option.bind_some _ _).symm.trans H; with_reducible exact H2_) | with_reducible exact H | (rw [hy386]; exact H) | exact H
                                  have Ny386 := Aside0.mk hy386
                                  clear hy386
                                  replace H := Option.bind_eq_some_iff.mp H
                                  obtain ⟨⟨t387, t388, t389⟩, A640, H⟩ := H
                                  replace H : (if t389 = 22 then (if t388 = 0 then (some ((t387.length : Int) == 0)) else (some false)) else (some false)) = some r := H
                                  have A64 := Aside0.mk A640
                                  clear A640
                                  by_cases c65 : t389 = 22
                                  · rw [if_pos c65] at H
                                    have c65b0 : (t389 == 22) = true := beq_iff_eq.mpr c65
                                    have c65b1 : (t389 != 22) = false := bne_eq_false_iff_eq.mpr c65
                                    clear c65
                                    by_cases c66 : t388 = 0
                                    · rw [if_pos c66] at H
                                      have c66b0 : (t388 == 0) = true := beq_iff_eq.mpr c66
                                      have c66b1 : (t388 != 0) = false := bne_eq_false_iff_eq.mpr c66
                                      clear c66
                                      obtain rfl := Option.some.inj H
                                      have p385 : 0 ≤ (a2 : Int) := of_decide_eq_true (by first | (with_reducible assumption) | assumption)
                                      have q385 : a2 < (t355.length : Int) := of_decide_eq_true (by first | (with_reducible assumption) | assumption)
                                      obtain ⟨ad385, e385, hx385_0⟩ := Kd.at_int (Kd.R_reads' HO_9.out).2.2 a2 p385 q385
                                      cases e385
                                      replace p385 := eq_true p385
                                      replace q385 := eq_true q385
                                      have p63 : 0 ≤ (a2 : Int) := of_decide_eq_true (by first | (with_reducible assumption) | assumption)
                                      have q63 : (a2 : Int) < ((t355.length : Int) : Int) := of_decide_eq_true (by first | (with_reducible assumption) | assumption)
                                      obtain ⟨go63, co63, eo63, gb63, gl63, cl63, HG63⟩ := Kd.R_form HO_9.out (by omega)
                                      (first | cases eo63 | (injection eo63 with ea_ en_ ec_; (first | subst ea_ | (injection ea_ with ea_; subst ea_)); subst ec_; clear en_))
                                      have GB63 := Aside0.mk gb63
                                      have GG63 := Aside0.mk HG63
                                      clear gb63 gl63 HG63
                                      (first | simp only [add_plain] at hx385_0 | skip)
                                      obtain ⟨hx63_0, hf63_0⟩ := Kd.R_celln 0 HO_9.out (a2 : Int) p63 q63
                                      replace p63 := eq_true p63
                                      replace q63 := eq_true q63
                                      have HP67 := Kd.R_putg HO_9.out (a2 : Int) (Go.bits .xor .u8 (rd t355 a2) a3)
                                      go_wp2_with (first | ((with_reducible refine gate_store (t := 5) (p := 103) rfl ?_); refine store_event (t := 5) (p := 103) (v := ?vo_w68) (w1 := (wc.setCell ⟨go63, (a2 : Int).toNat, none⟩ (.int .u8 (Go.bits .xor .u8 (rd t355 a2) a3)))) ?hg ?ho ?hn ?hr ?_; (case ho => rfl); (case hg => rfl); (case hn => rfl); (case hr => first | (go_simp; done) | (go_simp; rfl)); intro w68 hw; have hg : wc.grownBy w68 (some go63) := (by rw [hw]; exact HP67.2); have hp_ : Kd.R (Kd.int .u8) 5 w68 w.heap.size (fun _ => True) (.slice (some ⟨go63, 0, none⟩) t355.length co30) y386 := (by rw [hw, Ny386.out]; exact HP67.1); clear HP67; have n0_ := Aside0.mk (hp_); have n1_ := Aside0.mk ((by rw [hw]; exact below_set (HB.out) GB63.out : Below w.heap.size w w68)); clear HO_9; clear HB; have HO_9 := n0_; have HB := n1_; clear n0_ n1_; clear hg hw hp_) | ((with_reducible refine gate_callee (f := 29) rfl ?_); refine goesL_ (some 106) rfl rfl Try.func29 (by kernel_rfl) rfl #[.slice (some ⟨go63, 0, none⟩) y386.length co30] rfl (by (try simp only [List.map_toArray, List.map_cons, List.map_nil]); first | done | (rw [show y386.length = t355.length from (Kd.R_reads' HO_9.out).1.symm] <;> rfl) | rfl | (simp only [List.length_drop, List.length_take]; rfl)) ?_; (with_reducible refine (codec_Unframe.calls kj27 _ _ y386 t387 t388 t389 _ ?side1 ?side2 A64.out).mono ?_); (case side1 => repeat (first | exact (Kd.R_reads' HO_9.out).2.2 | (with_reducible refine Kd.C_alloc ?_ _) | (with_reducible refine Kd.C_drewN ?_ _) | (with_reducible refine Kd.C_drew ?_))); (case side2 => rw [show y386.length = t355.length from (Kd.R_reads' HO_9.out).1.symm]; exact (Kd.R_reads' HO_9.out).2.1); rintro e w69 ⟨v390, rfl, ho0, hb⟩; refine ⟨_, rfl, ?_⟩; have n0_ := Aside0.mk (Kd.R_elder' (by (with_reducible repeat (first | apply Kd.R_alloc | apply Kd.R_drewN | apply Kd.R_drew)); exact HO_9.out) (Kd.R_base ho0) hb); have n1_ := Aside0.mk (Kd.R_lower (Kd.R_new' ho0 (Kd.R_lt (by (with_reducible repeat (first | apply Kd.R_alloc | apply Kd.R_drewN | apply Kd.R_drew)); exact HO_9.out))) (below_size (by repeat (first | (with_reducible first | exact HB.out | apply below_alloc | apply pw_below_drewN | apply below_drew1) | exact HB.out)))); have n2_ := Aside0.mk (below_step (by repeat (first | (with_reducible first | exact HB.out | apply below_alloc | apply pw_below_drewN | apply below_drew1) | exact HB.out)) hb); clear HO_9; clear HB; have HO_9 := n0_; have HO391 := n1_; have HB := n2_; clear n0_ n1_ n2_; (try clear hb); (try clear hb2); (try clear hk); (try clear hi); (try clear ho0); obtain ⟨Ao70, co70, eo70⟩ := Kd.R_slice HO391.out; subst eo70))
                                      go_ret
                                      exact ⟨by first | rfl | (simp [errW_none, errW_some] <;> rfl) | (simp [*, errW_none, errW_some] <;> rfl), by repeat (first | (with_reducible first | exact HB.out | apply below_alloc | apply pw_below_drewN | apply below_drew1) | exact HB.out)⟩
                                    · rw [if_neg c66] at H
                                      have c66b0 : (t388 == 0) = false := beq_eq_false_iff_ne.mpr c66
                                      have c66b1 : (t388 != 0) = true := bne_iff_ne.mpr c66
                                      obtain rfl := Option.some.inj H
                                      have p385 : 0 ≤ (a2 : Int) := of_decide_eq_true (by first | (with_reducible assumption) | assumption)
                                      have q385 : a2 < (t355.length : Int) := of_decide_eq_true (by first | (with_reducible assumption) | assumption)
                                      obtain ⟨ad385, e385, hx385_0⟩ := Kd.at_int (Kd.R_reads' HO_9.out).2.2 a2 p385 q385
                                      cases e385
                                      replace p385 := eq_true p385
                                      replace q385 := eq_true q385
                                      have p63 : 0 ≤ (a2 : Int) := of_decide_eq_true (by first | (with_reducible assumption) | assumption)
                                      have q63 : (a2 : Int) < ((t355.length : Int) : Int) := of_decide_eq_true (by first | (with_reducible assumption) | assumption)
                                      obtain ⟨go63, co63, eo63, gb63, gl63, cl63, HG63⟩ := Kd.R_form HO_9.out (by omega)
                                      (first | cases eo63 | (injection eo63 with ea_ en_ ec_; (first | subst ea_ | (injection ea_ with ea_; subst ea_)); subst ec_; clear en_))
                                      have GB63 := Aside0.mk gb63
                                      have GG63 := Aside0.mk HG63
                                      clear gb63 gl63 HG63
                                      (first | simp only [add_plain] at hx385_0 | skip)
                                      obtain ⟨hx63_0, hf63_0⟩ := Kd.R_celln 0 HO_9.out (a2 : Int) p63 q63
                                      replace p63 := eq_true p63
                                      replace q63 := eq_true q63
                                      have HP71 := Kd.R_putg HO_9.out (a2 : Int) (Go.bits .xor .u8 (rd t355 a2) a3)
                                      go_wp2_with (first | ((with_reducible refine gate_store (t := 5) (p := 103) rfl ?_); refine store_event (t := 5) (p := 103) (v := ?vo_w72) (w1 := (wc.setCell ⟨go63, (a2 : Int).toNat, none⟩ (.int .u8 (Go.bits .xor .u8 (rd t355 a2) a3)))) ?hg ?ho ?hn ?hr ?_; (case ho => rfl); (case hg => rfl); (case hn => rfl); (case hr => first | (go_simp; done) | (go_simp; rfl)); intro w72 hw; have hg : wc.grownBy w72 (some go63) := (by rw [hw]; exact HP71.2); have hp_ : Kd.R (Kd.int .u8) 5 w72 w.heap.size (fun _ => True) (.slice (some ⟨go63, 0, none⟩) t355.length co30) y386 := (by rw [hw, Ny386.out]; exact HP71.1); clear HP71; have n0_ := Aside0.mk (hp_); have n1_ := Aside0.mk ((by rw [hw]; exact below_set (HB.out) GB63.out : Below w.heap.size w w72)); clear HO_9; clear HB; have HO_9 := n0_; have HB := n1_; clear n0_ n1_; clear hg hw hp_) | ((with_reducible refine gate_callee (f := 29) rfl ?_); refine goesL_ (some 106) rfl rfl Try.func29 (by kernel_rfl) rfl #[.slice (some ⟨go63, 0, none⟩) y386.length co30] rfl (by (try simp only [List.map_toArray, List.map_cons, List.map_nil]); first | done | (rw [show y386.length = t355.length from (Kd.R_reads' HO_9.out).1.symm] <;> rfl) | rfl | (simp only [List.length_drop, List.length_take]; rfl)) ?_; (with_reducible refine (codec_Unframe.calls kj27 _ _ y386 t387 t388 t389 _ ?side1 ?side2 A64.out).mono ?_); (case side1 => repeat (first | exact (Kd.R_reads' HO_9.out).2.2 | (with_reducible refine Kd.C_alloc ?_ _) | (with_reducible refine Kd.C_drewN ?_ _) | (with_reducible refine Kd.C_drew ?_))); (case side2 => rw [show y386.length = t355.length from (Kd.R_reads' HO_9.out).1.symm]; exact (Kd.R_reads' HO_9.out).2.1); rintro e w73 ⟨v390, rfl, ho0, hb⟩; refine ⟨_, rfl, ?_⟩; have n0_ := Aside0.mk (Kd.R_elder' (by (with_reducible repeat (first | apply Kd.R_alloc | apply Kd.R_drewN | apply Kd.R_drew)); exact HO_9.out) (Kd.R_base ho0) hb); have n1_ := Aside0.mk (Kd.R_lower (Kd.R_new' ho0 (Kd.R_lt (by (with_reducible repeat (first | apply Kd.R_alloc | apply Kd.R_drewN | apply Kd.R_drew)); exact HO_9.out))) (below_size (by repeat (first | (with_reducible first | exact HB.out | apply below_alloc | apply pw_below_drewN | apply below_drew1) | exact HB.out)))); have n2_ := Aside0.mk (below_step (by repeat (first | (with_reducible first | exact HB.out | apply below_alloc | apply pw_below_drewN | apply below_drew1) | exact HB.out)) hb); clear HO_9; clear HB; have HO_9 := n0_; have HO391 := n1_; have HB := n2_; clear n0_ n1_ n2_; (try clear hb); (try clear hb2); (try clear hk); (try clear hi); (try clear ho0)))
                                      go_ret
                                      exact ⟨by first | rfl | (simp [errW_none, errW_some] <;> rfl) | (simp [*, errW_none, errW_some] <;> rfl), by repeat (first | (with_reducible first | exact HB.out | apply below_alloc | apply pw_below_drewN | apply below_drew1) | exact HB.out)⟩
                                  · rw [if_neg c65] at H
                                    have c65b0 : (t389 == 22) = false := beq_eq_false_iff_ne.mpr c65
                                    have c65b1 : (t389 != 22) = true := bne_iff_ne.mpr c65
                                    obtain rfl := Option.some.inj H
                                    have p385 : 0 ≤ (a2 : Int) := of_decide_eq_true (by first | (with_reducible assumption) | assumption)
                                    have q385 : a2 < (t355.length : Int) := of_decide_eq_true (by first | (with_reducible assumption) | assumption)
                                    obtain ⟨ad385, e385, hx385_0⟩ := Kd.at_int (Kd.R_reads' HO_9.out).2.2 a2 p385 q385
                                    cases e385
                                    replace p385 := eq_true p385
                                    replace q385 := eq_true q385
                                    have p63 : 0 ≤ (a2 : Int) := of_decide_eq_true (by first | (with_reducible assumption) | assumption)
                                    have q63 : (a2 : Int) < ((t355.length : Int) : Int) := of_decide_eq_true (by first | (with_reducible assumption) | assumption)
                                    obtain ⟨go63, co63, eo63, gb63, gl63, cl63, HG63⟩ := Kd.R_form HO_9.out (by omega)
                                    (first | cases eo63 | (injection eo63 with ea_ en_ ec_; (first | subst ea_ | (injection ea_ with ea_; subst ea_)); subst ec_; clear en_))
                                    have GB63 := Aside0.mk gb63
                                    have GG63 := Aside0.mk HG63
                                    clear gb63 gl63 HG63
                                    (first | simp only [add_plain] at hx385_0 | skip)
                                    obtain ⟨hx63_0, hf63_0⟩ := Kd.R_celln 0 HO_9.out (a2 : Int) p63 q63
                                    replace p63 := eq_true p63
                                    replace q63 := eq_true q63
                                    have HP74 := Kd.R_putg HO_9.out (a2 : Int) (Go.bits .xor .u8 (rd t355 a2) a3)
                                    go_wp2_with (first | ((with_reducible refine gate_store (t := 5) (p := 103) rfl ?_); refine store_event (t := 5) (p := 103) (v := ?vo_w75) (w1 := (wc.setCell ⟨go63, (a2 : Int).toNat, none⟩ (.int .u8 (Go.bits .xor .u8 (rd t355 a2) a3)))) ?hg ?ho ?hn ?hr ?_; (case ho => rfl); (case hg => rfl); (case hn => rfl); (case hr => first | (go_simp; done) | (go_simp; rfl)); intro w75 hw; have hg : wc.grownBy w75 (some go63) := (by rw [hw]; exact HP74.2); have hp_ : Kd.R (Kd.int .u8) 5 w75 w.heap.size (fun _ => True) (.slice (some ⟨go63, 0, none⟩) t355.length co30) y386 := (by rw [hw, Ny386.out]; exact HP74.1); clear HP74; have n0_ := Aside0.mk (hp_); have n1_ := Aside0.mk ((by rw [hw]; exact below_set (HB.out) GB63.out : Below w.heap.size w w75)); clear HO_9; clear HB; have HO_9 := n0_; have HB := n1_; clear n0_ n1_; clear hg hw hp_) | ((with_reducible refine gate_callee (f := 29) rfl ?_); refine goesL_ (some 106) rfl rfl Try.func29 (by kernel_rfl) rfl #[.slice (some ⟨go63, 0, none⟩) y386.length co30] rfl (by (try simp only [List.map_toArray, List.map_cons, List.map_nil]); first | done | (rw [show y386.length = t355.length from (Kd.R_reads' HO_9.out).1.symm] <;> rfl) | rfl | (simp only [List.length_drop, List.length_take]; rfl)) ?_; (with_reducible refine (codec_Unframe.calls kj27 _ _ y386 t387 t388 t389 _ ?side1 ?side2 A64.out).mono ?_); (case side1 => repeat (first | exact (Kd.R_reads' HO_9.out).2.2 | (with_reducible refine Kd.C_alloc ?_ _) | (with_reducible refine Kd.C_drewN ?_ _) | (with_reducible refine Kd.C_drew ?_))); (case side2 => rw [show y386.length = t355.length from (Kd.R_reads' HO_9.out).1.symm]; exact (Kd.R_reads' HO_9.out).2.1); rintro e w76 ⟨v390, rfl, ho0, hb⟩; refine ⟨_, rfl, ?_⟩; have n0_ := Aside0.mk (Kd.R_elder' (by (with_reducible repeat (first | apply Kd.R_alloc | apply Kd.R_drewN | apply Kd.R_drew)); exact HO_9.out) (Kd.R_base ho0) hb); have n1_ := Aside0.mk (Kd.R_lower (Kd.R_new' ho0 (Kd.R_lt (by (with_reducible repeat (first | apply Kd.R_alloc | apply Kd.R_drewN | apply Kd.R_drew)); exact HO_9.out))) (below_size (by repeat (first | (with_reducible first | exact HB.out | apply below_alloc | apply pw_below_drewN | apply below_drew1) | exact HB.out)))); have n2_ := Aside0.mk (below_step (by repeat (first | (with_reducible first | exact HB.out | apply below_alloc | apply pw_below_drewN | apply below_drew1) | exact HB.out)) hb); clear HO_9; clear HB; have HO_9 := n0_; have HO391 := n1_; have HB := n2_; clear n0_ n1_ n2_; (try clear hb); (try clear hb2); (try clear hk); (try clear hi); (try clear ho0)))
                                    go_ret
                                    exact ⟨by first | rfl | (simp [errW_none, errW_some] <;> rfl) | (simp [*, errW_none, errW_some] <;> rfl), by repeat (first | (with_reducible first | exact HB.out | apply below_alloc | apply pw_below_drewN | apply below_drew1) | exact HB.out)⟩
                                · rw [if_neg c62] at H
                                  exact absurd H (by simp)
                              · rw [if_neg c61] at H
                                exact absurd H (by simp)
              · rw [if_neg c26] at H
                exact absurd H (by simp)
            · rw [if_neg c25] at H
              exact absurd H (by simp)
  · replace c6 := Bool.eq_false_iff.mpr c6
    subst c6
    have H1 : (some false) = some r := by rw [if_neg (show ¬ (false = true) by decide)] at H; exact H
    clear H
    have H := H1
    clear H1
    obtain rfl := Option.some.inj H
    go_enter Try.func8, Try.ntmps8
    go_wp2_with (first | ((with_reducible refine gate_callee (f := 12) rfl ?_); refine goesL_ (some 16) rfl rfl Try.func12 (by kernel_rfl) rfl #[] rfl (by (try simp only [List.map_toArray, List.map_cons, List.map_nil]); first | done | rfl | (simp only [List.length_drop, List.length_take]; rfl)) ?_; (with_reducible refine (morainelaw2_known.calls  false _ A5.out).mono ?_); rintro e w77 ⟨rfl, hb⟩; refine ⟨_, rfl, ?_⟩; have n0_ := Aside0.mk (below_step (by repeat (first | (with_reducible first | exact HB.out | apply below_alloc | apply pw_below_drewN | apply below_drew1) | exact HB.out)) hb); clear HB; have HB := n0_; clear n0_; (try clear hb); (try clear hb2); (try clear hk); (try clear hi)))
    go_ret
    exact ⟨by first | rfl | (simp [errW_none, errW_some] <;> rfl) | (simp [*, errW_none, errW_some] <;> rfl), by repeat (first | (with_reducible first | exact HB.out | apply below_alloc | apply pw_below_drewN | apply below_drew1) | exact HB.out)⟩

/-- THE ONE PURE STATEMENT of morainelaw2_CodecFrames: yours. -/
def morainelaw2_CodecFrames.Pure : Prop := ∀ (l0 : List Int) (l1 : List Int) (a2 : Int) (a3 : Int), l0.length ≤ maxLen → l0.length * 1 ≤ 140737488351232 → (∀ x ∈ l0, (Lit.int .u8 x).wf = true) → l1.length ≤ maxLen → l1.length * 1 ≤ 140737488351232 → (∀ x ∈ l1, (Lit.int .u8 x).wf = true) → (Lit.int .i64 a2).wf = true → (Lit.int .u8 a3).wf = true → ∃ k, morainelaw2_CodecFrames.f k l0 l1 a2 a3 = some true
theorem morainelaw2_CodecFrames.walk (P : morainelaw2_CodecFrames.Pure) (a0 : Option Addr) (len0 cap0 : Nat) (z0 : List Int) (a1 : Option Addr) (len1 cap1 : Nat) (z1 : List Int) (a2 : Int) (a3 : Int) (w : World) (w0 : (a0 = none ∧ len0 = 0 ∧ cap0 = 0 ∧ z0 = []) ∨ ∃ x, a0 = some x ∧ len0 ≤ cap0 ∧ cap0 ≤ maxLen ∧ z0.length = cap0 ∧ (∀ i, i < z0.length → w.cell? (x.add i) = some (.int .u8 (z0.getD i 0))) ∧ ∀ n ∈ z0, (Lit.int .u8 n).wf = true) (y0 : len0 * 1 ≤ 140737488351232) (w1 : (a1 = none ∧ len1 = 0 ∧ cap1 = 0 ∧ z1 = []) ∨ ∃ x, a1 = some x ∧ len1 ≤ cap1 ∧ cap1 ≤ maxLen ∧ z1.length = cap1 ∧ (∀ i, i < z1.length → w.cell? (x.add i) = some (.int .u8 (z1.getD i 0))) ∧ ∀ n ∈ z1, (Lit.int .u8 n).wf = true) (y1 : len1 * 1 ≤ 140737488351232) (w2 : (Lit.int .i64 a2).wf = true) (w3 : (Lit.int .u8 a3).wf = true) :
    Calls Try.prog 8 #[.slice a0 len0 cap0, .slice a1 len1 cap1, .int .i64 a2, .int .u8 a3] w fun e w' => e = .returned (.bool true) ∧ Below w.heap.size w w' := by
  obtain ⟨l0, rfl, hr0, hm0, hw0, hc0⟩ := ReadsInt.ofRowC w0
  obtain ⟨l1, rfl, hr1, hm1, hw1, hc1⟩ := ReadsInt.ofRowC w1
  obtain ⟨k, h⟩ := P l0 l1 a2 a3 hm0 y0 hw0 hm1 y1 hw1 w2 w3
  refine (morainelaw2_CodecFrames.calls k _ _ l0 _ _ l1 a2 a3 true w (Kd.C_of_reads (d := (0 : Int)) (h1 := fun _ => rfl) hr0) hc0 (Kd.C_of_reads (d := (0 : Int)) (h1 := fun _ => rfl) hr1) hc1 h).mono ?_
  rintro e w' ⟨rfl, hd⟩
  exact ⟨rfl, hd⟩

end Go.Proofs.Yteogjahkccmfaaa.P
/- Plain Lean tools for the pure statements: a function with rounds that comes to a value for all great numbers of rounds, and what the fixed-width operations tell. -/
namespace Go.Proofs.Yteogjahkccmfaaa.Base
open Go Go.RowKit Go.Proofs.YteogjahkccmfaaaW.PrintWords Go.Proofs.YteogjahkccmfaaaW.PrintLast Go.Proofs.YteogjahkccmfaaaW.PrintMore

/-- from some number of rounds on, the function tells this value -/
def Conv {α : Type} (f : Nat → Option α) (v : α) : Prop := ∃ K, ∀ k, K ≤ k → f k = some v

theorem Conv.pure {α : Type} (v : α) : Conv (fun _ => some v) v := ⟨0, fun _ _ => rfl⟩
theorem Conv.const {α : Type} {x : Option α} {v : α} (h : x = some v) : Conv (fun _ => x) v := ⟨0, fun _ _ => h⟩
theorem Conv.succ {α : Type} {f : Nat → Option α} {v : α} (h : Conv (fun k => f (k + 1)) v) : Conv f v := by
  obtain ⟨K, h⟩ := h
  refine ⟨K + 1, fun k hk => ?_⟩
  obtain ⟨j, rfl⟩ : ∃ j, k = j + 1 := ⟨k - 1, by omega⟩
  exact h j (by omega)
theorem Conv.bind {α β : Type} {f : Nat → Option α} {g : Nat → α → Option β} {a : α} {v : β} (hf : Conv f a) (hg : Conv (fun k => g k a) v) : Conv (fun k => (f k).bind (g k)) v := by
  obtain ⟨K, hf⟩ := hf
  obtain ⟨L, hg⟩ := hg
  refine ⟨max K L, fun k hk => ?_⟩
  show (f k).bind (g k) = some v
  rw [hf k (by omega)]
  exact hg k (by omega)
theorem Conv.bindc {α β : Type} {x : Option α} {g : Nat → α → Option β} {a : α} {v : β} (hf : x = some a) (hg : Conv (fun k => g k a) v) : Conv (fun k => x.bind (g k)) v := by
  subst hf; exact hg
theorem Conv.iteT {α : Type} {c : Prop} [Decidable c] {f g : Nat → Option α} {v : α} (hc : c) (h : Conv f v) : Conv (fun k => if c then f k else g k) v := by
  simpa only [if_pos hc] using h
theorem Conv.iteF {α : Type} {c : Prop} [Decidable c] {f g : Nat → Option α} {v : α} (hc : ¬ c) (h : Conv g v) : Conv (fun k => if c then f k else g k) v := by
  simpa only [if_neg hc] using h
theorem Conv.ite {α : Type} {c : Prop} [Decidable c] {f g : Nat → Option α} {v : α} (h1 : c → Conv f v) (h2 : ¬ c → Conv g v) : Conv (fun k => if c then f k else g k) v := by
  by_cases hc : c
  · exact Conv.iteT hc (h1 hc)
  · exact Conv.iteF hc (h2 hc)
theorem Conv.ex {α : Type} {f : Nat → Option α} {v : α} (h : Conv f v) : ∃ k, f k = some v := by
  obtain ⟨K, h⟩ := h; exact ⟨K, h K (Nat.le_refl _)⟩
theorem Conv.of_eq {α : Type} {f g : Nat → Option α} {v : α} (e : ∀ k, f k = g k) (h : Conv g v) : Conv f v := by
  obtain ⟨K, h⟩ := h; exact ⟨K, fun k hk => by rw [e k]; exact h k hk⟩
theorem Conv.eq {α : Type} {f : Nat → Option α} {v u : α} (h : Conv f v) (e : v = u) : Conv f u := e ▸ h

theorem wrap64_id {n : Int} (h : -9223372036854775808 ≤ n) (h' : n < 9223372036854775808) : wrap64 n = n := by unfold wrap64; omega
theorem wrapU64 (n : Int) : IntKind.u64.wrap n = n % 18446744073709551616 := by simp [IntKind.wrap, IntKind.bits, IntKind.signed]
theorem wrapU64_id {n : Int} (h : 0 ≤ n) (h' : n < 18446744073709551616) : IntKind.u64.wrap n = n := by rw [wrapU64]; omega
theorem wrapU32 (n : Int) : IntKind.u32.wrap n = n % 4294967296 := by simp [IntKind.wrap, IntKind.bits, IntKind.signed]
theorem wrapU8 (n : Int) : IntKind.u8.wrap n = n % 256 := by simp [IntKind.wrap, IntKind.bits, IntKind.signed]
theorem wf_u8 {x : Int} (h : (Lit.int .u8 x).wf = true) : 0 ≤ x ∧ x < 256 := by
  simp [Lit.wf, IntKind.min, IntKind.max, IntKind.bits, IntKind.signed] at h; omega
theorem wf_u64 {x : Int} (h : (Lit.int .u64 x).wf = true) : 0 ≤ x ∧ x < 18446744073709551616 := by
  simp [Lit.wf, IntKind.min, IntKind.max, IntKind.bits, IntKind.signed] at h; omega
theorem wf_i64 {x : Int} (h : (Lit.int .i64 x).wf = true) : -9223372036854775808 ≤ x ∧ x < 9223372036854775808 := by
  simp [Lit.wf, IntKind.min, IntKind.max, IntKind.bits, IntKind.signed] at h; omega

/-- all are bytes -/
def Bytes (l : List Int) : Prop := ∀ x ∈ l, 0 ≤ x ∧ x < 256
theorem bytes_of_wf {l : List Int} (h : ∀ x ∈ l, (Lit.int .u8 x).wf = true) : Bytes l := fun x hx => wf_u8 (h x hx)
theorem Bytes.append {a b : List Int} (ha : Bytes a) (hb : Bytes b) : Bytes (a ++ b) := fun x hx => by
  rcases List.mem_append.mp hx with h | h
  · exact ha x h
  · exact hb x h
theorem Bytes.take {a : List Int} (ha : Bytes a) (n : Nat) : Bytes (a.take n) := fun x hx => ha x (List.mem_of_mem_take hx)
theorem Bytes.drop {a : List Int} (ha : Bytes a) (n : Nat) : Bytes (a.drop n) := fun x hx => ha x (List.mem_of_mem_drop hx)
theorem rd_get {l : List Int} {i : Nat} (h : i < l.length) : rd l (i : Int) = l[i] := by
  simp [rd, List.getD_eq_getElem?_getD, h]
theorem rd_bytes {l : List Int} (hl : Bytes l) (i : Int) : 0 ≤ rd l i ∧ rd l i < 256 := by
  by_cases h : i.toNat < l.length
  · have : rd l i = l[i.toNat] := by simp [rd, List.getD_eq_getElem?_getD, h]
    rw [this]; exact hl _ (List.getElem_mem h)
  · have : rd l i = 0 := by simp [rd, List.getD_eq_getElem?_getD, Nat.le_of_not_lt h]
    rw [this]; omega
theorem drop_cons {l : List Int} {i : Nat} (h : i < l.length) : l.drop i = rd l (i : Int) :: l.drop (i + 1) := by
  rw [rd_get h, List.drop_eq_getElem_cons h]

/-- the numbers told back as bytes and again as numbers -/
theorem strOfNums_inj {a b : List Int} (ha : Bytes a) (hb : Bytes b) (h : (strOfNums a).toList = (strOfNums b).toList) : a = b := by
  have key : ∀ l : List Int, (strOfNums l).toList = l.map fun n => UInt8.ofNat n.toNat := by intro l; rw [Go.ByteArray.toList_eq, Go.strOfNums_data]
  rw [key, key] at h
  have hlen : a.length = b.length := by simpa using congrArg List.length h
  refine List.ext_getElem hlen fun i h1 h2 => ?_
  have this : (a.map fun n => UInt8.ofNat n.toNat)[i]? = (b.map fun n => UInt8.ofNat n.toNat)[i]? := by rw [h]
  simp only [List.getElem?_map, List.getElem?_eq_getElem h1, List.getElem?_eq_getElem h2, Option.map_some, Option.some.injEq] at this
  have p := ha _ (List.getElem_mem h1)
  have q := hb _ (List.getElem_mem h2)
  have e : a[i].toNat % 2 ^ 8 = b[i].toNat % 2 ^ 8 := by
    have := congrArg UInt8.toNat this
    rwa [UInt8.toNat_ofNat', UInt8.toNat_ofNat'] at this
  omega
theorem strOfNums_beq {a b : List Int} (ha : Bytes a) (hb : Bytes b) : ((strOfNums a).toList == (strOfNums b).toList) = (a == b) := by
  by_cases h : a = b
  · subst h; simp
  · have : ¬ (strOfNums a).toList = (strOfNums b).toList := fun e => h (strOfNums_inj ha hb e)
    rw [beq_eq_false_iff_ne.mpr h, beq_eq_false_iff_ne.mpr this]

theorem bits_xor32 (x y : Int) : Go.bits .xor .u32 x y = ((BitVec.ofInt 32 x ^^^ BitVec.ofInt 32 y).toNat : Int) := by
  unfold Go.bits
  rw [wrapU32]
  exact Int.emod_eq_of_lt (Int.natCast_nonneg _) (Int.ofNat_lt.mpr (BitVec.isLt _))
theorem bits_and32 (x y : Int) : Go.bits .and .u32 x y = ((BitVec.ofInt 32 x &&& BitVec.ofInt 32 y).toNat : Int) := by
  unfold Go.bits
  rw [wrapU32]
  exact Int.emod_eq_of_lt (Int.natCast_nonneg _) (Int.ofNat_lt.mpr (BitVec.isLt _))
theorem bits_xor8 (x y : Int) : Go.bits .xor .u8 x y = ((BitVec.ofInt 8 x ^^^ BitVec.ofInt 8 y).toNat : Int) := by
  unfold Go.bits
  rw [wrapU8]
  exact Int.emod_eq_of_lt (Int.natCast_nonneg _) (Int.ofNat_lt.mpr (BitVec.isLt _))
theorem ofInt_toNat {w : Nat} (b : BitVec w) : BitVec.ofInt w ((b.toNat : Nat) : Int) = b := by
  simp [BitVec.ofInt_natCast]
end Go.Proofs.Yteogjahkccmfaaa.Base
-- Written by a program of this session out of the translation.
namespace Go.Proofs.Yteogjahkccmfaaa.P
open Go.RowKit Go.Proofs.YteogjahkccmfaaaW.PrintWords Go.Proofs.YteogjahkccmfaaaW.PrintLast Go.Proofs.YteogjahkccmfaaaW.PrintMore
attribute [local go_sem] max2_int min2_int max_two min_two max_three min_three max_four min_four   -- for this text's walks alone
set_option linter.unusedVariables false
set_option linter.unusedSimpArgs false

/-! ### moraineref2_Unfixed: function 23 -/
def moraineref2_Unfixed.l0 : Nat → List Int → Int → Int → Int → Option (Int)
  | 0, _, _, _, _ => none
  | k + 1, x0, x1, x7, x8 => if x8 ≥ 0 then (if 0 ≤ (wrap64 (x1 + x8)) then (if (wrap64 (x1 + x8)) < (x0.length : Int) then (moraineref2_Unfixed.l0 k x0 x1 (IntKind.u64.wrap ((IntKind.u64.wrap (256 * x7)) + (IntKind.u64.wrap (rd x0 (wrap64 (x1 + x8)))))) (wrap64 (x8 - 1))) else (none)) else (none)) else (some x7)
def moraineref2_Unfixed.f (k : Nat) (l0 : List Int) (a1 : Int) (a2 : Int) : Option (Int) := moraineref2_Unfixed.l0 k l0 a1 0 (wrap64 (a2 - 1))
theorem moraineref2_Unfixed.mono_l : ∀ k, (∀ y0 y1 y2 y3, LeO (moraineref2_Unfixed.l0 k y0 y1 y2 y3) (moraineref2_Unfixed.l0 (k + 1) y0 y1 y2 y3))
  | 0 => fun _ _ _ _ r h => by simp [moraineref2_Unfixed.l0] at h
  | k + 1 => by
    have ih0 := moraineref2_Unfixed.mono_l k
    · intro y0 y1 y2 y3
      unfold moraineref2_Unfixed.l0
      repeat' first
      | (with_reducible exact ih0 _ _ _ _)
      | (with_reducible exact LeO.refl _)
      | (with_reducible exact LeO.none _)
      | (with_reducible refine LeO.ite ?_ ?_)
      | (with_reducible refine LeO.bind ?_ (fun _ => ?_))
      | exact ih0 _ _ _ _
      | exact LeO.none _
      | refine LeO.ite ?_ ?_
      | refine LeO.bind ?_ (fun _ => ?_)
theorem moraineref2_Unfixed.mono : ∀ a0 a1 a2 k, LeO (moraineref2_Unfixed.f k a0 a1 a2) (moraineref2_Unfixed.f (k + 1) a0 a1 a2) := by
  intro a0 a1 a2 k
  have ih0 := moraineref2_Unfixed.mono_l k
  unfold moraineref2_Unfixed.f
  repeat' first
      | (with_reducible exact ih0 _ _ _ _)
      | (with_reducible exact LeO.refl _)
      | (with_reducible exact LeO.none _)
      | (with_reducible refine LeO.ite ?_ ?_)
      | (with_reducible refine LeO.bind ?_ (fun _ => ?_))
      | exact ih0 _ _ _ _
      | exact LeO.none _
      | refine LeO.ite ?_ ?_
      | refine LeO.bind ?_ (fun _ => ?_)
set_option maxHeartbeats 8000000 in
set_option maxRecDepth 100000 in
theorem moraineref2_Unfixed.calls (k : Nat) (A0 : Option Addr) (c0 : Nat) (l0 : List Int) (a1 : Int) (a2 : Int) (r : Int) (w : World) (hr0 : Kd.C (Kd.int .u8) w A0 l0.length l0) (hc0 : l0.length ≤ c0) (h : moraineref2_Unfixed.f k l0 a1 a2 = some r) :
    Calls Try.prog 23 #[.slice A0 l0.length c0, .int .i64 a1, .int .i64 a2] w fun e w' => e = .returned (.int .u64 r) ∧ Drawn0 w w' := by
  have HR0 := Aside0.mk hr0
  have HC0 := Aside0.mk hc0
  clear hr0 hc0
  have H : (moraineref2_Unfixed.l0 k l0 a1 0 (wrap64 (a2 - 1))) = some r := h
  clear h
  have H' := Aside0.mk H
  clear H
  go_enter Try.func23, Try.ntmps23
  go_wp2
  go_loopg [7, 8] k (fun kq v7 v8 w' => ∃ (x7_1 : Int) (x8_1 : Int), v7 = .int .u64 x7_1 ∧ v8 = .int .i64 x8_1 ∧ Aside0 (moraineref2_Unfixed.l0 kq l0 a1 x7_1 x8_1 = some r) ∧ Aside0 (kq ≤ k) ∧ Drawn0 w w')
  case atStart => exact ⟨(0), (wrap64 (a2 - 1)), (by first | rfl | (simp; done) | (simp [*]; done)), (by first | rfl | (simp; done) | (simp [*]; done)), H', ⟨Nat.le_refl _⟩, by repeat (first | exact Drawn0.refl _ | apply Drawn0.step)⟩
  case round =>
    clear H'
    try clear c2
    try clear p2
    obtain ⟨x7_1, x8_1, rfl, rfl, HA, HK1, ⟨m1, rfl⟩⟩ := hrel
    cases gk with
    | zero => exact absurd HA.out (by simp [moraineref2_Unfixed.l0])
    | succ k1 =>
      have H := HA.out
      clear HA
      simp only [moraineref2_Unfixed.l0] at H
      by_cases c4 : x8_1 ≥ 0
      · rw [if_pos c4] at H
        have c4b0 : decide (0 ≤ x8_1) = true := decide_eq_true c4
        clear c4
        obtain ⟨ji5, hji5⟩ : ∃ j_ : Int, (wrap64 (a1 + x8_1)) = j_ := ⟨_, rfl⟩
        replace H : (if 0 ≤ (ji5) then (if (ji5) < (l0.length : Int) then (moraineref2_Unfixed.l0 k1 l0 a1 (IntKind.u64.wrap ((IntKind.u64.wrap (256 * x7_1)) + (IntKind.u64.wrap (rd l0 (ji5))))) (wrap64 (x8_1 - 1))) else (none)) else (none)) = some r := by first | (rw [hji5] at H; exact H) | (simp only [hji5] at H ⊢; exact H)
        have hji5w : (IntKind.i64.wrap (a1 + x8_1)) = ji5 := (i64_w _).trans hji5
        by_cases c6 : 0 ≤ (ji5)
        · rw [if_pos c6] at H
          have c6b0 : decide (0 ≤ (ji5)) = true := decide_eq_true c6
          clear c6
          by_cases c7 : (ji5) < (l0.length : Int)
          · rw [if_pos c7] at H
            have c7b0 : decide ((ji5) < (l0.length : Int)) = true := decide_eq_true c7
            clear c7
            have H' := Aside0.mk H
            clear H
            have p161 : 0 ≤ ((ji5) : Int) := of_decide_eq_true (by first | (with_reducible assumption) | assumption)
            have q161 : (ji5) < (l0.length : Int) := of_decide_eq_true (by first | (with_reducible assumption) | assumption)
            obtain ⟨ad161, e161, hx161_0⟩ := Kd.at_int HR0.out (ji5) p161 q161
            cases e161
            replace p161 := eq_true p161
            replace q161 := eq_true q161
            go_wp2
            go_roundg k1
            case measure => have := HK1.out; omega
            case rel => exact ⟨(IntKind.u64.wrap ((IntKind.u64.wrap (256 * x7_1)) + (IntKind.u64.wrap (rd l0 (ji5))))), (wrap64 (x8_1 - 1)), (by first | rfl | (simp; done) | (simp only [← hji5] <;> (first | rfl | simp)) | (simp [*]; done)), (by first | rfl | (simp; done) | (simp [*]; done)), H', ⟨by have := HK1.out; omega⟩, by repeat (first | exact Drawn0.refl _ | apply Drawn0.step)⟩
          · rw [if_neg c7] at H
            exact absurd H (by simp)
        · rw [if_neg c6] at H
          exact absurd H (by simp)
      · rw [if_neg c4] at H
        have c4b0 : decide (0 ≤ x8_1) = false := decide_eq_false c4
        clear c4
        obtain rfl := Option.some.inj H
        go_wp2
        go_ret
        exact ⟨by first | rfl | (simp; done) | (simp [*]; done), by repeat (first | exact Drawn0.refl _ | apply Drawn0.step)⟩

end Go.Proofs.Yteogjahkccmfaaa.P
/- Numbers of fixed width, least byte first: what the program and the document lay down and read back. -/
namespace Go.Proofs.Yteogjahkccmfaaa.Base
open Go Go.RowKit Go.Proofs.YteogjahkccmfaaaW.PrintWords Go.Proofs.YteogjahkccmfaaaW.PrintLast Go.Proofs.YteogjahkccmfaaaW.PrintMore Go.Proofs.Yteogjahkccmfaaa.P

theorem shr_u64 {a : Int} {n : Nat} (h : n ≤ 8) : shr .u64 a (8 * (n : Int)) = a / ((256 ^ n : Nat) : Int) := by
  unfold shr
  have e1 : min (8 * (n : Int)).toNat IntKind.u64.bits = 8 * n := by simp only [IntKind.bits]; omega
  rw [e1, Int.natCast_pow]
  congr 1
  have : (256 : Int) = 2 ^ 8 := by decide
  show (2 : Int) ^ (8 * n) = (256 : Int) ^ n
  rw [this, ← Int.pow_mul]
theorem shl_u64 {x : Int} {n : Nat} (h : n ≤ 7) (hx : 0 ≤ x ∧ x < 256) : shl .u64 (IntKind.u64.wrap x) (8 * (n : Int)) = x * ((256 ^ n : Nat) : Int) := by
  rw [wrapU64_id hx.1 (by omega)]
  unfold shl
  have e1 : min (8 * (n : Int)).toNat IntKind.u64.bits = 8 * n := by simp only [IntKind.bits]; omega
  have e2 : (2 : Int) ^ (8 * n) = ((256 ^ n : Nat) : Int) := by
    rw [Int.natCast_pow]
    have : (256 : Int) = 2 ^ 8 := by decide
    show (2 : Int) ^ (8 * n) = (256 : Int) ^ n
    rw [this, ← Int.pow_mul]
  rw [e1, e2, wrapU64_id]
  · exact Int.mul_nonneg hx.1 (Int.natCast_nonneg _)
  · have p : (256 : Nat) ^ n ≤ 256 ^ 7 := Nat.pow_le_pow_right (by decide) h
    have p' : ((256 ^ n : Nat) : Int) ≤ 72057594037927936 := by
      have : (256 : Nat) ^ 7 = 72057594037927936 := by decide
      omega
    calc x * ((256 ^ n : Nat) : Int) ≤ 255 * ((256 ^ n : Nat) : Int) := Int.mul_le_mul_of_nonneg_right (by omega) (Int.natCast_nonneg _)
      _ < 18446744073709551616 := by omega

/-- so many bytes of a number, the least first -/
def fixedL (a : Int) : Nat → List Int
  | 0 => []
  | n + 1 => fixedL a n ++ [a / ((256 ^ n : Nat) : Int) % 256]
theorem fixedL_length (a : Int) (n : Nat) : (fixedL a n).length = n := by
  induction n with
  | zero => rfl
  | succ n ih => simp [fixedL, ih]
theorem fixedL_bytes (a : Int) (n : Nat) : Bytes (fixedL a n) := by
  induction n with
  | zero => intro x hx; cases hx
  | succ n ih => exact ih.append fun x hx => by rw [List.mem_singleton.mp hx]; omega
def leVal : List Int → Int
  | [] => 0
  | x :: l => x + 256 * leVal l
theorem leVal_append (a b : List Int) : leVal (a ++ b) = leVal a + ((256 ^ a.length : Nat) : Int) * leVal b := by
  induction a with
  | nil => simp [leVal]
  | cons x l ih =>
    simp only [List.cons_append, leVal, ih, List.length_cons, Nat.pow_succ, Int.natCast_mul]
    rw [Int.mul_add, Int.add_assoc, ← Int.mul_assoc]
    congr 3
    rw [Int.mul_comm]; rfl
theorem leVal_range {l : List Int} (h : Bytes l) : 0 ≤ leVal l ∧ leVal l < ((256 ^ l.length : Nat) : Int) := by
  induction l with
  | nil => simp [leVal]
  | cons x l ih =>
    have := ih fun y hy => h y (List.mem_cons_of_mem _ hy)
    have := h x List.mem_cons_self
    simp only [leVal, List.length_cons, Nat.pow_succ, Int.natCast_mul]
    omega
theorem leVal_fixedL {a : Int} (ha : 0 ≤ a) (n : Nat) : leVal (fixedL a n) = a % ((256 ^ n : Nat) : Int) := by
  obtain ⟨m, rfl⟩ := Int.eq_ofNat_of_zero_le ha
  induction n with
  | zero => simp [fixedL, leVal, Int.emod_one]
  | succ n ih =>
    have e := @Nat.mod_mul (256 ^ n) 256 m
    rw [fixedL, leVal_append, ih, fixedL_length, Nat.pow_succ]
    simp only [leVal]
    have e' : ((m % (256 ^ n * 256) : Nat) : Int) = ((m % 256 ^ n + 256 ^ n * (m / 256 ^ n % 256) : Nat) : Int) := by rw [e]
    have e1 : ((m % (256 ^ n * 256) : Nat) : Int) = (m : Int) % ((256 ^ n * 256 : Nat) : Int) := Int.natCast_emod _ _
    have e2 : ((m % 256 ^ n + 256 ^ n * (m / 256 ^ n % 256) : Nat) : Int) = (m : Int) % ((256 ^ n : Nat) : Int) + ((256 ^ n : Nat) : Int) * ((m : Int) / ((256 ^ n : Nat) : Int) % 256) := by
      rw [Int.natCast_add, Int.natCast_mul, Int.natCast_emod, Int.natCast_emod, Int.natCast_ediv]; rfl
    rw [← e1, e', e2, Int.mul_zero, Int.add_zero]

theorem fixed_l0 {a : Int} (m : Nat) (hm : m ≤ 8) (n : Nat) : ∀ i : Nat, i + n = m → Conv (fun k => codec_fixed.l0 k a (fixedL a i) (m : Int) (i : Int)) (fixedL a m) := by
  induction n with
  | zero =>
    intro i hi
    obtain rfl : i = m := by omega
    refine Conv.succ ?_
    simp only [codec_fixed.l0]
    exact Conv.iteF (by omega) (Conv.pure _)
  | succ n ih =>
    intro i hi
    refine Conv.succ ?_
    simp only [codec_fixed.l0]
    rw [wrap64_id (n := 8 * (i : Int)) (by omega) (by omega), wrap64_id (n := (i : Int) + 1) (by omega) (by omega), shr_u64 (by omega)]
    refine Conv.iteT (by omega) (Conv.iteT (by omega) (Conv.iteT (by rw [fixedL_length]; omega) ?_))
    exact ih (i + 1) (by omega)
theorem rfixed_l0 {a : Int} (m : Nat) (hm : m ≤ 8) (n : Nat) : ∀ i : Nat, i + n = m → Conv (fun k => moraineref2_Fixed.l0 k a (m : Int) (fixedL a i) (i : Int)) (fixedL a m) := by
  induction n with
  | zero =>
    intro i hi
    obtain rfl : i = m := by omega
    refine Conv.succ ?_
    simp only [moraineref2_Fixed.l0]
    exact Conv.iteF (by omega) (Conv.pure _)
  | succ n ih =>
    intro i hi
    refine Conv.succ ?_
    simp only [moraineref2_Fixed.l0]
    rw [wrap64_id (n := 8 * (i : Int)) (by omega) (by omega), wrap64_id (n := (i : Int) + 1) (by omega) (by omega), shr_u64 (by omega)]
    refine Conv.iteT (by omega) (Conv.iteT (by omega) (Conv.iteT (by rw [fixedL_length]; omega) ?_))
    exact ih (i + 1) (by omega)
theorem fixed_conv (a : Int) (m : Nat) (hm : m ≤ 8) : Conv (fun k => codec_fixed.f k a (m : Int)) (fixedL a m) := fixed_l0 m hm m 0 (by omega)
theorem rfixed_conv (a : Int) (m : Nat) (hm : m ≤ 8) : Conv (fun k => moraineref2_Fixed.f k a (m : Int)) (fixedL a m) := rfixed_l0 m hm m 0 (by omega)

theorem bits_or64 {x y : Int} {n : Nat} (hn : n ≤ 8) (hx : 0 ≤ x ∧ x < ((256 ^ n : Nat) : Int)) (hy : 0 ≤ y ∧ y * ((256 ^ n : Nat) : Int) < 18446744073709551616) :
    Go.bits .or .u64 x (y * ((256 ^ n : Nat) : Int)) = x + y * ((256 ^ n : Nat) : Int) := by
  obtain ⟨a, rfl⟩ := Int.eq_ofNat_of_zero_le hx.1
  obtain ⟨b, rfl⟩ := Int.eq_ofNat_of_zero_le hy.1
  have e2 : (256 : Nat) ^ n = 2 ^ (8 * n) := by
    have : (256 : Nat) = 2 ^ 8 := by decide
    rw [this, ← Nat.pow_mul]
  have h1 : a < 2 ^ (8 * n) := by rw [← e2]; omega
  have h2 : b * 2 ^ (8 * n) < 18446744073709551616 := by
    rw [← e2]
    have := hy.2
    rw [← Int.natCast_mul] at this
    omega
  have hp : (2 : Nat) ^ (8 * n) ≤ 2 ^ 64 := Nat.pow_le_pow_right (by decide) (by omega)
  have h3 : a < 18446744073709551616 := by
    have : (2 : Nat) ^ 64 = 18446744073709551616 := by decide
    omega
  rw [e2, ← Int.natCast_mul]
  unfold Go.bits
  rw [wrapU64]
  have eo : BitVec.ofInt IntKind.u64.bits (a : Int) ||| BitVec.ofInt IntKind.u64.bits ((b * 2 ^ (8 * n) : Nat) : Int) = BitVec.ofNat 64 (a + b * 2 ^ (8 * n)) := by
    apply BitVec.eq_of_toNat_eq
    rw [BitVec.toNat_or, BitVec.ofInt_natCast, BitVec.ofInt_natCast]
    simp only [IntKind.bits, BitVec.toNat_ofNat]
    rw [Nat.mod_eq_of_lt (by omega), Nat.mod_eq_of_lt (by omega)]
    have := Nat.shiftLeft_add_eq_or_of_lt h1 b
    rw [Nat.shiftLeft_eq] at this
    rw [Nat.or_comm, ← this, Nat.add_comm (b * _), Nat.mod_eq_of_lt]
    rw [Nat.add_comm, this]
    exact Nat.or_lt_two_pow (n := 64) (by omega) (by omega)
  have hl : a + b * 2 ^ (8 * n) < 18446744073709551616 := by
    have := Nat.shiftLeft_add_eq_or_of_lt h1 b
    rw [Nat.shiftLeft_eq] at this
    rw [Nat.add_comm, this]
    exact Nat.or_lt_two_pow (n := 64) (by omega) (by omega)
  show ((BitVec.ofInt IntKind.u64.bits (a : Int) ||| BitVec.ofInt IntKind.u64.bits ((b * 2 ^ (8 * n) : Nat) : Int)).toNat : Int) % 18446744073709551616 = _
  have et : (BitVec.ofInt IntKind.u64.bits (a : Int) ||| BitVec.ofInt IntKind.u64.bits ((b * 2 ^ (8 * n) : Nat) : Int)).toNat = a + b * 2 ^ (8 * n) := by
    rw [eo]
    show (BitVec.ofNat 64 (a + b * 2 ^ (8 * n))).toNat = _
    rw [BitVec.toNat_ofNat, Nat.mod_eq_of_lt (by omega)]
  rw [et]
  omega
theorem take_succ' {l : List Int} {n : Nat} (h : n < l.length) : l.take (n + 1) = l.take n ++ [rd l (n : Int)] := by
  rw [rd_get h, List.take_append_getElem h]
theorem unfixed_l0 {l : List Int} (hl : Bytes l) (m : Nat) (hm : m ≤ 8) (hml : m ≤ l.length) (n : Nat) : ∀ i : Nat, i + n = m →
    Conv (fun k => codec_unfixed.l0 k l (leVal (l.take i)) (m : Int) (i : Int)) (leVal (l.take m), 0) := by
  induction n with
  | zero =>
    intro i hi
    obtain rfl : i = m := by omega
    refine Conv.succ ?_
    simp only [codec_unfixed.l0]
    exact Conv.iteF (by omega) (Conv.pure _)
  | succ n ih =>
    intro i hi
    refine Conv.succ ?_
    simp only [codec_unfixed.l0]
    have hb := rd_bytes hl (i : Int)
    rw [wrap64_id (n := 8 * (i : Int)) (by omega) (by omega), wrap64_id (n := (i : Int) + 1) (by omega) (by omega), shl_u64 (by omega) hb]
    refine Conv.iteT (by omega) (Conv.iteT (by omega) (Conv.iteT (by omega) (Conv.iteT (by omega) ?_)))
    have hr := leVal_range (hl.take i)
    have hlen : (l.take i).length = i := by rw [List.length_take]; omega
    rw [hlen] at hr
    have p : (256 : Nat) ^ i ≤ 256 ^ 7 := Nat.pow_le_pow_right (by decide) (by omega)
    have p' : ((256 ^ i : Nat) : Int) ≤ 72057594037927936 := by
      have : (256 : Nat) ^ 7 = 72057594037927936 := by decide
      omega
    rw [bits_or64 (by omega) hr ⟨hb.1, ?_⟩]
    · have e : leVal (l.take i) + rd l (i : Int) * ((256 ^ i : Nat) : Int) = leVal (l.take (i + 1)) := by
        rw [take_succ' (by omega), leVal_append, hlen]
        simp [leVal, Int.mul_comm]
      rw [e]
      exact ih (i + 1) (by omega)
    · calc rd l (i : Int) * ((256 ^ i : Nat) : Int) ≤ 255 * ((256 ^ i : Nat) : Int) := Int.mul_le_mul_of_nonneg_right (by omega) (Int.natCast_nonneg _)
        _ < 18446744073709551616 := by omega
theorem unfixed_conv {l : List Int} (hl : Bytes l) (m : Nat) (hm : m ≤ 8) (hml : m ≤ l.length) : Conv (fun k => codec_unfixed.f k l (m : Int)) (leVal (l.take m), 0) := by
  unfold codec_unfixed.f
  exact Conv.iteF (by omega) (unfixed_l0 hl m hm hml m 0 (by omega))
theorem unfixed_short {l : List Int} (m : Nat) (hml : l.length < m) : Conv (fun k => codec_unfixed.f k l (m : Int)) (0, 20) := by
  unfold codec_unfixed.f
  exact Conv.iteT (by omega) (Conv.pure _)
theorem runfixed_l0 {l : List Int} (hl : Bytes l) (a : Nat) (m : Nat) (hm : m ≤ 8) (hml : a + m ≤ l.length) (hlen : l.length < 4611686018427387904) (n : Nat) : n ≤ m →
    Conv (fun k => moraineref2_Unfixed.l0 k l (a : Int) (leVal ((l.drop (a + n)).take (m - n))) ((n : Int) - 1)) (leVal ((l.drop a).take m)) := by
  induction n with
  | zero =>
    intro _
    refine Conv.succ ?_
    simp only [moraineref2_Unfixed.l0]
    exact Conv.iteF (by omega) (Conv.pure _)
  | succ n ih =>
    intro hn
    refine Conv.succ ?_
    simp only [moraineref2_Unfixed.l0]
    have e0 : ((n + 1 : Nat) : Int) - 1 = (n : Int) := by omega
    have e1 : (a : Int) + (n : Int) = ((a + n : Nat) : Int) := by omega
    rw [e0, wrap64_id (n := (a : Int) + (n : Int)) (by omega) (by omega), wrap64_id (n := (n : Int) - 1) (by omega) (by omega), e1]
    have hb := rd_bytes hl ((a + n : Nat) : Int)
    refine Conv.iteT (by omega) (Conv.iteT (by omega) (Conv.iteT (by omega) ?_))
    have ht := (hl.drop (a + (n + 1))).take (m - (n + 1))
    have hr := leVal_range ht
    have p : (256 : Nat) ^ ((l.drop (a + (n + 1))).take (m - (n + 1))).length ≤ 256 ^ 7 := Nat.pow_le_pow_right (by decide) (by rw [List.length_take]; omega)
    have p' : ((256 ^ ((l.drop (a + (n + 1))).take (m - (n + 1))).length : Nat) : Int) ≤ 72057594037927936 := by
      have : (256 : Nat) ^ 7 = 72057594037927936 := by decide
      omega
    rw [wrapU64_id hb.1 (by omega), wrapU64_id (n := 256 * _) (by omega) (by omega), wrapU64_id (by omega) (by omega)]
    have e : 256 * leVal ((l.drop (a + (n + 1))).take (m - (n + 1))) + rd l ((a + n : Nat) : Int) = leVal ((l.drop (a + n)).take (m - n)) := by
      have em : m - n = (m - (n + 1)) + 1 := by omega
      rw [drop_cons (l := l) (i := a + n) (by omega), em, List.take_succ_cons, leVal, Int.add_comm]
      rfl
    rw [e]
    exact ih (by omega)
theorem runfixed_conv {l : List Int} (hl : Bytes l) (a m : Nat) (hm : m ≤ 8) (hml : a + m ≤ l.length) (hlen : l.length < 4611686018427387904) : Conv (fun k => moraineref2_Unfixed.f k l (a : Int) (m : Int)) (leVal ((l.drop a).take m)) := by
  have := runfixed_l0 hl a m hm hml hlen m (Nat.le_refl _)
  unfold moraineref2_Unfixed.f
  rw [wrap64_id (by omega) (by omega)]
  simpa [leVal] using this
end Go.Proofs.Yteogjahkccmfaaa.Base
-- Written by a program of this session out of the translation.
namespace Go.Proofs.Yteogjahkccmfaaa.P
open Go.RowKit Go.Proofs.YteogjahkccmfaaaW.PrintWords Go.Proofs.YteogjahkccmfaaaW.PrintLast Go.Proofs.YteogjahkccmfaaaW.PrintMore
attribute [local go_sem] max2_int min2_int max_two min_two max_three min_three max_four min_four   -- for this text's walks alone
set_option linter.unusedVariables false
set_option linter.unusedSimpArgs false

/-! ### moraineref2_Take: function 20 -/
mutual
def moraineref2_Take.l0 : Nat → List Int → Int → Int → Int → Option (Int × Int × Int)
  | 0, _, _, _, _ => none
  | k + 1, x0, x1, x7, x8 => if (wrap64 (x1 + x8)) ≥ (x0.length : Int) then (some (0, 0, 20)) else (if 0 ≤ (wrap64 (x1 + x8)) then (if (wrap64 (x1 + x8)) < (x0.length : Int) then (if x8 = 9 then (if (IntKind.u64.wrap (rd x0 (wrap64 (x1 + x8)))) > 1 then (moraineref2_Take.j1 k x0 x1 x7 x8 (IntKind.u64.wrap (rd x0 (wrap64 (x1 + x8)))) true) else (if x8 > 0 then (moraineref2_Take.j1 k x0 x1 x7 x8 (IntKind.u64.wrap (rd x0 (wrap64 (x1 + x8)))) ((IntKind.u64.wrap (rd x0 (wrap64 (x1 + x8)))) == 0)) else (moraineref2_Take.j1 k x0 x1 x7 x8 (IntKind.u64.wrap (rd x0 (wrap64 (x1 + x8)))) false))) else (if x8 > 0 then (moraineref2_Take.j1 k x0 x1 x7 x8 (IntKind.u64.wrap (rd x0 (wrap64 (x1 + x8)))) ((IntKind.u64.wrap (rd x0 (wrap64 (x1 + x8)))) == 0)) else (moraineref2_Take.j1 k x0 x1 x7 x8 (IntKind.u64.wrap (rd x0 (wrap64 (x1 + x8)))) false))) else (none)) else (none))
def moraineref2_Take.j1 : Nat → List Int → Int → Int → Int → Int → Bool → Option (Int × Int × Int)
  | 0, _, _, _, _, _, _ => none
  | k + 1, x0, x1, x7, x8, x9, x38 => if x38 = true then (some (0, 0, 21)) else (if 0 ≤ (wrap64 (7 * x8)) then (if x9 < 128 then (some (IntKind.u64.wrap (x7 + (shl .u64 (Int.tmod x9 128) (wrap64 (7 * x8)))), wrap64 (x8 + 1), 0)) else (moraineref2_Take.l0 k x0 x1 (IntKind.u64.wrap (x7 + (shl .u64 (Int.tmod x9 128) (wrap64 (7 * x8))))) (wrap64 (x8 + 1)))) else (none))
end
def moraineref2_Take.f (k : Nat) (l0 : List Int) (a1 : Int) : Option (Int × Int × Int) := moraineref2_Take.l0 k l0 a1 0 0
theorem moraineref2_Take.mono_l : ∀ k, (∀ y0 y1 y2 y3, LeO (moraineref2_Take.l0 k y0 y1 y2 y3) (moraineref2_Take.l0 (k + 1) y0 y1 y2 y3)) ∧ (∀ y0 y1 y2 y3 y4 y5, LeO (moraineref2_Take.j1 k y0 y1 y2 y3 y4 y5) (moraineref2_Take.j1 (k + 1) y0 y1 y2 y3 y4 y5))
  | 0 => ⟨fun _ _ _ _ r h => by simp [moraineref2_Take.l0] at h, fun _ _ _ _ _ _ r h => by simp [moraineref2_Take.j1] at h⟩
  | k + 1 => by
    obtain ⟨ih0, ih1⟩ := moraineref2_Take.mono_l k
    refine ⟨?_, ?_⟩
    · intro y0 y1 y2 y3
      unfold moraineref2_Take.l0
      repeat' first
      | (with_reducible exact ih0 _ _ _ _)
      | (with_reducible exact ih1 _ _ _ _ _ _)
      | (with_reducible exact LeO.refl _)
      | (with_reducible exact LeO.none _)
      | (with_reducible refine LeO.ite ?_ ?_)
      | (with_reducible refine LeO.bind ?_ (fun _ => ?_))
      | exact ih0 _ _ _ _
      | exact ih1 _ _ _ _ _ _
      | exact LeO.none _
      | refine LeO.ite ?_ ?_
      | refine LeO.bind ?_ (fun _ => ?_)
    · intro y0 y1 y2 y3 y4 y5
      unfold moraineref2_Take.j1
      repeat' first
      | (with_reducible exact ih0 _ _ _ _)
      | (with_reducible exact ih1 _ _ _ _ _ _)
      | (with_reducible exact LeO.refl _)
      | (with_reducible exact LeO.none _)
      | (with_reducible refine LeO.ite ?_ ?_)
      | (with_reducible refine LeO.bind ?_ (fun _ => ?_))
      | exact ih0 _ _ _ _
      | exact ih1 _ _ _ _ _ _
      | exact LeO.none _
      | refine LeO.ite ?_ ?_
      | refine LeO.bind ?_ (fun _ => ?_)
theorem moraineref2_Take.mono : ∀ a0 a1 k, LeO (moraineref2_Take.f k a0 a1) (moraineref2_Take.f (k + 1) a0 a1) := by
  intro a0 a1 k
  obtain ⟨ih0, ih1⟩ := moraineref2_Take.mono_l k
  unfold moraineref2_Take.f
  repeat' first
      | (with_reducible exact ih0 _ _ _ _)
      | (with_reducible exact ih1 _ _ _ _ _ _)
      | (with_reducible exact LeO.refl _)
      | (with_reducible exact LeO.none _)
      | (with_reducible refine LeO.ite ?_ ?_)
      | (with_reducible refine LeO.bind ?_ (fun _ => ?_))
      | exact ih0 _ _ _ _
      | exact ih1 _ _ _ _ _ _
      | exact LeO.none _
      | refine LeO.ite ?_ ?_
      | refine LeO.bind ?_ (fun _ => ?_)
set_option maxHeartbeats 8000000 in
set_option maxRecDepth 100000 in
theorem moraineref2_Take.calls (k : Nat) (A0 : Option Addr) (c0 : Nat) (l0 : List Int) (a1 : Int) (r1 : Int) (r2 : Int) (r3 : Int) (w : World) (hr0 : Kd.C (Kd.int .u8) w A0 l0.length l0) (hc0 : l0.length ≤ c0) (h : moraineref2_Take.f k l0 a1 = some (r1, r2, r3)) :
    Calls Try.prog 20 #[.slice A0 l0.length c0, .int .i64 a1] w fun e w' => e = .returned (.tuple #[.int .u64 r1, .int .i64 r2, .int .i64 r3]) ∧ Drawn0 w w' := by
  have HR0 := Aside0.mk hr0
  have HC0 := Aside0.mk hc0
  clear hr0 hc0
  have H : (moraineref2_Take.l0 k l0 a1 0 0) = some (r1, r2, r3) := h
  clear h
  have H' := Aside0.mk H
  clear H
  go_enter Try.func20, Try.ntmps20
  go_wp2
  go_loopg [7, 8] k (fun kq v7 v8 w' => ∃ (x7_1 : Int) (x8_1 : Int), v7 = .int .u64 x7_1 ∧ v8 = .int .i64 x8_1 ∧ Aside0 (moraineref2_Take.l0 kq l0 a1 x7_1 x8_1 = some (r1, r2, r3)) ∧ Aside0 (kq ≤ k) ∧ Drawn0 w w')
  case atStart => exact ⟨(0), (0), (by first | rfl | (simp; done) | (simp [*]; done)), (by first | rfl | (simp; done) | (simp [*]; done)), H', ⟨Nat.le_refl _⟩, by repeat (first | exact Drawn0.refl _ | apply Drawn0.step)⟩
  case round =>
    clear H'
    try clear c2
    try clear p2
    obtain ⟨x7_1, x8_1, rfl, rfl, HA, HK1, ⟨m1, rfl⟩⟩ := hrel
    cases gk with
    | zero => exact absurd HA.out (by simp [moraineref2_Take.l0])
    | succ k1 =>
      have H := HA.out
      clear HA
      simp only [moraineref2_Take.l0] at H
      by_cases c3 : (wrap64 (a1 + x8_1)) ≥ (l0.length : Int)
      · rw [if_pos c3] at H
        have c3b0 : decide ((l0.length : Int) ≤ (wrap64 (a1 + x8_1))) = true := decide_eq_true c3
        clear c3
        simp only [Option.some.injEq, Prod.mk.injEq] at H
        obtain ⟨rfl, rfl, rfl⟩ := H
        go_wp2
        go_ret3
        exact ⟨by first | rfl | (simp; done) | (simp [*]; done), by repeat (first | exact Drawn0.refl _ | apply Drawn0.step)⟩
      · rw [if_neg c3] at H
        have c3b0 : decide ((l0.length : Int) ≤ (wrap64 (a1 + x8_1))) = false := decide_eq_false c3
        clear c3
        obtain ⟨ji4, hji4⟩ : ∃ j_ : Int, (wrap64 (a1 + x8_1)) = j_ := ⟨_, rfl⟩
        replace H : (if 0 ≤ (ji4) then (if (ji4) < (l0.length : Int) then (if x8_1 = 9 then (if (IntKind.u64.wrap (rd l0 (ji4))) > 1 then (moraineref2_Take.j1 k1 l0 a1 x7_1 x8_1 (IntKind.u64.wrap (rd l0 (ji4))) true) else (if x8_1 > 0 then (moraineref2_Take.j1 k1 l0 a1 x7_1 x8_1 (IntKind.u64.wrap (rd l0 (ji4))) ((IntKind.u64.wrap (rd l0 (ji4))) == 0)) else (moraineref2_Take.j1 k1 l0 a1 x7_1 x8_1 (IntKind.u64.wrap (rd l0 (ji4))) false))) else (if x8_1 > 0 then (moraineref2_Take.j1 k1 l0 a1 x7_1 x8_1 (IntKind.u64.wrap (rd l0 (ji4))) ((IntKind.u64.wrap (rd l0 (ji4))) == 0)) else (moraineref2_Take.j1 k1 l0 a1 x7_1 x8_1 (IntKind.u64.wrap (rd l0 (ji4))) false))) else (none)) else (none)) = some (r1, r2, r3) := by first | (rw [hji4] at H; exact H) | (simp only [hji4] at H ⊢; exact H)
        (try rw [hji4] at c3b0)
        have hji4w : (IntKind.i64.wrap (a1 + x8_1)) = ji4 := (i64_w _).trans hji4
        by_cases c5 : 0 ≤ (ji4)
        · rw [if_pos c5] at H
          have c5b0 : decide (0 ≤ (ji4)) = true := decide_eq_true c5
          clear c5
          by_cases c6 : (ji4) < (l0.length : Int)
          · rw [if_pos c6] at H
            have c6b0 : decide ((ji4) < (l0.length : Int)) = true := decide_eq_true c6
            clear c6
            have HC7 := Aside0.mk H
            clear H
            have p212 : 0 ≤ ((ji4) : Int) := of_decide_eq_true (by first | (with_reducible assumption) | assumption)
            have q212 : (ji4) < (l0.length : Int) := of_decide_eq_true (by first | (with_reducible assumption) | assumption)
            obtain ⟨ad212, e212, hx212_0⟩ := Kd.at_int HR0.out (ji4) p212 q212
            cases e212
            replace p212 := eq_true p212
            replace q212 := eq_true q212
            go_upto_region 7 with (fail)
            go_cut [38] (fun v38 wc => ∃ (kq : Nat) (x38_6 : Bool), v38 = .bool x38_6 ∧ Aside0 (moraineref2_Take.j1 kq l0 a1 x7_1 x8_1 (IntKind.u64.wrap (rd l0 (ji4))) x38_6 = some (r1, r2, r3)) ∧ Aside0 (kq ≤ k1) ∧ Drawn0 w wc)
            case first =>
              have H := HC7.out
              clear HC7
              by_cases c8 : x8_1 = 9
              · rw [if_pos c8] at H
                have c8b0 : (x8_1 == 9) = true := beq_iff_eq.mpr c8
                have c8b1 : (x8_1 != 9) = false := bne_eq_false_iff_eq.mpr c8
                clear c8
                (first | rw [c8b0] | (simp only [i64_w, i32_w]; rw [c8b0]) | skip)
                by_cases c9 : (IntKind.u64.wrap (rd l0 (ji4))) > 1
                · rw [if_pos c9] at H
                  have c9b0 : decide (1 < (IntKind.u64.wrap (rd l0 (ji4)))) = true := decide_eq_true c9
                  clear c9
                  have H' := Aside0.mk H
                  clear H
                  go_wp2
                  go_meet
                  case rel => exact ⟨_, (true), (by first | rfl | (simp; done) | (simp [*]; done)), H', ⟨by have := HK1.out; first | omega | exact Nat.le_refl _⟩, by repeat (first | exact Drawn0.refl _ | apply Drawn0.step)⟩
                · rw [if_neg c9] at H
                  have c9b0 : decide (1 < (IntKind.u64.wrap (rd l0 (ji4)))) = false := decide_eq_false c9
                  clear c9
                  by_cases c10 : x8_1 > 0
                  · rw [if_pos c10] at H
                    have c10b0 : decide (0 < x8_1) = true := decide_eq_true c10
                    clear c10
                    have H' := Aside0.mk H
                    clear H
                    go_wp2
                    go_meet
                    case rel => exact ⟨_, (((IntKind.u64.wrap (rd l0 (ji4))) == 0)), (by first | rfl | (simp; done) | (simp only [← hji4] <;> (first | rfl | simp)) | (simp [*]; done)), H', ⟨by have := HK1.out; first | omega | exact Nat.le_refl _⟩, by repeat (first | exact Drawn0.refl _ | apply Drawn0.step)⟩
                  · rw [if_neg c10] at H
                    have c10b0 : decide (0 < x8_1) = false := decide_eq_false c10
                    clear c10
                    have H' := Aside0.mk H
                    clear H
                    go_wp2
                    go_meet
                    case rel => exact ⟨_, (false), (by first | rfl | (simp; done) | (simp [*]; done)), H', ⟨by have := HK1.out; first | omega | exact Nat.le_refl _⟩, by repeat (first | exact Drawn0.refl _ | apply Drawn0.step)⟩
              · rw [if_neg c8] at H
                have c8b0 : (x8_1 == 9) = false := beq_eq_false_iff_ne.mpr c8
                have c8b1 : (x8_1 != 9) = true := bne_iff_ne.mpr c8
                (first | rw [c8b0] | (simp only [i64_w, i32_w]; rw [c8b0]) | skip)
                by_cases c11 : x8_1 > 0
                · rw [if_pos c11] at H
                  have c11b0 : decide (0 < x8_1) = true := decide_eq_true c11
                  clear c11
                  have H' := Aside0.mk H
                  clear H
                  go_wp2
                  go_meet
                  case rel => exact ⟨_, (((IntKind.u64.wrap (rd l0 (ji4))) == 0)), (by first | rfl | (simp; done) | (simp only [← hji4] <;> (first | rfl | simp)) | (simp [*]; done)), H', ⟨by have := HK1.out; first | omega | exact Nat.le_refl _⟩, by repeat (first | exact Drawn0.refl _ | apply Drawn0.step)⟩
                · rw [if_neg c11] at H
                  have c11b0 : decide (0 < x8_1) = false := decide_eq_false c11
                  clear c11
                  have H' := Aside0.mk H
                  clear H
                  go_wp2
                  go_meet
                  case rel => exact ⟨_, (false), (by first | rfl | (simp; done) | (simp [*]; done)), H', ⟨by have := HK1.out; first | omega | exact Nat.le_refl _⟩, by repeat (first | exact Drawn0.refl _ | apply Drawn0.step)⟩
            case rest =>
              clear HC7
              try clear c1
              try clear c2
              try clear p2
              try clear q2
              try clear hx2
              try clear c3
              try clear c3b0
              try clear c5
              try clear c5b0
              try clear c6
              try clear c6b0
              try clear p6
              try clear c8
              try clear c8b0
              try clear c8b1
              try clear c9
              try clear c9b0
              try clear c10
              try clear c10b0
              try clear c11
              try clear c11b0
              try clear hx212_0
              try clear p2
              try clear p212
              try clear q212
              obtain ⟨kq, x38_6, rfl, HA, HJ6, ⟨mc6, rfl⟩⟩ := hcut
              cases kq with
              | zero => exact absurd HA.out (by simp [moraineref2_Take.j1])
              | succ kj6 =>
                have H := HA.out
                clear HA
                simp only [moraineref2_Take.j1] at H
                by_cases c12 : x38_6 = true
                · subst c12
                  have H1 : (some (0, 0, 21)) = some (r1, r2, r3) := by rw [if_pos rfl] at H; exact H
                  clear H
                  have H := H1
                  clear H1
                  simp only [Option.some.injEq, Prod.mk.injEq] at H
                  obtain ⟨rfl, rfl, rfl⟩ := H
                  go_wp2
                  go_ret3
                  exact ⟨by first | rfl | (simp; done) | (simp only [← hji4] <;> (first | rfl | simp)) | (simp [*]; done), by repeat (first | exact Drawn0.refl _ | apply Drawn0.step)⟩
                · replace c12 := Bool.eq_false_iff.mpr c12
                  subst c12
                  have H1 : (if 0 ≤ (wrap64 (7 * x8_1)) then (if (IntKind.u64.wrap (rd l0 (ji4))) < 128 then (some (IntKind.u64.wrap (x7_1 + (shl .u64 (Int.tmod (IntKind.u64.wrap (rd l0 (ji4))) 128) (wrap64 (7 * x8_1)))), wrap64 (x8_1 + 1), 0)) else (moraineref2_Take.l0 kj6 l0 a1 (IntKind.u64.wrap (x7_1 + (shl .u64 (Int.tmod (IntKind.u64.wrap (rd l0 (ji4))) 128) (wrap64 (7 * x8_1))))) (wrap64 (x8_1 + 1)))) else (none)) = some (r1, r2, r3) := by rw [if_neg (show ¬ (false = true) by decide)] at H; exact H
                  clear H
                  have H := H1
                  clear H1
                  obtain ⟨ji13, hji13⟩ : ∃ j_ : Int, (wrap64 (7 * x8_1)) = j_ := ⟨_, rfl⟩
                  replace H : (if 0 ≤ (ji13) then (if (IntKind.u64.wrap (rd l0 (ji4))) < 128 then (some (IntKind.u64.wrap (x7_1 + (shl .u64 (Int.tmod (IntKind.u64.wrap (rd l0 (ji4))) 128) (ji13))), wrap64 (x8_1 + 1), 0)) else (moraineref2_Take.l0 kj6 l0 a1 (IntKind.u64.wrap (x7_1 + (shl .u64 (Int.tmod (IntKind.u64.wrap (rd l0 (ji4))) 128) (ji13)))) (wrap64 (x8_1 + 1)))) else (none)) = some (r1, r2, r3) := by first | (rw [hji13] at H; exact H) | (simp only [hji13] at H ⊢; exact H)
                  have hji13w : (IntKind.i64.wrap (7 * x8_1)) = ji13 := (i64_w _).trans hji13
                  by_cases c14 : 0 ≤ (ji13)
                  · rw [if_pos c14] at H
                    have c14b0 := eq_true c14
                    have c14b1 : decide (0 ≤ (ji13)) = true := decide_eq_true c14
                    clear c14
                    obtain ⟨ji15, hji15⟩ : ∃ j_ : Int, (shl .u64 (Int.tmod (IntKind.u64.wrap (rd l0 (ji4))) 128) (ji13)) = j_ := ⟨_, rfl⟩
                    replace H : (if (IntKind.u64.wrap (rd l0 (ji4))) < 128 then (some (IntKind.u64.wrap (x7_1 + (ji15)), wrap64 (x8_1 + 1), 0)) else (moraineref2_Take.l0 kj6 l0 a1 (IntKind.u64.wrap (x7_1 + (ji15))) (wrap64 (x8_1 + 1)))) = some (r1, r2, r3) := by first | (rw [hji15] at H; exact H) | (simp only [hji15] at H ⊢; exact H)
                    have hji15_ : (IntKind.u64.wrap ((Int.tmod (IntKind.u64.wrap (rd l0 (ji4))) 128) * 2 ^ min (ji13).toNat 64)) = ji15 := hji15
                    have hji15z : (ji13) ≤ 64 → (IntKind.u64.wrap ((Int.tmod (IntKind.u64.wrap (rd l0 (ji4))) 128) * 2 ^ (ji13).toNat)) = ji15 := shl_small hji15
                    by_cases c16 : (IntKind.u64.wrap (rd l0 (ji4))) < 128
                    · rw [if_pos c16] at H
                      have c16b0 : decide ((IntKind.u64.wrap (rd l0 (ji4))) < 128) = true := decide_eq_true c16
                      clear c16
                      simp only [Option.some.injEq, Prod.mk.injEq] at H
                      obtain ⟨rfl, rfl, rfl⟩ := H
                      go_wp2
                      go_ret3
                      exact ⟨by first | rfl | (simp; done) | (simp only [← hji4, ← hji13, ← hji15] <;> (first | rfl | simp)) | (simp [*]; done), by repeat (first | exact Drawn0.refl _ | apply Drawn0.step)⟩
                    · rw [if_neg c16] at H
                      have c16b0 : decide ((IntKind.u64.wrap (rd l0 (ji4))) < 128) = false := decide_eq_false c16
                      clear c16
                      have H' := Aside0.mk H
                      clear H
                      go_wp2
                      go_roundg kj6
                      case measure => have := HK1.out; have := HJ6.out; omega
                      case rel => exact ⟨(IntKind.u64.wrap (x7_1 + (ji15))), (wrap64 (x8_1 + 1)), (by first | rfl | (simp; done) | (simp only [← hji15] <;> (first | rfl | simp)) | (simp [*]; done)), (by first | rfl | (simp; done) | (simp [*]; done)), H', ⟨by have := HK1.out; have := HJ6.out; omega⟩, by repeat (first | exact Drawn0.refl _ | apply Drawn0.step)⟩
                  · rw [if_neg c14] at H
                    exact absurd H (by simp)
          · rw [if_neg c6] at H
            exact absurd H (by simp)
        · rw [if_neg c5] at H
          exact absurd H (by simp)

end Go.Proofs.Yteogjahkccmfaaa.P
/- Numbers of seven bits a byte: laid down and read, by the program and by the document. -/
namespace Go.Proofs.Yteogjahkccmfaaa.Base
open Go Go.RowKit Go.Proofs.YteogjahkccmfaaaW.PrintWords Go.Proofs.YteogjahkccmfaaaW.PrintLast Go.Proofs.YteogjahkccmfaaaW.PrintMore Go.Proofs.Yteogjahkccmfaaa.P

theorem andNot128 {c : Int} (h : 0 ≤ c ∧ c < 256) : Go.bits .andNot .u8 c 128 = c % 128 := by
  have all : ∀ n : Fin 256, Go.bits .andNot .u8 (n.val : Int) 128 = (n.val : Int) % 128 := by decide +kernel
  have := all ⟨c.toNat, by omega⟩
  simp only at this
  rwa [Int.toNat_of_nonneg h.1] at this
theorem or128 {c : Int} (h : 0 ≤ c ∧ c < 256) : Go.bits .or .u8 c 128 = c % 128 + 128 := by
  have all : ∀ n : Fin 256, Go.bits .or .u8 (n.val : Int) 128 = (n.val : Int) % 128 + 128 := by decide +kernel
  have := all ⟨c.toNat, by omega⟩
  simp only at this
  rwa [Int.toNat_of_nonneg h.1] at this
theorem pow7 (n : Nat) : (2 : Nat) ^ (7 * n) = 128 ^ n := by
  have : (128 : Nat) = 2 ^ 7 := by decide
  rw [this, ← Nat.pow_mul]
theorem shl7 {x : Int} {n : Nat} (h : n ≤ 9) (h0 : 0 ≤ x) (hx : x * ((128 ^ n : Nat) : Int) < 18446744073709551616) (hx' : x < 18446744073709551616) : shl .u64 (IntKind.u64.wrap x) (7 * (n : Int)) = x * ((128 ^ n : Nat) : Int) := by
  rw [wrapU64_id h0 hx']
  unfold shl
  have e1 : min (7 * (n : Int)).toNat IntKind.u64.bits = 7 * n := by simp only [IntKind.bits]; omega
  have e2 : (2 : Int) ^ (7 * n) = ((128 ^ n : Nat) : Int) := by
    rw [← pow7, Int.natCast_pow]; rfl
  rw [e1, e2, wrapU64_id (Int.mul_nonneg h0 (Int.natCast_nonneg _)) hx]
theorem or_at {x y : Int} {m : Nat} (hx : 0 ≤ x ∧ x < ((2 ^ m : Nat) : Int)) (hy : 0 ≤ y ∧ y * ((2 ^ m : Nat) : Int) < 18446744073709551616) (hx64 : x < 18446744073709551616) :
    Go.bits .or .u64 x (y * ((2 ^ m : Nat) : Int)) = x + y * ((2 ^ m : Nat) : Int) := by
  obtain ⟨a, rfl⟩ := Int.eq_ofNat_of_zero_le hx.1
  obtain ⟨b, rfl⟩ := Int.eq_ofNat_of_zero_le hy.1
  have h1 : a < 2 ^ m := by omega
  have h2 : b * 2 ^ m < 18446744073709551616 := by
    have := hy.2
    rw [← Int.natCast_mul] at this
    omega
  rw [← Int.natCast_mul]
  unfold Go.bits
  rw [wrapU64]
  have hl : a + b * 2 ^ m < 18446744073709551616 := by
    have := Nat.shiftLeft_add_eq_or_of_lt h1 b
    rw [Nat.shiftLeft_eq] at this
    rw [Nat.add_comm, this]
    exact Nat.or_lt_two_pow (n := 64) (by omega) (by omega)
  have eo : BitVec.ofInt IntKind.u64.bits (a : Int) ||| BitVec.ofInt IntKind.u64.bits ((b * 2 ^ m : Nat) : Int) = BitVec.ofNat 64 (a + b * 2 ^ m) := by
    apply BitVec.eq_of_toNat_eq
    rw [BitVec.toNat_or, BitVec.ofInt_natCast, BitVec.ofInt_natCast]
    simp only [IntKind.bits, BitVec.toNat_ofNat]
    rw [Nat.mod_eq_of_lt (by omega), Nat.mod_eq_of_lt (by omega)]
    have := Nat.shiftLeft_add_eq_or_of_lt h1 b
    rw [Nat.shiftLeft_eq] at this
    rw [Nat.or_comm, ← this, Nat.add_comm (b * _), Nat.mod_eq_of_lt (by omega)]
  have et : (BitVec.ofInt IntKind.u64.bits (a : Int) ||| BitVec.ofInt IntKind.u64.bits ((b * 2 ^ m : Nat) : Int)).toNat = a + b * 2 ^ m := by
    rw [eo]
    show (BitVec.ofNat 64 (a + b * 2 ^ m)).toNat = _
    rw [BitVec.toNat_ofNat, Nat.mod_eq_of_lt (by omega)]
  show ((BitVec.ofInt IntKind.u64.bits (a : Int) ||| BitVec.ofInt IntKind.u64.bits ((b * 2 ^ m : Nat) : Int)).toNat : Int) % 18446744073709551616 = _
  rw [et]
  omega

/-- what is read of a row, from the i-th byte on -/
def takeS : List Int → Nat → Int → Int × Int × Int
  | [], _, _ => (0, 0, 20)
  | c :: l, i, acc => if (i = 9 ∧ 1 < c) ∨ (0 < i ∧ c = 0) then (0, 0, 21) else if c < 128 then (acc + c % 128 * ((128 ^ i : Nat) : Int), (i : Int) + 1, 0) else takeS l (i + 1) (acc + c % 128 * ((128 ^ i : Nat) : Int))
theorem pow128_le {i : Nat} (h : i ≤ 9) : ((128 ^ i : Nat) : Int) ≤ 9223372036854775808 := by
  have p : (128 : Nat) ^ i ≤ 128 ^ 9 := Nat.pow_le_pow_right (by decide) h
  have : (128 : Nat) ^ 9 = 9223372036854775808 := by decide
  omega
theorem pow128_le8 {i : Nat} (h : i ≤ 8) : ((128 ^ i : Nat) : Int) ≤ 72057594037927936 := by
  have p : (128 : Nat) ^ i ≤ 128 ^ 8 := Nat.pow_le_pow_right (by decide) h
  have : (128 : Nat) ^ 8 = 72057594037927936 := by decide
  omega
/-- a byte that is let in at its place: its part -/
theorem part {c acc : Int} {i : Nat} (hi : i ≤ 9) (hc : 0 ≤ c ∧ c < 256) (hn : ¬ ((i = 9 ∧ 1 < c) ∨ (0 < i ∧ c = 0))) (ha : 0 ≤ acc ∧ acc < ((128 ^ i : Nat) : Int)) :
    0 ≤ acc + c % 128 * ((128 ^ i : Nat) : Int) ∧ acc + c % 128 * ((128 ^ i : Nat) : Int) < ((128 ^ (i + 1) : Nat) : Int) ∧ acc + c % 128 * ((128 ^ i : Nat) : Int) < 18446744073709551616 ∧ c % 128 * ((128 ^ i : Nat) : Int) < 18446744073709551616 := by
  have hm : 0 ≤ c % 128 * ((128 ^ i : Nat) : Int) := Int.mul_nonneg (by omega) (Int.natCast_nonneg _)
  have hle : c % 128 * ((128 ^ i : Nat) : Int) ≤ 127 * ((128 ^ i : Nat) : Int) := Int.mul_le_mul_of_nonneg_right (by omega) (Int.natCast_nonneg _)
  have e : ((128 ^ (i + 1) : Nat) : Int) = 128 * ((128 ^ i : Nat) : Int) := by rw [Nat.pow_succ]; omega
  refine ⟨by omega, by omega, ?_⟩
  by_cases h9 : i = 9
  · subst h9
    have hle1 : c % 128 * ((128 ^ 9 : Nat) : Int) ≤ 1 * ((128 ^ 9 : Nat) : Int) := Int.mul_le_mul_of_nonneg_right (by omega) (Int.natCast_nonneg _)
    have := pow128_le (i := 9) (by omega)
    omega
  · have := pow128_le8 (i := i) (by omega)
    omega
theorem take_l0 {l : List Int} (hl : Bytes l) (hlen : l.length < 4611686018427387904) (n : Nat) : ∀ (i : Nat) (acc : Int), i + n = l.length → i ≤ 9 ∨ n = 0 → 0 ≤ acc ∧ acc < ((128 ^ i : Nat) : Int) →
    Conv (fun k => codec_Take.l0 k acc l (l.length : Int) (i : Int)) (takeS (l.drop i) i acc) := by
  induction n with
  | zero =>
    intro i acc hi _ _
    refine Conv.succ ?_
    simp only [codec_Take.l0]
    rw [List.drop_eq_nil_of_le (by omega)]
    exact Conv.iteF (by omega) (Conv.pure _)
  | succ n ih =>
    intro i acc hi h9 ha
    have h9 : i ≤ 9 := by omega
    refine Conv.succ ?_
    simp only [codec_Take.l0]
    refine Conv.iteT (by omega) (Conv.iteT (by omega) (Conv.iteT (by omega) ?_))
    rw [drop_cons (l := l) (i := i) (by omega)]
    have hb := rd_bytes hl (i : Int)
    generalize rd l (i : Int) = c at hb ⊢
    have bad : ∀ {v}, v = (0, 0, 21) → Conv (fun k => codec_Take.j1 k acc (i : Int) c l (l.length : Int) (i : Int) true) v := by
      intro v e
      subst e
      refine Conv.succ ?_
      simp only [codec_Take.j1]
      exact Conv.iteT (by trivial) (Conv.pure _)
    have good : ∀ b : Bool, b = false → ¬ ((i = 9 ∧ 1 < c) ∨ (0 < i ∧ c = 0)) → Conv (fun k => codec_Take.j1 k acc (i : Int) c l (l.length : Int) (i : Int) b) (takeS (c :: l.drop (i + 1)) i acc) := by
      intro b hbf hn
      subst hbf
      obtain ⟨p1, p2, p3, p4⟩ := part h9 hb hn ha
      refine Conv.succ ?_
      simp only [codec_Take.j1, takeS]
      rw [if_neg hn, wrap64_id (n := 7 * (i : Int)) (by omega) (by omega), wrap64_id (n := (i : Int) + 1) (by omega) (by omega), andNot128 hb, shl7 (by omega) (by omega) p4 (by omega), ← pow7,
        or_at (by rw [pow7]; exact ha) ⟨by omega, by rw [pow7]; exact p4⟩ (by have := pow128_le h9; omega), pow7]
      refine Conv.iteF (by decide) (Conv.iteT (by omega) ?_)
      refine Conv.ite (fun c1 => ?_) fun c1 => ?_
      · rw [if_pos c1]; exact Conv.pure _
      · rw [if_neg c1]
        exact ih (i + 1) _ (by omega) (by omega) ⟨p1, p2⟩
    refine Conv.ite (fun c1 => Conv.ite (fun c2 => ?_) fun c2 => Conv.ite (fun c3 => ?_) fun c3 => ?_) fun c1 => Conv.ite (fun c3 => ?_) fun c3 => ?_
    · exact bad (by simp only [takeS]; rw [if_pos (by omega)])
    · by_cases c4 : c = 0
      · rw [show (c == 0) = true from beq_iff_eq.mpr c4]
        exact bad (by simp only [takeS]; rw [if_pos (by omega)])
      · exact good _ (beq_eq_false_iff_ne.mpr c4) (by omega)
    · exact good _ rfl (by omega)
    · by_cases c4 : c = 0
      · rw [show (c == 0) = true from beq_iff_eq.mpr c4]
        exact bad (by simp only [takeS]; rw [if_pos (by omega)])
      · exact good _ (beq_eq_false_iff_ne.mpr c4) (by omega)
    · exact good _ rfl (by omega)
theorem take_conv {l : List Int} (hl : Bytes l) (hlen : l.length < 4611686018427387904) : Conv (fun k => codec_Take.f k l) (takeS l 0 0) := by
  have := take_l0 hl hlen l.length 0 0 (by omega) (by omega) (by decide)
  simpa [codec_Take.f] using this
theorem rtake_l0 {l : List Int} (hl : Bytes l) (hlen : l.length < 4611686018427387904) (a : Nat) (n : Nat) : ∀ (i : Nat) (acc : Int), a + i + n = l.length → i ≤ 9 ∨ n = 0 → 0 ≤ acc ∧ acc < ((128 ^ i : Nat) : Int) →
    Conv (fun k => moraineref2_Take.l0 k l (a : Int) acc (i : Int)) (takeS (l.drop (a + i)) i acc) := by
  induction n with
  | zero =>
    intro i acc hi _ _
    refine Conv.succ ?_
    simp only [moraineref2_Take.l0]
    rw [List.drop_eq_nil_of_le (by omega), wrap64_id (by omega) (by omega)]
    exact Conv.iteT (by omega) (Conv.pure _)
  | succ n ih =>
    intro i acc hi h9 ha
    have h9 : i ≤ 9 := by omega
    refine Conv.succ ?_
    simp only [moraineref2_Take.l0]
    have e : (a : Int) + (i : Int) = ((a + i : Nat) : Int) := by omega
    rw [wrap64_id (n := (a : Int) + (i : Int)) (by omega) (by omega), e]
    refine Conv.iteF (by omega) (Conv.iteT (by omega) (Conv.iteT (by omega) ?_))
    rw [drop_cons (l := l) (i := a + i) (by omega)]
    have hb := rd_bytes hl ((a + i : Nat) : Int)
    rw [wrapU64_id hb.1 (by omega)]
    generalize rd l ((a + i : Nat) : Int) = c at hb ⊢
    have bad : ∀ {v}, v = (0, 0, 21) → Conv (fun k => moraineref2_Take.j1 k l (a : Int) acc (i : Int) c true) v := by
      intro v e
      subst e
      refine Conv.succ ?_
      simp only [moraineref2_Take.j1]
      exact Conv.iteT (by trivial) (Conv.pure _)
    have good : ∀ b : Bool, b = false → ¬ ((i = 9 ∧ 1 < c) ∨ (0 < i ∧ c = 0)) → Conv (fun k => moraineref2_Take.j1 k l (a : Int) acc (i : Int) c b) (takeS (c :: l.drop (a + i + 1)) i acc) := by
      intro b hbf hn
      subst hbf
      obtain ⟨p1, p2, p3, p4⟩ := part h9 hb hn ha
      refine Conv.succ ?_
      simp only [moraineref2_Take.j1, takeS]
      have es : shl .u64 (Int.tmod c 128) (7 * (i : Int)) = c % 128 * ((128 ^ i : Nat) : Int) := by
        rw [Int.tmod_eq_emod_of_nonneg hb.1, ← wrapU64_id (n := c % 128) (by omega) (by omega), shl7 (by omega) (by omega) p4 (by omega), wrapU64_id (by omega) (by omega)]
      rw [if_neg hn, wrap64_id (n := 7 * (i : Int)) (by omega) (by omega), wrap64_id (n := (i : Int) + 1) (by omega) (by omega), es, wrapU64_id p1 p3]
      refine Conv.iteF (by decide) (Conv.iteT (by omega) ?_)
      refine Conv.ite (fun c1 => ?_) fun c1 => ?_
      · rw [if_pos c1]; exact Conv.pure _
      · rw [if_neg c1]
        exact ih (i + 1) _ (by omega) (by omega) ⟨p1, p2⟩
    refine Conv.ite (fun c1 => Conv.ite (fun c2 => ?_) fun c2 => Conv.ite (fun c3 => ?_) fun c3 => ?_) fun c1 => Conv.ite (fun c3 => ?_) fun c3 => ?_
    · exact bad (by simp only [takeS]; rw [if_pos (by omega)])
    · by_cases c4 : c = 0
      · rw [show (c == 0) = true from beq_iff_eq.mpr c4]
        exact bad (by simp only [takeS]; rw [if_pos (by omega)])
      · exact good _ (beq_eq_false_iff_ne.mpr c4) (by omega)
    · exact good _ rfl (by omega)
    · by_cases c4 : c = 0
      · rw [show (c == 0) = true from beq_iff_eq.mpr c4]
        exact bad (by simp only [takeS]; rw [if_pos (by omega)])
      · exact good _ (beq_eq_false_iff_ne.mpr c4) (by omega)
    · exact good _ rfl (by omega)
theorem rtake_conv {l : List Int} (hl : Bytes l) (hlen : l.length < 4611686018427387904) (a : Nat) (ha : a ≤ l.length) : Conv (fun k => moraineref2_Take.f k l (a : Int)) (takeS (l.drop a) 0 0) :=
  rtake_l0 hl hlen a (l.length - a) 0 0 (by omega) (by omega) (by decide)

/-- a number's bytes: as many as its size asks for -/
def putS (n : Nat) : List Int := if h : n < 128 then [(n : Int)] else ((n % 128 + 128 : Nat) : Int) :: putS (n / 128)
termination_by n
decreasing_by omega
theorem putS_bytes (n : Nat) : Bytes (putS n) := by
  induction n using Nat.strongRecOn with
  | ind n ih =>
    unfold putS
    split
    · intro x hx; rw [List.mem_singleton.mp hx]; omega
    · intro x hx
      rcases List.mem_cons.mp hx with h | h
      · rw [h]; omega
      · exact ih (n / 128) (by omega) x h
theorem putS_length (j : Nat) : ∀ n : Nat, n < 128 ^ (j + 1) → (putS n).length ≤ j + 1 := by
  induction j with
  | zero => intro n h; unfold putS; rw [dif_pos (by omega)]; simp
  | succ j ih =>
    intro n h
    unfold putS
    split
    · simp
    · rw [List.length_cons]
      have := ih (n / 128) (by rw [Nat.div_lt_iff_lt_mul (by decide)]; rw [Nat.pow_succ] at h; exact h)
      omega
theorem putS_length64 {n : Nat} (h : n < 18446744073709551616) : (putS n).length ≤ 10 := by
  refine putS_length 9 n ?_
  have : (128 : Nat) ^ (9 + 1) = 1180591620717411303424 := by decide
  omega
theorem put_l0 (n : Nat) : ∀ acc : List Int, acc.length + (putS n).length < 140737488355328 → Conv (fun k => codec_Put.l0 k (n : Int) acc) (acc ++ putS n) := by
  induction n using Nat.strongRecOn with
  | ind n ih =>
    intro acc hlen
    refine Conv.succ ?_
    simp only [codec_Put.l0]
    by_cases h : n < 128
    · have e : putS n = [(n : Int)] := by unfold putS; rw [dif_pos h]
      rw [e] at hlen ⊢
      refine Conv.iteF (by omega) (Conv.iteT (by simp at hlen; omega) ?_)
      rw [Int.emod_eq_of_lt (by omega) (by omega)]
      exact Conv.pure _
    · have e : putS n = ((n % 128 + 128 : Nat) : Int) :: putS (n / 128) := by rw [putS, dif_neg h]
      rw [e] at hlen ⊢
      refine Conv.iteT (by omega) (Conv.iteT (by simp at hlen; omega) ?_)
      rw [or128 (by omega)]
      have e1 : (n : Int) % 256 % 128 + 128 = ((n % 128 + 128 : Nat) : Int) := by omega
      have e2 : (n : Int) / 128 = ((n / 128 : Nat) : Int) := by omega
      rw [e1, e2]
      have := ih (n / 128) (by omega) (acc ++ [((n % 128 + 128 : Nat) : Int)]) (by simp at hlen ⊢; omega)
      rwa [List.append_assoc] at this
theorem put_conv {a : Int} (h : 0 ≤ a ∧ a < 18446744073709551616) : Conv (fun k => codec_Put.f k a) (putS a.toNat) := by
  have := put_l0 a.toNat [] (by have := putS_length64 (n := a.toNat) (by omega); simp; omega)
  rwa [Int.toNat_of_nonneg h.1] at this
theorem rput_l0 (n : Nat) : n < 18446744073709551616 → ∀ acc : List Int, acc.length + (putS n).length < 140737488355328 → Conv (fun k => moraineref2_Put.l0 k (n : Int) acc) (acc ++ putS n) := by
  induction n using Nat.strongRecOn with
  | ind n ih =>
    intro hn acc hlen
    refine Conv.succ ?_
    simp only [moraineref2_Put.l0]
    by_cases h : n < 128
    · have e : putS n = [(n : Int)] := by unfold putS; rw [dif_pos h]
      rw [e] at hlen ⊢
      refine Conv.iteF (by omega) (Conv.iteT (by simp at hlen; omega) ?_)
      rw [Int.emod_eq_of_lt (by omega) (by omega)]
      exact Conv.pure _
    · have e : putS n = ((n % 128 + 128 : Nat) : Int) :: putS (n / 128) := by rw [putS, dif_neg h]
      rw [e] at hlen ⊢
      refine Conv.iteT (by omega) (Conv.iteT (by simp at hlen; omega) ?_)
      rw [Int.tdiv_eq_ediv_of_nonneg (by omega), Int.tmod_eq_emod_of_nonneg (by omega), wrapU64_id (by omega) (by omega), wrapU64_id (by omega) (by omega)]
      have e1 : (128 + (n : Int) % 128) % 256 = ((n % 128 + 128 : Nat) : Int) := by omega
      have e2 : (n : Int) / 128 = ((n / 128 : Nat) : Int) := by omega
      rw [e1, e2]
      have := ih (n / 128) (by omega) (by omega) (acc ++ [((n % 128 + 128 : Nat) : Int)]) (by simp at hlen ⊢; omega)
      rwa [List.append_assoc] at this
theorem rput_conv {a : Int} (h : 0 ≤ a ∧ a < 18446744073709551616) : Conv (fun k => moraineref2_Put.f k a) (putS a.toNat) := by
  have := rput_l0 a.toNat (by omega) [] (by have := putS_length64 (n := a.toNat) (by omega); simp; omega)
  rwa [Int.toNat_of_nonneg h.1] at this
theorem takeS_putS (n : Nat) : ∀ (i : Nat) (acc : Int) (rest : List Int), i ≤ 9 → n * 128 ^ i < 18446744073709551616 → i = 0 ∨ 0 < n →
    takeS (putS n ++ rest) i acc = (acc + (n : Int) * ((128 ^ i : Nat) : Int), (i : Int) + ((putS n).length : Int), 0) := by
  induction n using Nat.strongRecOn with
  | ind n ih =>
    intro i acc rest hi hn h0
    have h9 : i = 9 → n ≤ 1 := by
      intro e
      subst e
      have : (128 : Nat) ^ 9 = 9223372036854775808 := by decide
      omega
    by_cases h : n < 128
    · have e : putS n = [(n : Int)] := by unfold putS; rw [dif_pos h]
      rw [e]
      simp only [List.cons_append, List.nil_append, takeS, List.length_cons, List.length_nil]
      rw [if_neg (by omega), if_pos (by omega), Int.emod_eq_of_lt (by omega) (by omega)]
      rfl
    · have e : putS n = ((n % 128 + 128 : Nat) : Int) :: putS (n / 128) := by rw [putS, dif_neg h]
      rw [e]
      simp only [List.cons_append, takeS, List.length_cons]
      have hp : n / 128 * 128 ^ (i + 1) ≤ n * 128 ^ i := by
        rw [Nat.pow_succ, Nat.mul_comm (128 ^ i), ← Nat.mul_assoc]
        exact Nat.mul_le_mul_right _ (Nat.div_mul_le_self _ _)
      rw [if_neg (by omega), if_neg (by omega), ih (n / 128) (by omega) (i + 1) _ rest (by omega) (by omega) (by omega)]
      have e1 : (((n % 128 + 128 : Nat) : Int)) % 128 = ((n % 128 : Nat) : Int) := by omega
      rw [e1]
      congr 1
      · rw [Int.add_assoc]
        congr 1
        rw [← Int.natCast_mul, ← Int.natCast_mul, ← Int.natCast_mul, ← Int.natCast_add]
        congr 1
        rw [Nat.pow_succ, Nat.mul_comm (128 ^ i) 128, ← Nat.mul_assoc, ← Nat.add_mul]
        congr 1
        omega
      · congr 1
        omega
theorem take_put {a : Int} (h : 0 ≤ a ∧ a < 18446744073709551616) (rest : List Int) : takeS (putS a.toNat ++ rest) 0 0 = (a, ((putS a.toNat).length : Int), 0) := by
  rw [takeS_putS a.toNat 0 0 rest (by omega) (by simp; omega) (.inl rfl)]
  simp
  omega
end Go.Proofs.Yteogjahkccmfaaa.Base
/- The sum CRC-32C as it is computed by the program and by the document, bit by bit: both are one fold over the bytes, and that fold is linear. -/
namespace Go.Proofs.Yteogjahkccmfaaa.Base
open Go Go.RowKit Go.Proofs.YteogjahkccmfaaaW.PrintWords Go.Proofs.YteogjahkccmfaaaW.PrintLast Go.Proofs.YteogjahkccmfaaaW.PrintMore Go.Proofs.Yteogjahkccmfaaa.P

def poly : BitVec 32 := 2197175160#32
/-- one bit's step -/
def step (b : BitVec 32) : BitVec 32 := (b >>> 1) ^^^ (if b.getLsbD 0 then poly else 0#32)
def steps : Nat → BitVec 32 → BitVec 32
  | 0, b => b
  | n + 1, b => steps n (step b)
/-- all bytes -/
def crcF (c : BitVec 32) : List Int → BitVec 32
  | [] => c
  | x :: l => crcF (steps 8 (c ^^^ BitVec.ofInt 32 x)) l
def crc (l : List Int) : BitVec 32 := BitVec.allOnes 32 ^^^ crcF (BitVec.allOnes 32) l

theorem step_xor (a b : BitVec 32) : step (a ^^^ b) = step a ^^^ step b := by
  unfold step
  rw [BitVec.ushiftRight_xor_distrib, BitVec.getLsbD_xor]
  have e : ∀ p q r : BitVec 32, (p ^^^ r) ^^^ (q ^^^ r) = p ^^^ q := by
    intro p q r
    refine BitVec.eq_of_getLsbD_eq fun i _ => ?_
    simp only [BitVec.getLsbD_xor]
    cases p.getLsbD i <;> cases q.getLsbD i <;> cases r.getLsbD i <;> rfl
  cases a.getLsbD 0 <;> cases b.getLsbD 0 <;> simp [e] <;> ac_rfl
theorem steps_xor (n : Nat) (a b : BitVec 32) : steps n (a ^^^ b) = steps n a ^^^ steps n b := by
  induction n generalizing a b with
  | zero => rfl
  | succ n ih => simp only [steps, step_xor, ih]
theorem step_inj {a b : BitVec 32} (h : step a = step b) : a = b := by
  have top : ∀ x : BitVec 32, (step x).getLsbD 31 = x.getLsbD 0 := by
    intro x
    unfold step
    rw [BitVec.getLsbD_xor, BitVec.getLsbD_ushiftRight]
    cases x.getLsbD 0 <;> simp [poly]
  have h0 : a.getLsbD 0 = b.getLsbD 0 := by rw [← top a, ← top b, h]
  have hs : a >>> 1 = b >>> 1 := by
    unfold step at h
    rw [h0] at h
    have := congrArg (· ^^^ (if b.getLsbD 0 then poly else 0#32)) h
    simpa [BitVec.xor_assoc] using this
  refine BitVec.eq_of_getLsbD_eq fun i hi => ?_
  cases i with
  | zero => exact h0
  | succ i =>
    have := congrArg (·.getLsbD i) hs
    simpa [BitVec.getLsbD_ushiftRight, Nat.add_comm] using this
theorem steps_inj {n : Nat} {a b : BitVec 32} (h : steps n a = steps n b) : a = b := by
  induction n generalizing a b with
  | zero => exact h
  | succ n ih => exact step_inj (ih h)
theorem crcF_inj {l : List Int} {a b : BitVec 32} (h : crcF a l = crcF b l) : a = b := by
  induction l generalizing a b with
  | nil => exact h
  | cons x l ih =>
    have := steps_inj (ih h)
    have := congrArg (· ^^^ BitVec.ofInt 32 x) this
    simpa [BitVec.xor_assoc] using this
theorem crcF_append (c : BitVec 32) (a b : List Int) : crcF c (a ++ b) = crcF (crcF c a) b := by
  induction a generalizing c with
  | nil => rfl
  | cons x l ih => exact ih _

theorem step_prog (x : BitVec 32) : Go.bits .xor .u32 ((x.toNat : Int) / 2) (Go.bits .and .u32 2197175160 ((-(Go.bits .and .u32 (x.toNat : Int) 1)) % 4294967296)) = ((step x).toNat : Int) := by
  rw [bits_xor32, bits_and32, bits_and32]
  have e1 : BitVec.ofInt 32 ((x.toNat : Int) / 2) = x >>> 1 := by
    have : ((x.toNat : Int) / (2 : Int)) = ((x >>> 1).toNat : Int) := by
      rw [BitVec.toNat_ushiftRight, Nat.shiftRight_eq_div_pow]; omega
    rw [this, ofInt_toNat]
  have e2 : BitVec.ofInt 32 (x.toNat : Int) &&& BitVec.ofInt 32 1 = if x.getLsbD 0 then 1#32 else 0#32 := by
    rw [ofInt_toNat]
    refine BitVec.eq_of_getLsbD_eq fun i hi => ?_
    have : BitVec.ofInt 32 1 = 1#32 := by decide
    rw [this]
    cases i with
    | zero => cases h : x.getLsbD 0 <;> simp only [BitVec.getLsbD_and, h] <;> decide
    | succ i => cases h : x.getLsbD 0 <;> simp [BitVec.getLsbD_one]
  rw [e1, e2]
  congr 2
  unfold step
  congr 1
  cases x.getLsbD 0 <;> decide
theorem tdiv_nat (n : Nat) : Int.tdiv (n : Int) 2 = ((n / 2 : Nat) : Int) := by
  rw [Int.tdiv_eq_ediv_of_nonneg (Int.natCast_nonneg _)]; omega
theorem tmod_nat (n : Nat) : Int.tmod (n : Int) 2 = ((n % 2 : Nat) : Int) := by
  rw [Int.tmod_eq_emod_of_nonneg (Int.natCast_nonneg _)]; omega
theorem div2 (x : BitVec 32) : BitVec.ofInt 32 (((x.toNat / 2 : Nat) : Int) % 4294967296) = x >>> 1 := by
  have hx := x.isLt
  have : (((x.toNat / 2 : Nat) : Int) % (4294967296 : Int)) = ((x >>> 1).toNat : Int) := by
    rw [BitVec.toNat_ushiftRight, Nat.shiftRight_eq_div_pow]; omega
  rw [this, ofInt_toNat]
theorem lsb_true (x : BitVec 32) : x.getLsbD 0 = true ↔ x.toNat % 2 = 1 := by
  simp [BitVec.getLsbD, Nat.testBit_zero]
theorem step_ref1 {x : BitVec 32} (h : Int.tmod (x.toNat : Int) 2 = 1) : Go.bits .xor .u32 ((Int.tdiv (x.toNat : Int) 2) % 4294967296) 2197175160 = ((step x).toNat : Int) := by
  have hx := x.isLt
  rw [tmod_nat] at h
  rw [bits_xor32, tdiv_nat, div2]
  have hb : x.getLsbD 0 = true := by rw [lsb_true]; omega
  unfold step
  rw [hb, if_pos rfl]
  rfl
theorem step_ref0 {x : BitVec 32} (h : ¬ Int.tmod (x.toNat : Int) 2 = 1) : (Int.tdiv (x.toNat : Int) 2) % 4294967296 = ((step x).toNat : Int) := by
  have hx := x.isLt
  rw [tmod_nat] at h
  have hb : x.getLsbD 0 = false := by
    rw [← Bool.not_eq_true, lsb_true]; omega
  unfold step
  rw [hb, if_neg (by decide), BitVec.xor_zero, BitVec.toNat_ushiftRight, Nat.shiftRight_eq_div_pow, tdiv_nat]
  omega

theorem xor_byte {c : BitVec 32} {x : Int} (h : 0 ≤ x ∧ x < 256) : Go.bits .xor .u32 (c.toNat : Int) (x % 4294967296) = ((c ^^^ BitVec.ofInt 32 x).toNat : Int) := by
  rw [bits_xor32, ofInt_toNat, Int.emod_eq_of_lt h.1 (by omega)]

theorem sum_l1 {x6 : List Int} {x7 x8 v : Int} (n : Nat) : ∀ (j : Nat) (c : BitVec 32), j + n = 8 →
    Conv (fun k => codec_Sum.l0 k ((steps n c).toNat : Int) x6 x7 (wrap64 (x8 + 1))) v → Conv (fun k => codec_Sum.l1 k (c.toNat : Int) x6 x7 x8 (j : Int)) v := by
  induction n with
  | zero =>
    intro j c hj h
    refine Conv.succ ?_
    simp only [codec_Sum.l1]
    exact Conv.iteF (by omega) h
  | succ n ih =>
    intro j c hj h
    refine Conv.succ ?_
    simp only [codec_Sum.l1, step_prog]
    refine Conv.iteT (by omega) ?_
    rw [wrap64_id (by omega) (by omega)]
    exact ih (j + 1) (step c) (by omega) h
theorem sum_l0 {l : List Int} (hl : Bytes l) (hlen : l.length < 9223372036854775807) (n : Nat) : ∀ (i : Nat) (c : BitVec 32), i + n = l.length →
    Conv (fun k => codec_Sum.l0 k (c.toNat : Int) l (l.length : Int) (i : Int)) ((BitVec.allOnes 32 ^^^ crcF c (l.drop i)).toNat : Int) := by
  induction n with
  | zero =>
    intro i c hi
    refine Conv.succ ?_
    simp only [codec_Sum.l0]
    refine Conv.iteF (by omega) ?_
    rw [List.drop_eq_nil_of_le (by omega), bits_xor32, ofInt_toNat]
    exact Conv.pure _
  | succ n ih =>
    intro i c hi
    refine Conv.succ ?_
    simp only [codec_Sum.l0]
    refine Conv.iteT (by omega) (Conv.iteT (by omega) (Conv.iteT (by omega) ?_))
    rw [xor_byte (rd_bytes hl _), drop_cons (by omega)]
    refine sum_l1 8 0 _ rfl ?_
    rw [wrap64_id (by omega) (by omega)]
    exact ih (i + 1) _ (by omega)
theorem sum_conv {l : List Int} (hl : Bytes l) (hlen : l.length < 9223372036854775807) : Conv (fun k => codec_Sum.f k l) ((crc l).toNat : Int) := by
  have := sum_l0 hl hlen l.length 0 (BitVec.allOnes 32) (by omega)
  simpa [codec_Sum.f, crc] using this

theorem rsum_l1 {x0 : List Int} {x4 v : Int} (n : Nat) : ∀ (j : Nat) (c : BitVec 32), j + n = 8 →
    Conv (fun k => moraineref2_Sum.l0 k x0 ((steps n c).toNat : Int) (wrap64 (x4 + 1))) v → Conv (fun k => moraineref2_Sum.l1 k x0 (c.toNat : Int) x4 (j : Int)) v := by
  induction n with
  | zero =>
    intro j c hj h
    refine Conv.succ ?_
    simp only [moraineref2_Sum.l1]
    exact Conv.iteF (by omega) h
  | succ n ih =>
    intro j c hj h
    refine Conv.succ ?_
    simp only [moraineref2_Sum.l1]
    refine Conv.iteT (by omega) ?_
    rw [wrap64_id (by omega) (by omega)]
    by_cases hc : Int.tmod (c.toNat : Int) 2 = 1
    · refine Conv.iteT hc ?_
      rw [step_ref1 hc]
      exact ih (j + 1) (step c) (by omega) h
    · refine Conv.iteF hc ?_
      rw [step_ref0 hc]
      exact ih (j + 1) (step c) (by omega) h
theorem rsum_l0 {l : List Int} (hl : Bytes l) (hlen : l.length < 9223372036854775807) (n : Nat) : ∀ (i : Nat) (c : BitVec 32), i + n = l.length →
    Conv (fun k => moraineref2_Sum.l0 k l (c.toNat : Int) (i : Int)) ((BitVec.allOnes 32 ^^^ crcF c (l.drop i)).toNat : Int) := by
  induction n with
  | zero =>
    intro i c hi
    refine Conv.succ ?_
    simp only [moraineref2_Sum.l0]
    refine Conv.iteF (by omega) ?_
    rw [List.drop_eq_nil_of_le (by omega), bits_xor32, ofInt_toNat]
    exact Conv.pure _
  | succ n ih =>
    intro i c hi
    refine Conv.succ ?_
    simp only [moraineref2_Sum.l0]
    refine Conv.iteT (by omega) (Conv.iteT (by omega) ?_)
    rw [xor_byte (rd_bytes hl _), drop_cons (by omega)]
    refine rsum_l1 8 0 _ rfl ?_
    rw [wrap64_id (by omega) (by omega)]
    exact ih (i + 1) _ (by omega)
theorem rsum_conv {l : List Int} (hl : Bytes l) (hlen : l.length < 9223372036854775807) : Conv (fun k => moraineref2_Sum.f k l) ((crc l).toNat : Int) := by
  have := rsum_l0 hl hlen l.length 0 (BitVec.allOnes 32) (by omega)
  simpa [moraineref2_Sum.f, crc] using this
end Go.Proofs.Yteogjahkccmfaaa.Base
-- Written by a program of this session out of the translation.
namespace Go.Proofs.Yteogjahkccmfaaa.P
open Go.RowKit Go.Proofs.YteogjahkccmfaaaW.PrintWords Go.Proofs.YteogjahkccmfaaaW.PrintLast Go.Proofs.YteogjahkccmfaaaW.PrintMore
attribute [local go_sem] max2_int min2_int max_two min_two max_three min_three max_four min_four   -- for this text's walks alone
set_option linter.unusedVariables false
set_option linter.unusedSimpArgs false

/-! ### moraineref2_Unframe: function 30 -/
def moraineref2_Unframe.f (k : Nat) (l0 : List Int) : Option (List Int × Int × Int) := if (l0.length : Int) < 4 then (some (([] : List Int), 0, 20)) else ((moraineref2_Take.f k l0 4).bind fun bt298 => (if bt298.2.2 = 0 then (if bt298.1 > 1048576 then (some (([] : List Int), 0, 21)) else (if (wrap64 ((wrap64 (4 + bt298.2.1)) + (wrap64 (bt298.1)))) > (l0.length : Int) then (some (([] : List Int), 0, 20)) else ((moraineref2_Unfixed.f k l0 0 4).bind fun t301 => (if 0 ≤ (wrap64 (4 + bt298.2.1)) then (if (wrap64 (4 + bt298.2.1)) ≤ (wrap64 ((wrap64 (4 + bt298.2.1)) + (wrap64 (bt298.1)))) then (if (wrap64 ((wrap64 (4 + bt298.2.1)) + (wrap64 (bt298.1)))) ≤ (l0.length : Int) then ((some ((l0.take ((wrap64 ((wrap64 (4 + bt298.2.1)) + (wrap64 (bt298.1)))) : Int).toNat).drop ((wrap64 (4 + bt298.2.1)) : Int).toNat : List Int)).bind fun y302 => ((moraineref2_Sum.f k y302).bind fun t307 => (if t301 = (IntKind.u64.wrap (t307)) then (some (y302, wrap64 ((wrap64 (4 + bt298.2.1)) + (wrap64 (bt298.1))), 0)) else (some (([] : List Int), 0, 22))))) else (none)) else (none)) else (none))))) else (some (([] : List Int), 0, bt298.2.2))))
theorem moraineref2_Unframe.mono : ∀ a0 k, LeO (moraineref2_Unframe.f k a0) (moraineref2_Unframe.f (k + 1) a0) := by
  intro a0 k
  unfold moraineref2_Unframe.f
  repeat' first
      | (with_reducible exact moraineref2_Sum.mono _ _)
      | (with_reducible exact moraineref2_Take.mono _ _ _)
      | (with_reducible exact moraineref2_Unfixed.mono _ _ _ _)
      | (with_reducible exact LeO.refl _)
      | (with_reducible exact LeO.none _)
      | (with_reducible refine LeO.ite ?_ ?_)
      | (with_reducible refine LeO.bind ?_ (fun _ => ?_))
      | exact moraineref2_Sum.mono _ _
      | exact moraineref2_Take.mono _ _ _
      | exact moraineref2_Unfixed.mono _ _ _ _
      | exact LeO.none _
      | refine LeO.ite ?_ ?_
      | refine LeO.bind ?_ (fun _ => ?_)
set_option maxHeartbeats 8000000 in
set_option maxRecDepth 100000 in
theorem moraineref2_Unframe.calls (k : Nat) (P0_ : Nat → Prop) (A0 : Option Addr) (c0 : Nat) (l0 : List Int) (r1 : List Int) (r2 : Int) (r3 : Int) (w : World) (hs0 : Kd.V (Kd.int .u8) 5 w w.heap.size (fun k_ => P0_ k_) (.slice A0 l0.length c0) l0) (h : moraineref2_Unframe.f k l0 = some (r1, r2, r3)) :
    Calls Try.prog 30 #[.slice A0 l0.length c0] w fun e w' => ∃ v0_ : Value, e = .returned (.tuple #[v0_, .int .i64 r2, .int .i64 r3]) ∧ Kd.V (Kd.int .u8) 5 w' w.heap.size (fun k_ => (P0_ k_ ∨ w.heap.size ≤ k_)) v0_ r1 ∧ Below w.heap.size w w' := by
  have HO0 := Aside0.mk (show Kd.V (Kd.int .u8) 5 w w.heap.size (fun k_ => (P0_ k_ ∨ w.heap.size ≤ k_)) (.slice A0 l0.length c0) l0 from Kd.V_mono hs0 (fun k_ hk => .inl hk))
  have HB := Aside0.mk (Below.refl w.heap.size w)
  have H : (if (l0.length : Int) < 4 then (some (([] : List Int), 0, 20)) else ((moraineref2_Take.f k l0 4).bind fun bt298 => (if bt298.2.2 = 0 then (if bt298.1 > 1048576 then (some (([] : List Int), 0, 21)) else (if (wrap64 ((wrap64 (4 + bt298.2.1)) + (wrap64 (bt298.1)))) > (l0.length : Int) then (some (([] : List Int), 0, 20)) else ((moraineref2_Unfixed.f k l0 0 4).bind fun t301 => (if 0 ≤ (wrap64 (4 + bt298.2.1)) then (if (wrap64 (4 + bt298.2.1)) ≤ (wrap64 ((wrap64 (4 + bt298.2.1)) + (wrap64 (bt298.1)))) then (if (wrap64 ((wrap64 (4 + bt298.2.1)) + (wrap64 (bt298.1)))) ≤ (l0.length : Int) then ((some ((l0.take ((wrap64 ((wrap64 (4 + bt298.2.1)) + (wrap64 (bt298.1)))) : Int).toNat).drop ((wrap64 (4 + bt298.2.1)) : Int).toNat : List Int)).bind fun y302 => ((moraineref2_Sum.f k y302).bind fun t307 => (if t301 = (IntKind.u64.wrap (t307)) then (some (y302, wrap64 ((wrap64 (4 + bt298.2.1)) + (wrap64 (bt298.1))), 0)) else (some (([] : List Int), 0, 22))))) else (none)) else (none)) else (none))))) else (some (([] : List Int), 0, bt298.2.2))))) = some (r1, r2, r3) := h
  clear h
  by_cases c2 : (l0.length : Int) < 4
  · rw [if_pos c2] at H
    have c2b0 : decide ((l0.length : Int) < 4) = true := decide_eq_true c2
    have c2b1 : decide (l0.length < 4) = true := decide_eq_true (by omega)
    clear c2
    simp only [Option.some.injEq, Prod.mk.injEq] at H
    obtain ⟨rfl, rfl, rfl⟩ := H
    go_enter Try.func30, Try.ntmps30
    go_wp2
    repeat (go_quiet (fail); try go_wp2)
    go_ret3
    exact ⟨_, by first | rfl | (simp [errW_none, errW_some] <;> rfl) | (simp [*, errW_none, errW_some] <;> rfl), Kd.V_nil _ _ _ _ _, by repeat (first | (with_reducible first | exact HB.out | apply below_alloc | apply pw_below_drewN | apply below_drew1) | exact HB.out)⟩
  · rw [if_neg c2] at H
    have c2b0 : decide ((l0.length : Int) < 4) = false := decide_eq_false c2
    have c2b1 : decide (l0.length < 4) = false := decide_eq_false (by omega)
    clear c2
    replace H := Option.bind_eq_some_iff.mp H
    obtain ⟨⟨t298, t299, t300⟩, A30, H⟩ := H
    replace H : (if t300 = 0 then (if t298 > 1048576 then (some (([] : List Int), 0, 21)) else (if (wrap64 ((wrap64 (4 + t299)) + (wrap64 (t298)))) > (l0.length : Int) then (some (([] : List Int), 0, 20)) else ((moraineref2_Unfixed.f k l0 0 4).bind fun t301 => (if 0 ≤ (wrap64 (4 + t299)) then (if (wrap64 (4 + t299)) ≤ (wrap64 ((wrap64 (4 + t299)) + (wrap64 (t298)))) then (if (wrap64 ((wrap64 (4 + t299)) + (wrap64 (t298)))) ≤ (l0.length : Int) then ((some ((l0.take ((wrap64 ((wrap64 (4 + t299)) + (wrap64 (t298)))) : Int).toNat).drop ((wrap64 (4 + t299)) : Int).toNat : List Int)).bind fun y302 => ((moraineref2_Sum.f k y302).bind fun t307 => (if t301 = (IntKind.u64.wrap (t307)) then (some (y302, wrap64 ((wrap64 (4 + t299)) + (wrap64 (t298))), 0)) else (some (([] : List Int), 0, 22))))) else (none)) else (none)) else (none))))) else (some (([] : List Int), 0, t300))) = some (r1, r2, r3) := H
    have A3 := Aside0.mk A30
    clear A30
    by_cases c4 : t300 = 0
    · rw [if_pos c4] at H
      have c4b0 : (t300 == 0) = true := beq_iff_eq.mpr c4
      have c4b1 : (t300 != 0) = false := bne_eq_false_iff_eq.mpr c4
      clear c4
      by_cases c5 : t298 > 1048576
      · rw [if_pos c5] at H
        have c5b0 : decide (1048576 < t298) = true := decide_eq_true c5
        clear c5
        simp only [Option.some.injEq, Prod.mk.injEq] at H
        obtain ⟨rfl, rfl, rfl⟩ := H
        go_enter Try.func30, Try.ntmps30
        go_wp2_with (first | (go_at_call 20; (with_reducible refine (moraineref2_Take.calls k _ _ l0 4 t298 t299 t300 _ ?side1 ?side2 A3.out).mono ?_); (case side1 => repeat (first | exact (Kd.V_reads' HO0.out).2.2 | (with_reducible refine Kd.C_alloc ?_ _) | (with_reducible refine Kd.C_drewN ?_ _) | (with_reducible refine Kd.C_drew ?_))); (case side2 => exact (Kd.V_reads' HO0.out).2.1); rintro e w' ⟨rfl, ⟨nd, rfl⟩⟩; (try first | exact ⟨rfl, _, World.drewN_drewN _ _ _⟩ | exact ⟨rfl, _, Eq.trans (World.drewN_drewN _ _ _) (congrArg (World.drewN _) (Nat.add_assoc _ _ _))⟩)))
        repeat (go_quiet (first | (go_at_call 20; (with_reducible refine (moraineref2_Take.calls k _ _ l0 4 t298 t299 t300 _ ?side1 ?side2 A3.out).mono ?_); (case side1 => repeat (first | exact (Kd.V_reads' HO0.out).2.2 | (with_reducible refine Kd.C_alloc ?_ _) | (with_reducible refine Kd.C_drewN ?_ _) | (with_reducible refine Kd.C_drew ?_))); (case side2 => exact (Kd.V_reads' HO0.out).2.1); rintro e w' ⟨rfl, ⟨nd, rfl⟩⟩; (try first | exact ⟨rfl, _, World.drewN_drewN _ _ _⟩ | exact ⟨rfl, _, Eq.trans (World.drewN_drewN _ _ _) (congrArg (World.drewN _) (Nat.add_assoc _ _ _))⟩))); try go_wp2_with (first | (go_at_call 20; (with_reducible refine (moraineref2_Take.calls k _ _ l0 4 t298 t299 t300 _ ?side1 ?side2 A3.out).mono ?_); (case side1 => repeat (first | exact (Kd.V_reads' HO0.out).2.2 | (with_reducible refine Kd.C_alloc ?_ _) | (with_reducible refine Kd.C_drewN ?_ _) | (with_reducible refine Kd.C_drew ?_))); (case side2 => exact (Kd.V_reads' HO0.out).2.1); rintro e w' ⟨rfl, ⟨nd, rfl⟩⟩; (try first | exact ⟨rfl, _, World.drewN_drewN _ _ _⟩ | exact ⟨rfl, _, Eq.trans (World.drewN_drewN _ _ _) (congrArg (World.drewN _) (Nat.add_assoc _ _ _))⟩))))
        go_ret3
        exact ⟨_, by first | rfl | (simp [errW_none, errW_some] <;> rfl) | (simp [*, errW_none, errW_some] <;> rfl), Kd.V_nil _ _ _ _ _, by repeat (first | (with_reducible first | exact HB.out | apply below_alloc | apply pw_below_drewN | apply below_drew1) | exact HB.out)⟩
      · rw [if_neg c5] at H
        have c5b0 : decide (1048576 < t298) = false := decide_eq_false c5
        clear c5
        by_cases c6 : (wrap64 ((wrap64 (4 + t299)) + (wrap64 (t298)))) > (l0.length : Int)
        · rw [if_pos c6] at H
          have c6b0 : decide ((l0.length : Int) < (wrap64 ((wrap64 (4 + t299)) + (wrap64 (t298))))) = true := decide_eq_true c6
          clear c6
          simp only [Option.some.injEq, Prod.mk.injEq] at H
          obtain ⟨rfl, rfl, rfl⟩ := H
          go_enter Try.func30, Try.ntmps30
          go_wp2_with (first | (go_at_call 20; (with_reducible refine (moraineref2_Take.calls k _ _ l0 4 t298 t299 t300 _ ?side1 ?side2 A3.out).mono ?_); (case side1 => repeat (first | exact (Kd.V_reads' HO0.out).2.2 | (with_reducible refine Kd.C_alloc ?_ _) | (with_reducible refine Kd.C_drewN ?_ _) | (with_reducible refine Kd.C_drew ?_))); (case side2 => exact (Kd.V_reads' HO0.out).2.1); rintro e w' ⟨rfl, ⟨nd, rfl⟩⟩; (try first | exact ⟨rfl, _, World.drewN_drewN _ _ _⟩ | exact ⟨rfl, _, Eq.trans (World.drewN_drewN _ _ _) (congrArg (World.drewN _) (Nat.add_assoc _ _ _))⟩)))
          repeat (go_quiet (first | (go_at_call 20; (with_reducible refine (moraineref2_Take.calls k _ _ l0 4 t298 t299 t300 _ ?side1 ?side2 A3.out).mono ?_); (case side1 => repeat (first | exact (Kd.V_reads' HO0.out).2.2 | (with_reducible refine Kd.C_alloc ?_ _) | (with_reducible refine Kd.C_drewN ?_ _) | (with_reducible refine Kd.C_drew ?_))); (case side2 => exact (Kd.V_reads' HO0.out).2.1); rintro e w' ⟨rfl, ⟨nd, rfl⟩⟩; (try first | exact ⟨rfl, _, World.drewN_drewN _ _ _⟩ | exact ⟨rfl, _, Eq.trans (World.drewN_drewN _ _ _) (congrArg (World.drewN _) (Nat.add_assoc _ _ _))⟩))); try go_wp2_with (first | (go_at_call 20; (with_reducible refine (moraineref2_Take.calls k _ _ l0 4 t298 t299 t300 _ ?side1 ?side2 A3.out).mono ?_); (case side1 => repeat (first | exact (Kd.V_reads' HO0.out).2.2 | (with_reducible refine Kd.C_alloc ?_ _) | (with_reducible refine Kd.C_drewN ?_ _) | (with_reducible refine Kd.C_drew ?_))); (case side2 => exact (Kd.V_reads' HO0.out).2.1); rintro e w' ⟨rfl, ⟨nd, rfl⟩⟩; (try first | exact ⟨rfl, _, World.drewN_drewN _ _ _⟩ | exact ⟨rfl, _, Eq.trans (World.drewN_drewN _ _ _) (congrArg (World.drewN _) (Nat.add_assoc _ _ _))⟩))))
          go_ret3
          exact ⟨_, by first | rfl | (simp [errW_none, errW_some] <;> rfl) | (simp [*, errW_none, errW_some] <;> rfl), Kd.V_nil _ _ _ _ _, by repeat (first | (with_reducible first | exact HB.out | apply below_alloc | apply pw_below_drewN | apply below_drew1) | exact HB.out)⟩
        · rw [if_neg c6] at H
          have c6b0 : decide ((l0.length : Int) < (wrap64 ((wrap64 (4 + t299)) + (wrap64 (t298))))) = false := decide_eq_false c6
          clear c6
          replace H := Option.bind_eq_some_iff.mp H
          obtain ⟨t301, A70, H⟩ := H
          replace H : (if 0 ≤ (wrap64 (4 + t299)) then (if (wrap64 (4 + t299)) ≤ (wrap64 ((wrap64 (4 + t299)) + (wrap64 (t298)))) then (if (wrap64 ((wrap64 (4 + t299)) + (wrap64 (t298)))) ≤ (l0.length : Int) then ((some ((l0.take ((wrap64 ((wrap64 (4 + t299)) + (wrap64 (t298)))) : Int).toNat).drop ((wrap64 (4 + t299)) : Int).toNat : List Int)).bind fun y302 => ((moraineref2_Sum.f k y302).bind fun t307 => (if t301 = (IntKind.u64.wrap (t307)) then (some (y302, wrap64 ((wrap64 (4 + t299)) + (wrap64 (t298))), 0)) else (some (([] : List Int), 0, 22))))) else (none)) else (none)) else (none)) = some (r1, r2, r3) := H
          have A7 := Aside0.mk A70
          clear A70
          obtain ⟨ji8, hji8⟩ : ∃ j_ : Int, (wrap64 (4 + t299)) = j_ := ⟨_, rfl⟩
          replace H : (if 0 ≤ (ji8) then (if (ji8) ≤ (wrap64 ((ji8) + (wrap64 (t298)))) then (if (wrap64 ((ji8) + (wrap64 (t298)))) ≤ (l0.length : Int) then ((some ((l0.take ((wrap64 ((ji8) + (wrap64 (t298)))) : Int).toNat).drop ((ji8) : Int).toNat : List Int)).bind fun y302 => ((moraineref2_Sum.f k y302).bind fun t307 => (if t301 = (IntKind.u64.wrap (t307)) then (some (y302, wrap64 ((ji8) + (wrap64 (t298))), 0)) else (some (([] : List Int), 0, 22))))) else (none)) else (none)) else (none)) = some (r1, r2, r3) := by first | (rw [hji8] at H; exact H) | (simp only [hji8] at H ⊢; exact H)
          (try rw [hji8] at c6b0)
          (try rw [hji8] at A3)
          (try rw [hji8] at A7)
          have hji8w : (IntKind.i64.wrap (4 + t299)) = ji8 := (i64_w _).trans hji8
          by_cases c9 : 0 ≤ (ji8)
          · rw [if_pos c9] at H
            have c9b0 := eq_true c9
            have c9b1 : decide (0 ≤ (ji8)) = true := decide_eq_true c9
            clear c9
            by_cases c10 : (ji8) ≤ (wrap64 ((ji8) + (wrap64 (t298))))
            · rw [if_pos c10] at H
              have c10b0 := eq_true c10
              have c10b1 : decide ((ji8) ≤ (wrap64 ((ji8) + (wrap64 (t298))))) = true := decide_eq_true c10
              by_cases c11 : (wrap64 ((ji8) + (wrap64 (t298)))) ≤ (l0.length : Int)
              · rw [if_pos c11] at H
                have c11b0 := eq_true c11
                have c11b1 : decide ((wrap64 ((ji8) + (wrap64 (t298)))) ≤ (l0.length : Int)) = true := decide_eq_true c11
                obtain ⟨y302, hy302⟩ : ∃ y_ : List Int, y_ = ((l0.take ((wrap64 ((ji8) + (wrap64 (t298)))) : Int).toNat).drop ((ji8) : Int).toNat) := ⟨_, rfl⟩
                replace H : ((moraineref2_Sum.f k y302).bind fun t307 => (if t301 = (IntKind.u64.wrap (t307)) then (some (y302, wrap64 ((ji8) + (wrap64 (t298))), 0)) else (some (([] : List Int), 0, 22)))) = some (r1, r2, r3) := by first | (rw [hy302]; with_reducible exact H) | (have H2_ := (Option.bind_some _ _).symm.trans H; rw [hy302]; with_reducible exact H2_) | (have H2_ := (Option.bind_some _ _).symm.trans H; with_reducible exact H2_) | with_reducible exact H | (rw [hy302]; exact H) | exact H
                have Ny302 := Aside0.mk hy302
                clear hy302
                replace H := Option.bind_eq_some_iff.mp H
                obtain ⟨t307, A120, H⟩ := H
                replace H : (if t301 = (IntKind.u64.wrap (t307)) then (some (y302, wrap64 ((ji8) + (wrap64 (t298))), 0)) else (some (([] : List Int), 0, 22))) = some (r1, r2, r3) := H
                have A12 := Aside0.mk A120
                clear A120
                by_cases c13 : t301 = (IntKind.u64.wrap (t307))
                · rw [if_pos c13] at H
                  have c13b0 : (t301 == (IntKind.u64.wrap (t307))) = true := beq_iff_eq.mpr c13
                  have c13b1 : (t301 != (IntKind.u64.wrap (t307))) = false := bne_eq_false_iff_eq.mpr c13
                  clear c13
                  simp only [Option.some.injEq, Prod.mk.injEq] at H
                  obtain ⟨rfl, rfl, rfl⟩ := H
                  go_enter Try.func30, Try.ntmps30
                  go_wp2_with (first | (go_at_call 20; (with_reducible refine (moraineref2_Take.calls k _ _ l0 4 t298 t299 t300 _ ?side1 ?side2 A3.out).mono ?_); (case side1 => repeat (first | exact (Kd.V_reads' HO0.out).2.2 | (with_reducible refine Kd.C_alloc ?_ _) | (with_reducible refine Kd.C_drewN ?_ _) | (with_reducible refine Kd.C_drew ?_))); (case side2 => exact (Kd.V_reads' HO0.out).2.1); rintro e w' ⟨rfl, ⟨nd, rfl⟩⟩; (try first | exact ⟨rfl, _, World.drewN_drewN _ _ _⟩ | exact ⟨rfl, _, Eq.trans (World.drewN_drewN _ _ _) (congrArg (World.drewN _) (Nat.add_assoc _ _ _))⟩)) | (go_at_call 23; (with_reducible refine (moraineref2_Unfixed.calls k _ _ l0 0 4 t301 _ ?side1 ?side2 A7.out).mono ?_); (case side1 => repeat (first | exact (Kd.V_reads' HO0.out).2.2 | (with_reducible refine Kd.C_alloc ?_ _) | (with_reducible refine Kd.C_drewN ?_ _) | (with_reducible refine Kd.C_drew ?_))); (case side2 => exact (Kd.V_reads' HO0.out).2.1); rintro e w' ⟨rfl, ⟨nd, rfl⟩⟩; (try first | exact ⟨rfl, _, World.drewN_drewN _ _ _⟩ | exact ⟨rfl, _, Eq.trans (World.drewN_drewN _ _ _) (congrArg (World.drewN _) (Nat.add_assoc _ _ _))⟩); have q14 : ((wrap64 ((ji8) + (wrap64 (t298)))) : Int) ≤ ((l0.length : Int) : Int) := of_decide_eq_true (by first | (with_reducible assumption) | assumption); obtain ⟨i014, hi014, _, hsz14, _⟩ := info_parts info5; have hroom14 : l0.length ≤ c0 := (Kd.V_reads' HO0.out).2.1; have hC14 : Kd.F (Kd.int .u8) _ _ A0 l0.length l0 := (Kd.V_at (base := w.heap.size) HO0.out).2.2; have ql14 : ((ji8) : Int) ≤ ((wrap64 ((ji8) + (wrap64 (t298)))) : Int) := of_decide_eq_true (by first | (with_reducible assumption) | assumption); have q014 : (0 : Int) ≤ ((ji8) : Int) := of_decide_eq_true (by first | (with_reducible assumption) | assumption); have hcut14 := cut_mid (P := Try.prog) 22 5 .i64 .i64 Try.underlying22 hi014 1 hsz14 A0 l0.length c0 (ji8) (wrap64 ((ji8) + (wrap64 (t298)))) q014 ql14 q14 hroom14; have hr14 := Kd.F_mid (lo := ((ji8) : Int).toNat) (hi := ((wrap64 ((ji8) + (wrap64 (t298)))) : Int).toNat) (c := c0) hC14 (by omega) (by omega) hroom14; obtain ⟨A14, hA14⟩ : ∃ A1, A1 = (if c0 = ((ji8) : Int).toNat then A0 else (A0 : Option Addr).map (·.add (((ji8) : Int).toNat * 1))) := ⟨_, rfl⟩; obtain ⟨c14, hc14⟩ : ∃ c1, c1 = c0 - ((ji8) : Int).toNat := ⟨_, rfl⟩; have hy14 : y302.length = ((wrap64 ((ji8) + (wrap64 (t298)))) : Int).toNat - ((ji8) : Int).toNat := (by rw [Ny302.out, List.length_drop, List.length_take] <;> omega); rw [show ((l0).take ((wrap64 ((ji8) + (wrap64 (t298)))) : Int).toNat).drop ((ji8) : Int).toNat = y302 from Ny302.out.symm] at hr14; replace hr14 : Kd.F (Kd.int .u8) _ _ A14 y302.length y302 := (by rw [hA14]; exact hr14); rw [← hy14, ← hA14, ← hc14] at hcut14; have HO306 := Aside0.mk (show Kd.V (Kd.int .u8) 5 _ w.heap.size _ (.slice A14 y302.length c14) y302 from Kd.V_mk (by rw [hy14, hc14]; exact Nat.sub_le_sub_right (Nat.le_trans (by omega) hroom14) _) hr14); have HC306 := Aside0.mk (show y302.length ≤ c14 from by rw [hy14, hc14]; exact Nat.sub_le_sub_right (Nat.le_trans (by omega) hroom14) _); clear hr14 hC14 hroom14 hi014 hsz14 hc14; have KY14 := Aside0.mk hy14; have KA14 := Aside0.mk hA14; clear hy14 hA14; replace q14 := eq_true q14) | (go_at_call 33; (with_reducible refine (moraineref2_Sum.calls k _ _ y302 t307 _ ?side1 ?side2 A12.out).mono ?_); (case side1 => repeat (first | exact (Kd.V_reads' HO306.out).2.2 | (with_reducible refine Kd.C_alloc ?_ _) | (with_reducible refine Kd.C_drewN ?_ _) | (with_reducible refine Kd.C_drew ?_))); (case side2 => exact (Kd.V_reads' HO306.out).2.1); rintro e w' ⟨rfl, ⟨nd, rfl⟩⟩; (try first | exact ⟨rfl, _, World.drewN_drewN _ _ _⟩ | exact ⟨rfl, _, Eq.trans (World.drewN_drewN _ _ _) (congrArg (World.drewN _) (Nat.add_assoc _ _ _))⟩)))
                  repeat (go_quiet (first | (go_at_call 20; (with_reducible refine (moraineref2_Take.calls k _ _ l0 4 t298 t299 t300 _ ?side1 ?side2 A3.out).mono ?_); (case side1 => repeat (first | exact (Kd.V_reads' HO0.out).2.2 | (with_reducible refine Kd.C_alloc ?_ _) | (with_reducible refine Kd.C_drewN ?_ _) | (with_reducible refine Kd.C_drew ?_))); (case side2 => exact (Kd.V_reads' HO0.out).2.1); rintro e w' ⟨rfl, ⟨nd, rfl⟩⟩; (try first | exact ⟨rfl, _, World.drewN_drewN _ _ _⟩ | exact ⟨rfl, _, Eq.trans (World.drewN_drewN _ _ _) (congrArg (World.drewN _) (Nat.add_assoc _ _ _))⟩)) | (go_at_call 23; (with_reducible refine (moraineref2_Unfixed.calls k _ _ l0 0 4 t301 _ ?side1 ?side2 A7.out).mono ?_); (case side1 => repeat (first | exact (Kd.V_reads' HO0.out).2.2 | (with_reducible refine Kd.C_alloc ?_ _) | (with_reducible refine Kd.C_drewN ?_ _) | (with_reducible refine Kd.C_drew ?_))); (case side2 => exact (Kd.V_reads' HO0.out).2.1); rintro e w' ⟨rfl, ⟨nd, rfl⟩⟩; (try first | exact ⟨rfl, _, World.drewN_drewN _ _ _⟩ | exact ⟨rfl, _, Eq.trans (World.drewN_drewN _ _ _) (congrArg (World.drewN _) (Nat.add_assoc _ _ _))⟩); have q14 : ((wrap64 ((ji8) + (wrap64 (t298)))) : Int) ≤ ((l0.length : Int) : Int) := of_decide_eq_true (by first | (with_reducible assumption) | assumption); obtain ⟨i014, hi014, _, hsz14, _⟩ := info_parts info5; have hroom14 : l0.length ≤ c0 := (Kd.V_reads' HO0.out).2.1; have hC14 : Kd.F (Kd.int .u8) _ _ A0 l0.length l0 := (Kd.V_at (base := w.heap.size) HO0.out).2.2; have ql14 : ((ji8) : Int) ≤ ((wrap64 ((ji8) + (wrap64 (t298)))) : Int) := of_decide_eq_true (by first | (with_reducible assumption) | assumption); have q014 : (0 : Int) ≤ ((ji8) : Int) := of_decide_eq_true (by first | (with_reducible assumption) | assumption); have hcut14 := cut_mid (P := Try.prog) 22 5 .i64 .i64 Try.underlying22 hi014 1 hsz14 A0 l0.length c0 (ji8) (wrap64 ((ji8) + (wrap64 (t298)))) q014 ql14 q14 hroom14; have hr14 := Kd.F_mid (lo := ((ji8) : Int).toNat) (hi := ((wrap64 ((ji8) + (wrap64 (t298)))) : Int).toNat) (c := c0) hC14 (by omega) (by omega) hroom14; obtain ⟨A14, hA14⟩ : ∃ A1, A1 = (if c0 = ((ji8) : Int).toNat then A0 else (A0 : Option Addr).map (·.add (((ji8) : Int).toNat * 1))) := ⟨_, rfl⟩; obtain ⟨c14, hc14⟩ : ∃ c1, c1 = c0 - ((ji8) : Int).toNat := ⟨_, rfl⟩; have hy14 : y302.length = ((wrap64 ((ji8) + (wrap64 (t298)))) : Int).toNat - ((ji8) : Int).toNat := (by rw [Ny302.out, List.length_drop, List.length_take] <;> omega); rw [show ((l0).take ((wrap64 ((ji8) + (wrap64 (t298)))) : Int).toNat).drop ((ji8) : Int).toNat = y302 from Ny302.out.symm] at hr14; replace hr14 : Kd.F (Kd.int .u8) _ _ A14 y302.length y302 := (by rw [hA14]; exact hr14); rw [← hy14, ← hA14, ← hc14] at hcut14; have HO306 := Aside0.mk (show Kd.V (Kd.int .u8) 5 _ w.heap.size _ (.slice A14 y302.length c14) y302 from Kd.V_mk (by rw [hy14, hc14]; exact Nat.sub_le_sub_right (Nat.le_trans (by omega) hroom14) _) hr14); have HC306 := Aside0.mk (show y302.length ≤ c14 from by rw [hy14, hc14]; exact Nat.sub_le_sub_right (Nat.le_trans (by omega) hroom14) _); clear hr14 hC14 hroom14 hi014 hsz14 hc14; have KY14 := Aside0.mk hy14; have KA14 := Aside0.mk hA14; clear hy14 hA14; replace q14 := eq_true q14) | (go_at_call 33; (with_reducible refine (moraineref2_Sum.calls k _ _ y302 t307 _ ?side1 ?side2 A12.out).mono ?_); (case side1 => repeat (first | exact (Kd.V_reads' HO306.out).2.2 | (with_reducible refine Kd.C_alloc ?_ _) | (with_reducible refine Kd.C_drewN ?_ _) | (with_reducible refine Kd.C_drew ?_))); (case side2 => exact (Kd.V_reads' HO306.out).2.1); rintro e w' ⟨rfl, ⟨nd, rfl⟩⟩; (try first | exact ⟨rfl, _, World.drewN_drewN _ _ _⟩ | exact ⟨rfl, _, Eq.trans (World.drewN_drewN _ _ _) (congrArg (World.drewN _) (Nat.add_assoc _ _ _))⟩))); try go_wp2_with (first | (go_at_call 20; (with_reducible refine (moraineref2_Take.calls k _ _ l0 4 t298 t299 t300 _ ?side1 ?side2 A3.out).mono ?_); (case side1 => repeat (first | exact (Kd.V_reads' HO0.out).2.2 | (with_reducible refine Kd.C_alloc ?_ _) | (with_reducible refine Kd.C_drewN ?_ _) | (with_reducible refine Kd.C_drew ?_))); (case side2 => exact (Kd.V_reads' HO0.out).2.1); rintro e w' ⟨rfl, ⟨nd, rfl⟩⟩; (try first | exact ⟨rfl, _, World.drewN_drewN _ _ _⟩ | exact ⟨rfl, _, Eq.trans (World.drewN_drewN _ _ _) (congrArg (World.drewN _) (Nat.add_assoc _ _ _))⟩)) | (go_at_call 23; (with_reducible refine (moraineref2_Unfixed.calls k _ _ l0 0 4 t301 _ ?side1 ?side2 A7.out).mono ?_); (case side1 => repeat (first | exact (Kd.V_reads' HO0.out).2.2 | (with_reducible refine Kd.C_alloc ?_ _) | (with_reducible refine Kd.C_drewN ?_ _) | (with_reducible refine Kd.C_drew ?_))); (case side2 => exact (Kd.V_reads' HO0.out).2.1); rintro e w' ⟨rfl, ⟨nd, rfl⟩⟩; (try first | exact ⟨rfl, _, World.drewN_drewN _ _ _⟩ | exact ⟨rfl, _, Eq.trans (World.drewN_drewN _ _ _) (congrArg (World.drewN _) (Nat.add_assoc _ _ _))⟩); have q14 : ((wrap64 ((ji8) + (wrap64 (t298)))) : Int) ≤ ((l0.length : Int) : Int) := of_decide_eq_true (by first | (with_reducible assumption) | assumption); obtain ⟨i014, hi014, _, hsz14, _⟩ := info_parts info5; have hroom14 : l0.length ≤ c0 := (Kd.V_reads' HO0.out).2.1; have hC14 : Kd.F (Kd.int .u8) _ _ A0 l0.length l0 := (Kd.V_at (base := w.heap.size) HO0.out).2.2; have ql14 : ((ji8) : Int) ≤ ((wrap64 ((ji8) + (wrap64 (t298)))) : Int) := of_decide_eq_true (by first | (with_reducible assumption) | assumption); have q014 : (0 : Int) ≤ ((ji8) : Int) := of_decide_eq_true (by first | (with_reducible assumption) | assumption); have hcut14 := cut_mid (P := Try.prog) 22 5 .i64 .i64 Try.underlying22 hi014 1 hsz14 A0 l0.length c0 (ji8) (wrap64 ((ji8) + (wrap64 (t298)))) q014 ql14 q14 hroom14; have hr14 := Kd.F_mid (lo := ((ji8) : Int).toNat) (hi := ((wrap64 ((ji8) + (wrap64 (t298)))) : Int).toNat) (c := c0) hC14 (by omega) (by omega) hroom14; obtain ⟨A14, hA14⟩ : ∃ A1, A1 = (if c0 = ((ji8) : Int).toNat then A0 else (A0 : Option Addr).map (·.add (((ji8) : Int).toNat * 1))) := ⟨_, rfl⟩; obtain ⟨c14, hc14⟩ : ∃ c1, c1 = c0 - ((ji8) : Int).toNat := ⟨_, rfl⟩; have hy14 : y302.length = ((wrap64 ((ji8) + (wrap64 (t298)))) : Int).toNat - ((ji8) : Int).toNat := (by rw [Ny302.out, List.length_drop, List.length_take] <;> omega); rw [show ((l0).take ((wrap64 ((ji8) + (wrap64 (t298)))) : Int).toNat).drop ((ji8) : Int).toNat = y302 from Ny302.out.symm] at hr14; replace hr14 : Kd.F (Kd.int .u8) _ _ A14 y302.length y302 := (by rw [hA14]; exact hr14); rw [← hy14, ← hA14, ← hc14] at hcut14; have HO306 := Aside0.mk (show Kd.V (Kd.int .u8) 5 _ w.heap.size _ (.slice A14 y302.length c14) y302 from Kd.V_mk (by rw [hy14, hc14]; exact Nat.sub_le_sub_right (Nat.le_trans (by omega) hroom14) _) hr14); have HC306 := Aside0.mk (show y302.length ≤ c14 from by rw [hy14, hc14]; exact Nat.sub_le_sub_right (Nat.le_trans (by omega) hroom14) _); clear hr14 hC14 hroom14 hi014 hsz14 hc14; have KY14 := Aside0.mk hy14; have KA14 := Aside0.mk hA14; clear hy14 hA14; replace q14 := eq_true q14) | (go_at_call 33; (with_reducible refine (moraineref2_Sum.calls k _ _ y302 t307 _ ?side1 ?side2 A12.out).mono ?_); (case side1 => repeat (first | exact (Kd.V_reads' HO306.out).2.2 | (with_reducible refine Kd.C_alloc ?_ _) | (with_reducible refine Kd.C_drewN ?_ _) | (with_reducible refine Kd.C_drew ?_))); (case side2 => exact (Kd.V_reads' HO306.out).2.1); rintro e w' ⟨rfl, ⟨nd, rfl⟩⟩; (try first | exact ⟨rfl, _, World.drewN_drewN _ _ _⟩ | exact ⟨rfl, _, Eq.trans (World.drewN_drewN _ _ _) (congrArg (World.drewN _) (Nat.add_assoc _ _ _))⟩))))
                  go_ret3
                  exact ⟨_, by first | rfl | (simp [errW_none, errW_some] <;> rfl) | (simp only [← hji8]; first | rfl | (simp [errW_none, errW_some] <;> rfl)) | (simp [*, errW_none, errW_some] <;> rfl), by (with_reducible repeat (first | apply Kd.V_alloc | apply Kd.V_drewN | apply Kd.V_drew)); exact HO306.out, by repeat (first | (with_reducible first | exact HB.out | apply below_alloc | apply pw_below_drewN | apply below_drew1) | exact HB.out)⟩
                · rw [if_neg c13] at H
                  have c13b0 : (t301 == (IntKind.u64.wrap (t307))) = false := beq_eq_false_iff_ne.mpr c13
                  have c13b1 : (t301 != (IntKind.u64.wrap (t307))) = true := bne_iff_ne.mpr c13
                  simp only [Option.some.injEq, Prod.mk.injEq] at H
                  obtain ⟨rfl, rfl, rfl⟩ := H
                  go_enter Try.func30, Try.ntmps30
                  go_wp2_with (first | (go_at_call 20; (with_reducible refine (moraineref2_Take.calls k _ _ l0 4 t298 t299 t300 _ ?side1 ?side2 A3.out).mono ?_); (case side1 => repeat (first | exact (Kd.V_reads' HO0.out).2.2 | (with_reducible refine Kd.C_alloc ?_ _) | (with_reducible refine Kd.C_drewN ?_ _) | (with_reducible refine Kd.C_drew ?_))); (case side2 => exact (Kd.V_reads' HO0.out).2.1); rintro e w' ⟨rfl, ⟨nd, rfl⟩⟩; (try first | exact ⟨rfl, _, World.drewN_drewN _ _ _⟩ | exact ⟨rfl, _, Eq.trans (World.drewN_drewN _ _ _) (congrArg (World.drewN _) (Nat.add_assoc _ _ _))⟩)) | (go_at_call 23; (with_reducible refine (moraineref2_Unfixed.calls k _ _ l0 0 4 t301 _ ?side1 ?side2 A7.out).mono ?_); (case side1 => repeat (first | exact (Kd.V_reads' HO0.out).2.2 | (with_reducible refine Kd.C_alloc ?_ _) | (with_reducible refine Kd.C_drewN ?_ _) | (with_reducible refine Kd.C_drew ?_))); (case side2 => exact (Kd.V_reads' HO0.out).2.1); rintro e w' ⟨rfl, ⟨nd, rfl⟩⟩; (try first | exact ⟨rfl, _, World.drewN_drewN _ _ _⟩ | exact ⟨rfl, _, Eq.trans (World.drewN_drewN _ _ _) (congrArg (World.drewN _) (Nat.add_assoc _ _ _))⟩); have q15 : ((wrap64 ((ji8) + (wrap64 (t298)))) : Int) ≤ ((l0.length : Int) : Int) := of_decide_eq_true (by first | (with_reducible assumption) | assumption); obtain ⟨i015, hi015, _, hsz15, _⟩ := info_parts info5; have hroom15 : l0.length ≤ c0 := (Kd.V_reads' HO0.out).2.1; have hC15 : Kd.F (Kd.int .u8) _ _ A0 l0.length l0 := (Kd.V_at (base := w.heap.size) HO0.out).2.2; have ql15 : ((ji8) : Int) ≤ ((wrap64 ((ji8) + (wrap64 (t298)))) : Int) := of_decide_eq_true (by first | (with_reducible assumption) | assumption); have q015 : (0 : Int) ≤ ((ji8) : Int) := of_decide_eq_true (by first | (with_reducible assumption) | assumption); have hcut15 := cut_mid (P := Try.prog) 22 5 .i64 .i64 Try.underlying22 hi015 1 hsz15 A0 l0.length c0 (ji8) (wrap64 ((ji8) + (wrap64 (t298)))) q015 ql15 q15 hroom15; have hr15 := Kd.F_mid (lo := ((ji8) : Int).toNat) (hi := ((wrap64 ((ji8) + (wrap64 (t298)))) : Int).toNat) (c := c0) hC15 (by omega) (by omega) hroom15; obtain ⟨A15, hA15⟩ : ∃ A1, A1 = (if c0 = ((ji8) : Int).toNat then A0 else (A0 : Option Addr).map (·.add (((ji8) : Int).toNat * 1))) := ⟨_, rfl⟩; obtain ⟨c15, hc15⟩ : ∃ c1, c1 = c0 - ((ji8) : Int).toNat := ⟨_, rfl⟩; have hy15 : y302.length = ((wrap64 ((ji8) + (wrap64 (t298)))) : Int).toNat - ((ji8) : Int).toNat := (by rw [Ny302.out, List.length_drop, List.length_take] <;> omega); rw [show ((l0).take ((wrap64 ((ji8) + (wrap64 (t298)))) : Int).toNat).drop ((ji8) : Int).toNat = y302 from Ny302.out.symm] at hr15; replace hr15 : Kd.F (Kd.int .u8) _ _ A15 y302.length y302 := (by rw [hA15]; exact hr15); rw [← hy15, ← hA15, ← hc15] at hcut15; have HO306 := Aside0.mk (show Kd.V (Kd.int .u8) 5 _ w.heap.size _ (.slice A15 y302.length c15) y302 from Kd.V_mk (by rw [hy15, hc15]; exact Nat.sub_le_sub_right (Nat.le_trans (by omega) hroom15) _) hr15); have HC306 := Aside0.mk (show y302.length ≤ c15 from by rw [hy15, hc15]; exact Nat.sub_le_sub_right (Nat.le_trans (by omega) hroom15) _); clear hr15 hC15 hroom15 hi015 hsz15 hc15; have KY15 := Aside0.mk hy15; have KA15 := Aside0.mk hA15; clear hy15 hA15; replace q15 := eq_true q15) | (go_at_call 33; (with_reducible refine (moraineref2_Sum.calls k _ _ y302 t307 _ ?side1 ?side2 A12.out).mono ?_); (case side1 => repeat (first | exact (Kd.V_reads' HO306.out).2.2 | (with_reducible refine Kd.C_alloc ?_ _) | (with_reducible refine Kd.C_drewN ?_ _) | (with_reducible refine Kd.C_drew ?_))); (case side2 => exact (Kd.V_reads' HO306.out).2.1); rintro e w' ⟨rfl, ⟨nd, rfl⟩⟩; (try first | exact ⟨rfl, _, World.drewN_drewN _ _ _⟩ | exact ⟨rfl, _, Eq.trans (World.drewN_drewN _ _ _) (congrArg (World.drewN _) (Nat.add_assoc _ _ _))⟩)))
                  repeat (go_quiet (first | (go_at_call 20; (with_reducible refine (moraineref2_Take.calls k _ _ l0 4 t298 t299 t300 _ ?side1 ?side2 A3.out).mono ?_); (case side1 => repeat (first | exact (Kd.V_reads' HO0.out).2.2 | (with_reducible refine Kd.C_alloc ?_ _) | (with_reducible refine Kd.C_drewN ?_ _) | (with_reducible refine Kd.C_drew ?_))); (case side2 => exact (Kd.V_reads' HO0.out).2.1); rintro e w' ⟨rfl, ⟨nd, rfl⟩⟩; (try first | exact ⟨rfl, _, World.drewN_drewN _ _ _⟩ | exact ⟨rfl, _, Eq.trans (World.drewN_drewN _ _ _) (congrArg (World.drewN _) (Nat.add_assoc _ _ _))⟩)) | (go_at_call 23; (with_reducible refine (moraineref2_Unfixed.calls k _ _ l0 0 4 t301 _ ?side1 ?side2 A7.out).mono ?_); (case side1 => repeat (first | exact (Kd.V_reads' HO0.out).2.2 | (with_reducible refine Kd.C_alloc ?_ _) | (with_reducible refine Kd.C_drewN ?_ _) | (with_reducible refine Kd.C_drew ?_))); (case side2 => exact (Kd.V_reads' HO0.out).2.1); rintro e w' ⟨rfl, ⟨nd, rfl⟩⟩; (try first | exact ⟨rfl, _, World.drewN_drewN _ _ _⟩ | exact ⟨rfl, _, Eq.trans (World.drewN_drewN _ _ _) (congrArg (World.drewN _) (Nat.add_assoc _ _ _))⟩); have q15 : ((wrap64 ((ji8) + (wrap64 (t298)))) : Int) ≤ ((l0.length : Int) : Int) := of_decide_eq_true (by first | (with_reducible assumption) | assumption); obtain ⟨i015, hi015, _, hsz15, _⟩ := info_parts info5; have hroom15 : l0.length ≤ c0 := (Kd.V_reads' HO0.out).2.1; have hC15 : Kd.F (Kd.int .u8) _ _ A0 l0.length l0 := (Kd.V_at (base := w.heap.size) HO0.out).2.2; have ql15 : ((ji8) : Int) ≤ ((wrap64 ((ji8) + (wrap64 (t298)))) : Int) := of_decide_eq_true (by first | (with_reducible assumption) | assumption); have q015 : (0 : Int) ≤ ((ji8) : Int) := of_decide_eq_true (by first | (with_reducible assumption) | assumption); have hcut15 := cut_mid (P := Try.prog) 22 5 .i64 .i64 Try.underlying22 hi015 1 hsz15 A0 l0.length c0 (ji8) (wrap64 ((ji8) + (wrap64 (t298)))) q015 ql15 q15 hroom15; have hr15 := Kd.F_mid (lo := ((ji8) : Int).toNat) (hi := ((wrap64 ((ji8) + (wrap64 (t298)))) : Int).toNat) (c := c0) hC15 (by omega) (by omega) hroom15; obtain ⟨A15, hA15⟩ : ∃ A1, A1 = (if c0 = ((ji8) : Int).toNat then A0 else (A0 : Option Addr).map (·.add (((ji8) : Int).toNat * 1))) := ⟨_, rfl⟩; obtain ⟨c15, hc15⟩ : ∃ c1, c1 = c0 - ((ji8) : Int).toNat := ⟨_, rfl⟩; have hy15 : y302.length = ((wrap64 ((ji8) + (wrap64 (t298)))) : Int).toNat - ((ji8) : Int).toNat := (by rw [Ny302.out, List.length_drop, List.length_take] <;> omega); rw [show ((l0).take ((wrap64 ((ji8) + (wrap64 (t298)))) : Int).toNat).drop ((ji8) : Int).toNat = y302 from Ny302.out.symm] at hr15; replace hr15 : Kd.F (Kd.int .u8) _ _ A15 y302.length y302 := (by rw [hA15]; exact hr15); rw [← hy15, ← hA15, ← hc15] at hcut15; have HO306 := Aside0.mk (show Kd.V (Kd.int .u8) 5 _ w.heap.size _ (.slice A15 y302.length c15) y302 from Kd.V_mk (by rw [hy15, hc15]; exact Nat.sub_le_sub_right (Nat.le_trans (by omega) hroom15) _) hr15); have HC306 := Aside0.mk (show y302.length ≤ c15 from by rw [hy15, hc15]; exact Nat.sub_le_sub_right (Nat.le_trans (by omega) hroom15) _); clear hr15 hC15 hroom15 hi015 hsz15 hc15; have KY15 := Aside0.mk hy15; have KA15 := Aside0.mk hA15; clear hy15 hA15; replace q15 := eq_true q15) | (go_at_call 33; (with_reducible refine (moraineref2_Sum.calls k _ _ y302 t307 _ ?side1 ?side2 A12.out).mono ?_); (case side1 => repeat (first | exact (Kd.V_reads' HO306.out).2.2 | (with_reducible refine Kd.C_alloc ?_ _) | (with_reducible refine Kd.C_drewN ?_ _) | (with_reducible refine Kd.C_drew ?_))); (case side2 => exact (Kd.V_reads' HO306.out).2.1); rintro e w' ⟨rfl, ⟨nd, rfl⟩⟩; (try first | exact ⟨rfl, _, World.drewN_drewN _ _ _⟩ | exact ⟨rfl, _, Eq.trans (World.drewN_drewN _ _ _) (congrArg (World.drewN _) (Nat.add_assoc _ _ _))⟩))); try go_wp2_with (first | (go_at_call 20; (with_reducible refine (moraineref2_Take.calls k _ _ l0 4 t298 t299 t300 _ ?side1 ?side2 A3.out).mono ?_); (case side1 => repeat (first | exact (Kd.V_reads' HO0.out).2.2 | (with_reducible refine Kd.C_alloc ?_ _) | (with_reducible refine Kd.C_drewN ?_ _) | (with_reducible refine Kd.C_drew ?_))); (case side2 => exact (Kd.V_reads' HO0.out).2.1); rintro e w' ⟨rfl, ⟨nd, rfl⟩⟩; (try first | exact ⟨rfl, _, World.drewN_drewN _ _ _⟩ | exact ⟨rfl, _, Eq.trans (World.drewN_drewN _ _ _) (congrArg (World.drewN _) (Nat.add_assoc _ _ _))⟩)) | (go_at_call 23; (with_reducible refine (moraineref2_Unfixed.calls k _ _ l0 0 4 t301 _ ?side1 ?side2 A7.out).mono ?_); (case side1 => repeat (first | exact (Kd.V_reads' HO0.out).2.2 | (with_reducible refine Kd.C_alloc ?_ _) | (with_reducible refine Kd.C_drewN ?_ _) | (with_reducible refine Kd.C_drew ?_))); (case side2 => exact (Kd.V_reads' HO0.out).2.1); rintro e w' ⟨rfl, ⟨nd, rfl⟩⟩; (try first | exact ⟨rfl, _, World.drewN_drewN _ _ _⟩ | exact ⟨rfl, _, Eq.trans (World.drewN_drewN _ _ _) (congrArg (World.drewN _) (Nat.add_assoc _ _ _))⟩); have q15 : ((wrap64 ((ji8) + (wrap64 (t298)))) : Int) ≤ ((l0.length : Int) : Int) := of_decide_eq_true (by first | (with_reducible assumption) | assumption); obtain ⟨i015, hi015, _, hsz15, _⟩ := info_parts info5; have hroom15 : l0.length ≤ c0 := (Kd.V_reads' HO0.out).2.1; have hC15 : Kd.F (Kd.int .u8) _ _ A0 l0.length l0 := (Kd.V_at (base := w.heap.size) HO0.out).2.2; have ql15 : ((ji8) : Int) ≤ ((wrap64 ((ji8) + (wrap64 (t298)))) : Int) := of_decide_eq_true (by first | (with_reducible assumption) | assumption); have q015 : (0 : Int) ≤ ((ji8) : Int) := of_decide_eq_true (by first | (with_reducible assumption) | assumption); have hcut15 := cut_mid (P := Try.prog) 22 5 .i64 .i64 Try.underlying22 hi015 1 hsz15 A0 l0.length c0 (ji8) (wrap64 ((ji8) + (wrap64 (t298)))) q015 ql15 q15 hroom15; have hr15 := Kd.F_mid (lo := ((ji8) : Int).toNat) (hi := ((wrap64 ((ji8) + (wrap64 (t298)))) : Int).toNat) (c := c0) hC15 (by omega) (by omega) hroom15; obtain ⟨A15, hA15⟩ : ∃ A1, A1 = (if c0 = ((ji8) : Int).toNat then A0 else (A0 : Option Addr).map (·.add (((ji8) : Int).toNat * 1))) := ⟨_, rfl⟩; obtain ⟨c15, hc15⟩ : ∃ c1, c1 = c0 - ((ji8) : Int).toNat := ⟨_, rfl⟩; have hy15 : y302.length = ((wrap64 ((ji8) + (wrap64 (t298)))) : Int).toNat - ((ji8) : Int).toNat := (by rw [Ny302.out, List.length_drop, List.length_take] <;> omega); rw [show ((l0).take ((wrap64 ((ji8) + (wrap64 (t298)))) : Int).toNat).drop ((ji8) : Int).toNat = y302 from Ny302.out.symm] at hr15; replace hr15 : Kd.F (Kd.int .u8) _ _ A15 y302.length y302 := (by rw [hA15]; exact hr15); rw [← hy15, ← hA15, ← hc15] at hcut15; have HO306 := Aside0.mk (show Kd.V (Kd.int .u8) 5 _ w.heap.size _ (.slice A15 y302.length c15) y302 from Kd.V_mk (by rw [hy15, hc15]; exact Nat.sub_le_sub_right (Nat.le_trans (by omega) hroom15) _) hr15); have HC306 := Aside0.mk (show y302.length ≤ c15 from by rw [hy15, hc15]; exact Nat.sub_le_sub_right (Nat.le_trans (by omega) hroom15) _); clear hr15 hC15 hroom15 hi015 hsz15 hc15; have KY15 := Aside0.mk hy15; have KA15 := Aside0.mk hA15; clear hy15 hA15; replace q15 := eq_true q15) | (go_at_call 33; (with_reducible refine (moraineref2_Sum.calls k _ _ y302 t307 _ ?side1 ?side2 A12.out).mono ?_); (case side1 => repeat (first | exact (Kd.V_reads' HO306.out).2.2 | (with_reducible refine Kd.C_alloc ?_ _) | (with_reducible refine Kd.C_drewN ?_ _) | (with_reducible refine Kd.C_drew ?_))); (case side2 => exact (Kd.V_reads' HO306.out).2.1); rintro e w' ⟨rfl, ⟨nd, rfl⟩⟩; (try first | exact ⟨rfl, _, World.drewN_drewN _ _ _⟩ | exact ⟨rfl, _, Eq.trans (World.drewN_drewN _ _ _) (congrArg (World.drewN _) (Nat.add_assoc _ _ _))⟩))))
                  go_ret3
                  exact ⟨_, by first | rfl | (simp [errW_none, errW_some] <;> rfl) | (simp only [← hji8]; first | rfl | (simp [errW_none, errW_some] <;> rfl)) | (simp [*, errW_none, errW_some] <;> rfl), Kd.V_nil _ _ _ _ _, by repeat (first | (with_reducible first | exact HB.out | apply below_alloc | apply pw_below_drewN | apply below_drew1) | exact HB.out)⟩
              · rw [if_neg c11] at H
                exact absurd H (by simp)
            · rw [if_neg c10] at H
              exact absurd H (by simp)
          · rw [if_neg c9] at H
            exact absurd H (by simp)
    · rw [if_neg c4] at H
      have c4b0 : (t300 == 0) = false := beq_eq_false_iff_ne.mpr c4
      have c4b1 : (t300 != 0) = true := bne_iff_ne.mpr c4
      simp only [Option.some.injEq, Prod.mk.injEq] at H
      obtain ⟨rfl, rfl, rfl⟩ := H
      go_enter Try.func30, Try.ntmps30
      go_wp2_with (first | (go_at_call 20; (with_reducible refine (moraineref2_Take.calls k _ _ l0 4 t298 t299 t300 _ ?side1 ?side2 A3.out).mono ?_); (case side1 => repeat (first | exact (Kd.V_reads' HO0.out).2.2 | (with_reducible refine Kd.C_alloc ?_ _) | (with_reducible refine Kd.C_drewN ?_ _) | (with_reducible refine Kd.C_drew ?_))); (case side2 => exact (Kd.V_reads' HO0.out).2.1); rintro e w' ⟨rfl, ⟨nd, rfl⟩⟩; (try first | exact ⟨rfl, _, World.drewN_drewN _ _ _⟩ | exact ⟨rfl, _, Eq.trans (World.drewN_drewN _ _ _) (congrArg (World.drewN _) (Nat.add_assoc _ _ _))⟩)))
      repeat (go_quiet (first | (go_at_call 20; (with_reducible refine (moraineref2_Take.calls k _ _ l0 4 t298 t299 t300 _ ?side1 ?side2 A3.out).mono ?_); (case side1 => repeat (first | exact (Kd.V_reads' HO0.out).2.2 | (with_reducible refine Kd.C_alloc ?_ _) | (with_reducible refine Kd.C_drewN ?_ _) | (with_reducible refine Kd.C_drew ?_))); (case side2 => exact (Kd.V_reads' HO0.out).2.1); rintro e w' ⟨rfl, ⟨nd, rfl⟩⟩; (try first | exact ⟨rfl, _, World.drewN_drewN _ _ _⟩ | exact ⟨rfl, _, Eq.trans (World.drewN_drewN _ _ _) (congrArg (World.drewN _) (Nat.add_assoc _ _ _))⟩))); try go_wp2_with (first | (go_at_call 20; (with_reducible refine (moraineref2_Take.calls k _ _ l0 4 t298 t299 t300 _ ?side1 ?side2 A3.out).mono ?_); (case side1 => repeat (first | exact (Kd.V_reads' HO0.out).2.2 | (with_reducible refine Kd.C_alloc ?_ _) | (with_reducible refine Kd.C_drewN ?_ _) | (with_reducible refine Kd.C_drew ?_))); (case side2 => exact (Kd.V_reads' HO0.out).2.1); rintro e w' ⟨rfl, ⟨nd, rfl⟩⟩; (try first | exact ⟨rfl, _, World.drewN_drewN _ _ _⟩ | exact ⟨rfl, _, Eq.trans (World.drewN_drewN _ _ _) (congrArg (World.drewN _) (Nat.add_assoc _ _ _))⟩))))
      go_ret3
      exact ⟨_, by first | rfl | (simp [errW_none, errW_some] <;> rfl) | (simp [*, errW_none, errW_some] <;> rfl), Kd.V_nil _ _ _ _ _, by repeat (first | (with_reducible first | exact HB.out | apply below_alloc | apply pw_below_drewN | apply below_drew1) | exact HB.out)⟩

end Go.Proofs.Yteogjahkccmfaaa.P
/- A frame read: its sum, its length, its body; or the first fault. By the program and by the document. -/
namespace Go.Proofs.Yteogjahkccmfaaa.Base
open Go Go.RowKit Go.Proofs.YteogjahkccmfaaaW.PrintWords Go.Proofs.YteogjahkccmfaaaW.PrintLast Go.Proofs.YteogjahkccmfaaaW.PrintMore Go.Proofs.Yteogjahkccmfaaa.P

theorem unf_leVal4 {l : List Int} (hl : Bytes l) : 0 ≤ leVal (l.take 4) ∧ leVal (l.take 4) < 4294967296 := by
  have := leVal_range (hl.take 4)
  have p : (256 : Nat) ^ (l.take 4).length ≤ 256 ^ 4 := Nat.pow_le_pow_right (by decide) (by rw [List.length_take]; omega)
  have e : (256 : Nat) ^ 4 = 4294967296 := by decide
  omega
theorem unf_unfixed4_conv {l : List Int} (hl : Bytes l) (h : 4 ≤ l.length) : Conv (fun k => codec_Unfixed4.f k l) (leVal (l.take 4), 0) := by
  unfold codec_Unfixed4.f
  refine Conv.bind (unfixed_conv hl 4 (by omega) (by omega)) (Conv.eq (Conv.pure _) ?_)
  have := unf_leVal4 hl
  rw [Int.emod_eq_of_lt (by omega) (by omega)]
theorem unf_unfixed4_short {l : List Int} (h : l.length < 4) : Conv (fun k => codec_Unfixed4.f k l) (0, 20) := by
  unfold codec_Unfixed4.f
  exact Conv.bind (unfixed_short 4 (by omega)) (Conv.eq (Conv.pure _) (by decide))
theorem takeS_range {l : List Int} (hl : Bytes l) : ∀ (i : Nat) (acc : Int), i ≤ 9 ∨ l = [] → 0 ≤ acc ∧ acc < ((128 ^ i : Nat) : Int) →
    0 ≤ (takeS l i acc).1 ∧ (takeS l i acc).1 < 18446744073709551616 ∧ 0 ≤ (takeS l i acc).2.1 ∧ (takeS l i acc).2.1 ≤ i + l.length ∧ ((takeS l i acc).2.2 = 0 ∨ (takeS l i acc).2.1 = 0) := by
  induction l with
  | nil => intro i acc _ _; simp [takeS]
  | cons c l ih =>
    intro i acc h9 ha
    have h9 : i ≤ 9 := h9.resolve_right (by simp)
    have hb := hl c List.mem_cons_self
    simp only [takeS]
    split
    · simp; omega
    · rename_i hn
      obtain ⟨p1, p2, p3, p4⟩ := part h9 hb hn ha
      split
      · refine ⟨p1, p3, ?_⟩
        simp; omega
      · have := ih (fun x hx => hl x (List.mem_cons_of_mem _ hx)) (i + 1) _ (by omega) ⟨p1, p2⟩
        simp only [List.length_cons]
        omega

/-- what is read of a row as a frame -/
def unframe (l : List Int) : List Int × Int × Int :=
  if l.length < 4 then ([], 0, 20)
  else if (takeS (l.drop 4) 0 0).2.2 ≠ 0 then ([], 0, (takeS (l.drop 4) 0 0).2.2)
  else if 1048576 < (takeS (l.drop 4) 0 0).1 then ([], 0, 21)
  else if (l.length : Int) < 4 + (takeS (l.drop 4) 0 0).2.1 + (takeS (l.drop 4) 0 0).1 then ([], 0, 20)
  else if leVal (l.take 4) = ((crc ((l.drop (4 + (takeS (l.drop 4) 0 0).2.1.toNat)).take (takeS (l.drop 4) 0 0).1.toNat)).toNat : Int)
    then ((l.drop (4 + (takeS (l.drop 4) 0 0).2.1.toNat)).take (takeS (l.drop 4) 0 0).1.toNat, 4 + (takeS (l.drop 4) 0 0).2.1 + (takeS (l.drop 4) 0 0).1, 0)
    else ([], 0, 22)
theorem unframe_bytes {l : List Int} (hl : Bytes l) : Bytes (unframe l).1 := by
  have nil : Bytes ([] : List Int) := by intro x hx; cases hx
  unfold unframe
  split
  · exact nil
  · split
    · exact nil
    · split
      · exact nil
      · split
        · exact nil
        · split
          · exact (hl.drop _).take _
          · exact nil
theorem unframe_conv {l : List Int} (hl : Bytes l) (hlen : l.length < 140737488355328) : Conv (fun k => codec_Unframe.f k l) (unframe l) := by
  unfold codec_Unframe.f
  by_cases h4 : l.length < 4
  · refine Conv.bind (unf_unfixed4_short h4) (Conv.iteF (by decide) (Conv.eq (Conv.pure _) ?_))
    unfold unframe; rw [if_pos h4]
  · refine Conv.bind (unf_unfixed4_conv hl (by omega)) (Conv.iteT (by trivial) (Conv.iteT (by omega) ?_))
    refine Conv.bind (take_conv (hl.drop 4) (by rw [List.length_drop]; omega)) ?_
    have hr := takeS_range (hl.drop 4) 0 0 (by omega) (by decide)
    rw [List.length_drop] at hr
    have hu : unframe l = if (takeS (l.drop 4) 0 0).2.2 ≠ 0 then ([], 0, (takeS (l.drop 4) 0 0).2.2)
      else if 1048576 < (takeS (l.drop 4) 0 0).1 then ([], 0, 21)
      else if (l.length : Int) < 4 + (takeS (l.drop 4) 0 0).2.1 + (takeS (l.drop 4) 0 0).1 then ([], 0, 20)
      else if leVal (l.take 4) = ((crc ((l.drop (4 + (takeS (l.drop 4) 0 0).2.1.toNat)).take (takeS (l.drop 4) 0 0).1.toNat)).toNat : Int)
        then ((l.drop (4 + (takeS (l.drop 4) 0 0).2.1.toNat)).take (takeS (l.drop 4) 0 0).1.toNat, 4 + (takeS (l.drop 4) 0 0).2.1 + (takeS (l.drop 4) 0 0).1, 0)
        else ([], 0, 22) := by
      conv => lhs; unfold unframe
      rw [if_neg h4]
    rw [hu]
    generalize ht : takeS (l.drop 4) 0 0 = t at hr
    obtain ⟨v, n, e⟩ := t
    simp only at hr ⊢
    have em : mn (l.length : Int) (wrap64 (4 + n)) = 4 + n := by
      unfold mn
      rw [wrap64_id (by omega) (by omega)]
      split <;> omega
    have en : (4 + n).toNat = 4 + n.toNat := by omega
    rw [em, en, wrap64_id (n := 4 + n) (by omega) (by omega)]
    refine Conv.iteT (by omega) (Conv.iteT (by omega) ?_)
    have hd : ((l.drop (4 + n.toNat)).length : Int) = l.length - (4 + n) := by rw [List.length_drop]; omega
    by_cases he : e = 0
    · subst he
      rw [if_neg (c := (0 : Int) ≠ 0) (by decide)]
      refine Conv.iteT (by trivial) ?_
      by_cases c1 : 1048576 < v
      · rw [if_pos c1]
        exact Conv.iteT c1 (Conv.pure _)
      · rw [if_neg (c := 1048576 < v) c1]
        refine Conv.iteF c1 ?_
        rw [hd, wrapU64_id (n := (l.length : Int) - (4 + n)) (by omega) (by omega)]
        by_cases c2 : (l.length : Int) < 4 + n + v
        · rw [if_pos (c := (l.length : Int) < 4 + n + v) c2]
          exact Conv.iteT (by omega) (Conv.pure _)
        · rw [if_neg (c := (l.length : Int) < 4 + n + v) c2]
          refine Conv.iteF (by omega) (Conv.iteT (by omega) (Conv.iteT (by omega) ?_))
          have hb : Bytes ((l.drop (4 + n.toNat)).take v.toNat) := (hl.drop _).take _
          have hbl : ((l.drop (4 + n.toNat)).take v.toNat).length < 140737488355328 := by rw [List.length_take, List.length_drop]; omega
          refine Conv.bind (sum_conv hb (by omega)) ?_
          by_cases c3 : leVal (l.take 4) = ((crc ((l.drop (4 + n.toNat)).take v.toNat)).toNat : Int)
          · rw [if_pos (c := leVal (l.take 4) = _) c3]
            refine Conv.iteT c3.symm ?_
            refine Conv.bindc (x := bytes_Clone.f _) (a := (l.drop (4 + n.toNat)).take v.toNat) (by unfold bytes_Clone.f; rw [if_pos hbl]) ?_
            rw [wrap64_id (n := v) (by omega) (by omega), wrap64_id (by omega) (by omega)]
            exact Conv.pure _
          · rw [if_neg (c := leVal (l.take 4) = _) c3]
            exact Conv.iteF (fun h => c3 h.symm) (Conv.pure _)
    · rw [if_pos (c := e ≠ 0) he]
      exact Conv.iteF he (Conv.pure _)
theorem runframe_conv {l : List Int} (hl : Bytes l) (hlen : l.length < 140737488355328) : Conv (fun k => moraineref2_Unframe.f k l) (unframe l) := by
  unfold moraineref2_Unframe.f
  by_cases h4 : l.length < 4
  · refine Conv.iteT (by omega) (Conv.eq (Conv.pure _) ?_)
    unfold unframe; rw [if_pos h4]
  · refine Conv.iteF (by omega) ?_
    refine Conv.bind (rtake_conv hl (by omega) 4 (by omega)) ?_
    have hr := takeS_range (hl.drop 4) 0 0 (by omega) (by decide)
    rw [List.length_drop] at hr
    have hu : unframe l = if (takeS (l.drop 4) 0 0).2.2 ≠ 0 then ([], 0, (takeS (l.drop 4) 0 0).2.2)
      else if 1048576 < (takeS (l.drop 4) 0 0).1 then ([], 0, 21)
      else if (l.length : Int) < 4 + (takeS (l.drop 4) 0 0).2.1 + (takeS (l.drop 4) 0 0).1 then ([], 0, 20)
      else if leVal (l.take 4) = ((crc ((l.drop (4 + (takeS (l.drop 4) 0 0).2.1.toNat)).take (takeS (l.drop 4) 0 0).1.toNat)).toNat : Int)
        then ((l.drop (4 + (takeS (l.drop 4) 0 0).2.1.toNat)).take (takeS (l.drop 4) 0 0).1.toNat, 4 + (takeS (l.drop 4) 0 0).2.1 + (takeS (l.drop 4) 0 0).1, 0)
        else ([], 0, 22) := by
      conv => lhs; unfold unframe
      rw [if_neg h4]
    rw [hu]
    generalize ht : takeS (l.drop 4) 0 0 = t at hr
    obtain ⟨v, n, e⟩ := t
    simp only at hr ⊢
    by_cases he : e = 0
    · subst he
      rw [if_neg (c := (0 : Int) ≠ 0) (by decide)]
      refine Conv.iteT (by trivial) ?_
      by_cases c1 : 1048576 < v
      · rw [if_pos c1]
        exact Conv.iteT c1 (Conv.pure _)
      · rw [if_neg (c := 1048576 < v) c1]
        refine Conv.iteF c1 ?_
        rw [wrap64_id (n := 4 + n) (by omega) (by omega), wrap64_id (n := v) (by omega) (by omega), wrap64_id (n := 4 + n + v) (by omega) (by omega)]
        by_cases c2 : (l.length : Int) < 4 + n + v
        · rw [if_pos (c := (l.length : Int) < 4 + n + v) c2]
          exact Conv.iteT (by omega) (Conv.pure _)
        · rw [if_neg (c := (l.length : Int) < 4 + n + v) c2]
          refine Conv.iteF (by omega) ?_
          have hf := runfixed_conv hl 0 4 (by omega) (by omega) (by omega)
          rw [List.drop_zero] at hf
          refine Conv.bind hf (Conv.iteT (by omega) (Conv.iteT (by omega) (Conv.iteT (by omega) ?_)))
          have ec : (l.take (4 + n + v).toNat).drop (4 + n).toNat = (l.drop (4 + n.toNat)).take v.toNat := by
            have e1 : (4 + n).toNat = 4 + n.toNat := by omega
            have e2 : (4 + n + v).toNat = 4 + n.toNat + v.toNat := by omega
            rw [e1, e2, List.drop_take, Nat.add_sub_cancel_left]
          rw [ec]
          refine Conv.bindc rfl ?_
          have hb : Bytes ((l.drop (4 + n.toNat)).take v.toNat) := (hl.drop _).take _
          have hbl : ((l.drop (4 + n.toNat)).take v.toNat).length < 140737488355328 := by rw [List.length_take, List.length_drop]; omega
          refine Conv.bind (rsum_conv hb (by omega)) ?_
          have hc := (crc ((l.drop (4 + n.toNat)).take v.toNat)).isLt
          rw [wrapU64_id (by omega) (by omega)]
          by_cases c3 : leVal (l.take 4) = ((crc ((l.drop (4 + n.toNat)).take v.toNat)).toNat : Int)
          · exact Conv.iteT c3 (Conv.eq (Conv.pure _) (by rw [if_pos c3]))
          · exact Conv.iteF c3 (Conv.eq (Conv.pure _) (by rw [if_neg c3]))
    · rw [if_pos (c := e ≠ 0) he]
      exact Conv.iteF he (Conv.pure _)
end Go.Proofs.Yteogjahkccmfaaa.Base
/- CodecFrames' pure statement: every bytes framed and summed; the frame comes back, whatever stands behind; with a byte of its sum or its body changed it is told. -/
namespace Go.Proofs.Yteogjahkccmfaaa.Pure
open Go Go.RowKit Go.Proofs.Yteogjahkccmfaaa.P Go.Proofs.YteogjahkccmfaaaW.PrintWords Go.Proofs.YteogjahkccmfaaaW.PrintLast Go.Proofs.Yteogjahkccmfaaa.Base

theorem fr_bytes_eq {a b : List Int} (ha : Bytes a) (hb : Bytes b) : morainehelp_Bytes.f a b = some (a == b) := by
  unfold morainehelp_Bytes.f; rw [strOfNums_beq ha hb]
def frame (l : List Int) : List Int := fixedL ((crc l).toNat : Int) 4 ++ putS l.length ++ l
theorem frame_bytes {l : List Int} (hl : Bytes l) : Bytes (frame l) := ((fixedL_bytes _ _).append (putS_bytes _)).append hl
theorem frame_length {l : List Int} : (frame l).length = 4 + (putS l.length).length + l.length := by
  simp [frame, fixedL_length, Nat.add_assoc]
theorem frame_conv {l : List Int} (hl : Bytes l) (h : l.length ≤ 3000) : Conv (fun k => codec_Frame.f k l) (frame l, 0) := by
  have hp := putS_length64 (n := l.length) (by omega)
  unfold codec_Frame.f
  refine Conv.iteF (by omega) (Conv.bind (sum_conv hl (by omega)) ?_)
  have hc := (crc l).isLt
  have h4 : Conv (fun k => codec_Fixed4.f k ((crc l).toNat : Int)) (fixedL ((crc l).toNat : Int) 4) := by
    unfold codec_Fixed4.f
    rw [wrapU64_id (by omega) (by omega)]
    exact Conv.bind (fixed_conv _ 4 (by omega)) (Conv.pure _)
  refine Conv.bind h4 ?_
  rw [wrapU64_id (by omega) (by omega)]
  have := put_conv (a := (l.length : Int)) (by omega)
  rw [Int.toNat_natCast] at this
  refine Conv.bind this (Conv.iteT (by simp [fixedL_length]; omega) (Conv.bindc rfl (Conv.iteT (by simp [fixedL_length]; omega) (Conv.pure _))))
theorem rframe_conv {l : List Int} (hl : Bytes l) (h : l.length ≤ 3000) : Conv (fun k => moraineref2_Frame.f k l) (frame l, 0) := by
  have hp := putS_length64 (n := l.length) (by omega)
  unfold moraineref2_Frame.f
  refine Conv.iteF (by omega) ?_
  have hc := (crc l).isLt
  have h4 : Conv (fun k => moraineref2_Summed.f k l) (fixedL ((crc l).toNat : Int) 4) := by
    unfold moraineref2_Summed.f
    refine Conv.bind (rsum_conv hl (by omega)) ?_
    rw [wrapU64_id (by omega) (by omega)]
    exact Conv.bind (rfixed_conv _ 4 (by omega)) (Conv.pure _)
  refine Conv.bind h4 ?_
  rw [wrapU64_id (by omega) (by omega)]
  have := rput_conv (a := (l.length : Int)) (by omega)
  rw [Int.toNat_natCast] at this
  refine Conv.bind this (Conv.iteT (by simp [fixedL_length]; omega) (Conv.bindc rfl (Conv.iteT (by simp [fixedL_length]; omega) (Conv.pure _))))
theorem unframe_parts (s b rest : List Int) (hs : s.length = 4) (hb : b.length ≤ 3000) :
    unframe (s ++ putS b.length ++ b ++ rest) = if leVal s = ((crc b).toNat : Int) then (b, 4 + ((putS b.length).length : Int) + (b.length : Int), 0) else ([], 0, 22) := by
  have e4 : (s ++ putS b.length ++ b ++ rest).drop 4 = putS b.length ++ (b ++ rest) := by
    rw [List.append_assoc, List.append_assoc, ← hs, List.drop_left]
  have t4 : (s ++ putS b.length ++ b ++ rest).take 4 = s := by
    rw [List.append_assoc, List.append_assoc, ← hs, List.take_left]
  have hn : (s ++ putS b.length ++ b ++ rest).length = 4 + (putS b.length).length + b.length + rest.length := by simp [hs, Nat.add_assoc]
  have ht := take_put (a := (b.length : Int)) (by omega) (b ++ rest)
  rw [Int.toNat_natCast] at ht
  have ed : ((s ++ putS b.length ++ b ++ rest).drop (4 + (putS b.length).length)).take b.length = b := by
    rw [← List.drop_drop, e4, List.drop_left, List.take_left]
  unfold unframe
  rw [e4, t4, ht]
  simp only [Int.toNat_natCast]
  rw [ed, if_neg (by omega), if_neg (by decide), if_neg (by omega), if_neg (by omega)]
theorem unframe_frame (l rest : List Int) (h : l.length ≤ 3000) : unframe (frame l ++ rest) = (l, ((frame l).length : Int), 0) := by
  unfold frame
  rw [unframe_parts _ l rest (fixedL_length _ _) h, if_pos]
  · congr 2
    simp [fixedL_length]
    omega
  · rw [leVal_fixedL (Int.natCast_nonneg _)]
    have := (crc l).isLt
    have e : (256 : Nat) ^ 4 = 4294967296 := by decide
    rw [e]; omega
theorem leVal_inj {a : List Int} : ∀ {b : List Int}, Bytes a → Bytes b → a.length = b.length → leVal a = leVal b → a = b := by
  induction a with
  | nil => intro b _ _ h _; exact (List.eq_nil_of_length_eq_zero h.symm).symm
  | cons x a ih =>
    intro b ha hb h e
    cases b with
    | nil => simp at h
    | cons y b =>
      have hx := ha x List.mem_cons_self
      have hy := hb y List.mem_cons_self
      simp only [leVal] at e
      have e1 : x = y := by omega
      have e2 := ih (fun z hz => ha z (List.mem_cons_of_mem _ hz)) (fun z hz => hb z (List.mem_cons_of_mem _ hz)) (by simpa using h) (by omega)
      rw [e1, e2]
theorem bytes_set {l : List Int} (hl : Bytes l) {y : Int} (hy : 0 ≤ y ∧ y < 256) (i : Nat) : Bytes (l.set i y) := by
  intro x hx
  rcases List.mem_or_eq_of_mem_set hx with h | h
  · exact hl x h
  · rw [h]; exact hy
theorem rd_append_left {a b : List Int} {i : Nat} (h : i < a.length) : rd (a ++ b) (i : Int) = rd a (i : Int) := by
  simp only [rd, Int.toNat_natCast, List.getD_eq_getElem?_getD]; rw [List.getElem?_append_left h]
theorem rd_append_right {a b : List Int} {i : Nat} (h : a.length ≤ i) : rd (a ++ b) (i : Int) = rd b ((i - a.length : Nat) : Int) := by
  simp only [rd, Int.toNat_natCast, List.getD_eq_getElem?_getD]; rw [List.getElem?_append_right h]
theorem set_ne {l : List Int} {i : Nat} (h : i < l.length) {y : Int} (hy : y ≠ rd l (i : Int)) : l.set i y ≠ l := by
  rw [rd_get h] at hy
  intro e
  have h2 : i < (l.set i y).length := by simpa using h
  have : (l.set i y)[i] = l[i] := by simp only [e]
  rw [List.getElem_set_self] at this
  exact hy this
theorem crc_set {l : List Int} (hl : Bytes l) {i : Nat} (h : i < l.length) {y : Int} (hy : 0 ≤ y ∧ y < 256) (hn : y ≠ rd l (i : Int)) : crc (l.set i y) ≠ crc l := by
  rw [rd_get h] at hn
  intro e
  unfold crc at e
  have e := congrArg (BitVec.allOnes 32 ^^^ ·) e
  simp only [← BitVec.xor_assoc, BitVec.xor_self, BitVec.zero_xor] at e
  have e1 : l.set i y = l.take i ++ y :: l.drop (i + 1) := by rw [List.set_eq_take_append_cons_drop, if_pos h]
  have e2 : l = l.take i ++ l[i] :: l.drop (i + 1) := by
    rw [← List.drop_eq_getElem_cons h, List.take_append_drop]
  rw [e1] at e
  conv at e => rhs; rw [e2]
  rw [crcF_append, crcF_append] at e
  simp only [crcF] at e
  have e := steps_inj (crcF_inj e)
  have e := congrArg (crcF (BitVec.allOnes 32) (l.take i) ^^^ ·) e
  simp only [← BitVec.xor_assoc, BitVec.xor_self, BitVec.zero_xor] at e
  have hb := hl _ (List.getElem_mem h)
  have e := congrArg BitVec.toNat e
  obtain ⟨p, rfl⟩ := Int.eq_ofNat_of_zero_le hy.1
  obtain ⟨q, hq⟩ := Int.eq_ofNat_of_zero_le hb.1
  rw [hq, BitVec.ofInt_natCast, BitVec.ofInt_natCast, BitVec.toNat_ofNat, BitVec.toNat_ofNat] at e
  omega
theorem xor8_byte (x y : Int) : 0 ≤ Go.bits .xor .u8 x y ∧ Go.bits .xor .u8 x y < 256 := by
  rw [bits_xor8]
  have := (BitVec.ofInt 8 x ^^^ BitVec.ofInt 8 y).isLt
  omega
theorem xor8_ne {x y : Int} (hx : 0 ≤ x ∧ x < 256) (hy : 0 ≤ y ∧ y < 256) (h0 : y ≠ 0) : Go.bits .xor .u8 x y ≠ x := by
  intro e
  rw [bits_xor8] at e
  obtain ⟨a, rfl⟩ := Int.eq_ofNat_of_zero_le hx.1
  obtain ⟨b, rfl⟩ := Int.eq_ofNat_of_zero_le hy.1
  have e : (BitVec.ofInt 8 (a : Int) ^^^ BitVec.ofInt 8 (b : Int)).toNat = a := by omega
  simp only [BitVec.ofInt_natCast] at e
  have e2 : BitVec.ofNat 8 a ^^^ BitVec.ofNat 8 b = BitVec.ofNat 8 a := by
    apply BitVec.eq_of_toNat_eq
    rw [e, BitVec.toNat_ofNat, Nat.mod_eq_of_lt (by omega)]
  have e3 := congrArg (BitVec.ofNat 8 a ^^^ ·) e2
  simp only [← BitVec.xor_assoc, BitVec.xor_self, BitVec.zero_xor] at e3
  have e4 := congrArg BitVec.toNat e3
  rw [BitVec.toNat_ofNat, Nat.mod_eq_of_lt (by omega)] at e4
  simp at e4
  omega
theorem told_sum {l : List Int} (hn : l.length ≤ 3000) {i : Nat} (hi : i < 4) {y : Int} (hy : 0 ≤ y ∧ y < 256) (hne : y ≠ rd (frame l) (i : Int)) : unframe ((frame l).set i y) = ([], 0, 22) := by
  have hs := fixedL_length ((crc l).toNat : Int) 4
  have hb := fixedL_bytes ((crc l).toNat : Int) 4
  have e : (frame l).set i y = (fixedL ((crc l).toNat : Int) 4).set i y ++ putS l.length ++ l ++ [] := by
    unfold frame
    rw [List.append_nil, List.append_assoc, List.append_assoc, List.set_append_left _ _ (by omega)]
  have hg : rd (frame l) (i : Int) = rd (fixedL ((crc l).toNat : Int) 4) (i : Int) := by
    unfold frame
    rw [List.append_assoc, rd_append_left (by omega)]
  rw [e, unframe_parts _ l [] (by simpa using hs) hn, if_neg]
  intro h
  have hv : leVal (fixedL ((crc l).toNat : Int) 4) = ((crc l).toNat : Int) := by
    rw [leVal_fixedL (Int.natCast_nonneg _)]
    have := (crc l).isLt
    have e : (256 : Nat) ^ 4 = 4294967296 := by decide
    rw [e]; omega
  have := leVal_inj (bytes_set hb hy i) hb (by simp) (h.trans hv.symm)
  exact set_ne (by omega) (by rw [← hg]; exact hne) this
theorem told_body {l : List Int} (hl : Bytes l) (hn : l.length ≤ 3000) {i : Nat} (hi : (frame l).length - l.length ≤ i) (hi2 : i < (frame l).length) {y : Int} (hy : 0 ≤ y ∧ y < 256) (hne : y ≠ rd (frame l) (i : Int)) :
    unframe ((frame l).set i y) = ([], 0, 22) := by
  have hs := fixedL_length ((crc l).toNat : Int) 4
  have hf := frame_length (l := l)
  have ho : (fixedL ((crc l).toNat : Int) 4 ++ putS l.length).length = 4 + (putS l.length).length := by simp [hs]
  have e : (frame l).set i y = fixedL ((crc l).toNat : Int) 4 ++ putS (l.set (i - (4 + (putS l.length).length)) y).length ++ l.set (i - (4 + (putS l.length).length)) y ++ [] := by
    unfold frame
    rw [List.append_nil, List.set_append_right _ _ (by omega), ho, List.length_set]
  have hg : rd (frame l) (i : Int) = rd l ((i - (4 + (putS l.length).length) : Nat) : Int) := by
    unfold frame
    rw [rd_append_right (by omega), ho]
  rw [e, unframe_parts _ _ [] hs (by simpa using hn), if_neg]
  intro h
  have hv : leVal (fixedL ((crc l).toNat : Int) 4) = ((crc l).toNat : Int) := by
    rw [leVal_fixedL (Int.natCast_nonneg _)]
    have := (crc l).isLt
    have e : (256 : Nat) ^ 4 = 4294967296 := by decide
    rw [e]; omega
  rw [hv] at h
  exact crc_set hl (by omega) hy (by rw [← hg]; exact hne) (BitVec.eq_of_toNat_eq (Int.ofNat.inj h.symm))
theorem frames_j1 {l : List Int} (hl : Bytes l) (hn : l.length ≤ 3000) (x2 x3 : Int) (h3 : 0 ≤ x3 ∧ x3 < 256) : Conv (fun k => morainelaw2_CodecFrames.j1 k l x2 x3 (frame l) false) true := by
  have hf := frame_length (l := l)
  have hfb := frame_bytes hl
  have hp := putS_length64 (n := l.length) (by omega)
  refine Conv.succ ?_
  simp only [morainelaw2_CodecFrames.j1]
  rw [wrap64_id (by omega) (by omega)]
  refine Conv.iteF (by decide) (Conv.ite (fun _ => Conv.pure _) fun c0 => Conv.ite (fun _ => Conv.pure _) fun c1 => ?_)
  have hb := rd_bytes hfb x2
  have hx : x2 = ((x2.toNat : Nat) : Int) := by omega
  have hub : Bytes ((frame l).set x2.toNat (Go.bits .xor .u8 (rd (frame l) x2) x3)) := bytes_set hfb (xor8_byte _ _) _
  have hun : ((frame l).set x2.toNat (Go.bits .xor .u8 (rd (frame l) x2) x3)).length < 140737488355328 := by rw [List.length_set]; omega
  refine Conv.ite (fun c2 => Conv.ite (fun _ => Conv.pure _) fun c3 => Conv.ite (fun _ => Conv.pure _) fun c4 => Conv.iteT (by omega) (Conv.iteT (by omega) ?_)) fun c2 => Conv.ite (fun _ => Conv.pure _) fun c4 => Conv.iteT (by omega) (Conv.iteT (by omega) ?_)
  · have hu := told_body hl hn (i := x2.toNat) (by omega) (by omega) (xor8_byte (rd (frame l) x2) x3) (by rw [← hx]; exact xor8_ne hb h3 c4)
    refine Conv.bind (unframe_conv hub hun) ?_
    rw [hu]
    exact Conv.iteT rfl (Conv.iteT rfl (Conv.const (by decide)))
  · have hu := told_sum hn (i := x2.toNat) (by omega) (xor8_byte (rd (frame l) x2) x3) (by rw [← hx]; exact xor8_ne hb h3 c4)
    refine Conv.bind (unframe_conv hub hun) ?_
    rw [hu]
    exact Conv.iteT rfl (Conv.iteT rfl (Conv.const (by decide)))
theorem CodecFrames : morainelaw2_CodecFrames.Pure := by
  intro l0 l1 a2 a3 _ s0 w0 _ s1 w1 w2 w3
  have h0 := bytes_of_wf w0
  have h1 := bytes_of_wf w1
  refine Conv.ex ?_
  simp only [morainelaw2_CodecFrames.f, morainelaw2_known.f]
  refine Conv.bindc rfl (Conv.iteT rfl (Conv.ite (fun _ => Conv.pure _) fun c => ?_))
  have hn : l0.length ≤ 3000 := by omega
  have hf := frame_length (l := l0)
  have hp := putS_length64 (n := l0.length) (by omega)
  have hfb := frame_bytes h0
  refine Conv.bind (frame_conv h0 hn) (Conv.bind (rframe_conv h0 hn) (Conv.iteT rfl (Conv.bindc (fr_bytes_eq hfb hfb) (Conv.iteT (beq_self_eq_true _) ?_))))
  refine Conv.bind (sum_conv h0 (by omega)) (Conv.bind (rsum_conv h0 (by omega)) ?_)
  rw [bne_self_eq_false]
  refine Conv.succ ?_
  simp only [morainelaw2_CodecFrames.j0]
  refine Conv.iteF (by decide) (Conv.iteT (by simp; omega) (Conv.bindc rfl (Conv.iteT (by simp; omega) ?_)))
  rw [List.nil_append]
  refine Conv.bind (unframe_conv (hfb.append h1) (by simp; omega)) ?_
  rw [unframe_frame l0 l1 hn]
  refine Conv.iteT rfl (Conv.iteT rfl (Conv.bindc (fr_bytes_eq h0 h0) ?_))
  rw [beq_self_eq_true]
  exact frames_j1 h0 hn a2 a3 (wf_u8 w3)

end Go.Proofs.Yteogjahkccmfaaa.Pure
/- CodecStream's pure statement: numbers and frames one behind the other are read one after the other. -/
namespace Go.Proofs.Yteogjahkccmfaaa.Pure
set_option linter.unusedVariables false
set_option linter.unusedSimpArgs false
open Go Go.RowKit Go.Proofs.Yteogjahkccmfaaa.P Go.Proofs.YteogjahkccmfaaaW.PrintWords Go.Proofs.YteogjahkccmfaaaW.PrintLast Go.Proofs.Yteogjahkccmfaaa.Base

theorem any_frame {l : List Int} (hl : Bytes l) (hlen : l.length < 140737488355328) : ∃ v, Conv (fun k => codec_Frame.f k l) v ∧ (l.length ≤ 3000 → v = (frame l, 0)) := by
  by_cases h : l.length ≤ 3000
  · exact ⟨_, frame_conv hl h, fun _ => rfl⟩
  · by_cases h2 : (l.length : Int) > 1048576
    · refine ⟨([], 21), ?_, fun h3 => absurd h3 h⟩
      unfold codec_Frame.f
      exact Conv.iteT h2 (Conv.pure _)
    · refine ⟨(frame l, 0), ?_, fun h3 => absurd h3 h⟩
      have hp := putS_length64 (n := l.length) (by omega)
      unfold codec_Frame.f
      refine Conv.iteF h2 (Conv.bind (sum_conv hl (by omega)) ?_)
      have hc := (crc l).isLt
      have h4 : Conv (fun k => codec_Fixed4.f k ((crc l).toNat : Int)) (fixedL ((crc l).toNat : Int) 4) := by
        unfold codec_Fixed4.f
        rw [wrapU64_id (by omega) (by omega)]
        exact Conv.bind (fixed_conv _ 4 (by omega)) (Conv.pure _)
      refine Conv.bind h4 ?_
      rw [wrapU64_id (by omega) (by omega)]
      have := put_conv (a := (l.length : Int)) (by omega)
      rw [Int.toNat_natCast] at this
      refine Conv.bind this (Conv.iteT (by simp [fixedL_length]; omega) (Conv.bindc rfl (Conv.iteT (by simp [fixedL_length]; omega) (Conv.pure _))))
/-- what is laid down for the i-th row -/
def item (l : List (List Int)) (n : List Int) (i : Nat) : List Int := frame (rd_L1 l (i : Int)) ++ (if i < n.length then putS (rd n (i : Int)).toNat else [])
def ahead (l : List (List Int)) (n : List Int) : Nat → List Int
  | 0 => []
  | i + 1 => ahead l n i ++ item l n i
def behind (l : List (List Int)) (n : List Int) : Nat → List Int
  | 0 => []
  | j + 1 => item l n (l.length - (j + 1)) ++ behind l n j
theorem ahead_behind (l : List (List Int)) (n : List Int) (j : Nat) : ∀ i : Nat, i + j = l.length → ahead l n i ++ behind l n j = ahead l n l.length := by
  induction j with
  | zero => intro i hi; rw [behind, List.append_nil, show i = l.length by omega]
  | succ j ih =>
    intro i hi
    rw [behind, show l.length - (j + 1) = i by omega, ← List.append_assoc]
    exact ih (i + 1) (by omega)
section
variable {l : List (List Int)} {n : List Int} (hl : ∀ x ∈ l, x.length * 1 ≤ 140737488351232 ∧ Bytes x) (hn : ∀ x ∈ n, 0 ≤ x ∧ x < 18446744073709551616)
theorem rdL_mem {i : Nat} (h : i < l.length) : rd_L1 l (i : Int) ∈ l := by
  unfold rd_L1
  simp [List.getD_eq_getElem?_getD, h]
theorem rdN_mem {i : Nat} (h : i < n.length) : rd n (i : Int) ∈ n := by
  rw [rd_get h]; exact List.getElem_mem h
include hl in
theorem item_bytes {i : Nat} (h : i < l.length) : Bytes (item l n i) := by
  unfold item
  refine (frame_bytes (hl _ (rdL_mem h)).2).append ?_
  split
  · exact putS_bytes _
  · intro x hx; cases hx
include hl in
theorem behind_bytes (j : Nat) (h : j ≤ l.length) : Bytes (behind l n j) := by
  induction j with
  | zero => intro x hx; cases hx
  | succ j ih => exact (item_bytes hl (by omega)).append (ih (by omega))
include hn in
theorem item_length {i : Nat} (h : i < l.length) (h5 : (rd_L1 l (i : Int)).length ≤ 500) : (item l n i).length ≤ 530 := by
  unfold item
  rw [List.length_append, frame_length]
  have := putS_length64 (n := (rd_L1 l (i : Int)).length) (by omega)
  split
  · rename_i h2
    have h3 := hn _ (rdN_mem h2)
    have := putS_length64 (n := (rd n (i : Int)).toNat) (by omega)
    omega
  · simp; omega
include hn in
theorem ahead_length (i : Nat) (h : i ≤ l.length) (h5 : ∀ j, j < i → (rd_L1 l (j : Int)).length ≤ 500) : (ahead l n i).length ≤ 530 * i := by
  induction i with
  | zero => simp [ahead]
  | succ i ih =>
    rw [ahead, List.length_append]
    have := ih (by omega) (fun j hj => h5 j (by omega))
    have := item_length hn (i := i) (by omega) (h5 i (by omega))
    omega
include hn in
theorem behind_length (j : Nat) (h : j ≤ l.length) (h5 : ∀ j, j < l.length → (rd_L1 l (j : Int)).length ≤ 500) : (behind l n j).length ≤ 530 * j := by
  induction j with
  | zero => simp [behind]
  | succ j ih =>
    rw [behind, List.length_append]
    have := ih (by omega)
    have := item_length hn (i := l.length - (j + 1)) (by omega) (h5 _ (by omega))
    omega
include hl hn in
theorem stream_l1 (hc : l.length ≤ 12) (h5 : ∀ j, j < l.length → (rd_L1 l (j : Int)).length ≤ 500) (j : Nat) : ∀ i : Nat, i + j = l.length →
    Conv (fun k => morainelaw2_CodecStream.l1 k l n (behind l n j) (i : Int)) true := by
  induction j with
  | zero =>
    intro i hi
    refine Conv.succ ?_
    simp only [morainelaw2_CodecStream.l1]
    refine Conv.iteF (by omega) (Conv.const ?_)
    simp [behind]
  | succ j ih =>
    intro i hi
    have hb := behind_bytes (n := n) hl (j + 1) (by omega)
    have hbl := behind_length hn (j + 1) (by omega) h5
    have hb' := behind_bytes (n := n) hl j (by omega)
    have hbl' := behind_length hn j (by omega) h5
    have hlb := hl _ (rdL_mem (l := l) (i := i) (by omega))
    have e : behind l n (j + 1) = frame (rd_L1 l (i : Int)) ++ ((if i < n.length then putS (rd n (i : Int)).toNat else []) ++ behind l n j) := by
      rw [behind, show l.length - (j + 1) = i by omega, item, List.append_assoc]
    refine Conv.succ ?_
    simp only [morainelaw2_CodecStream.l1]
    refine Conv.iteT (by omega) (Conv.bind (unframe_conv hb (by omega)) ?_)
    rw [e, unframe_frame _ _ (by have := h5 i (by omega); omega)]
    refine Conv.iteT rfl (Conv.iteT (by omega) (Conv.bindc (fr_bytes_eq hlb.2 hlb.2) ?_))
    rw [beq_self_eq_true]
    refine Conv.succ ?_
    simp only [morainelaw2_CodecStream.j4]
    refine Conv.iteF (by decide) (Conv.iteT (by omega) (Conv.iteT (by simp; omega) (Conv.bindc rfl ?_)))
    rw [Int.toNat_natCast, List.drop_left, wrap64_id (by omega) (by omega)]
    have next := ih (i + 1) (by omega)
    by_cases h2 : i < n.length
    · have h3 := hn _ (rdN_mem h2)
      rw [if_pos h2]
      refine Conv.iteT (by omega) (Conv.bind (take_conv ((putS_bytes _).append hb') ?_) ?_)
      · have := putS_length64 (n := (rd n (i : Int)).toNat) (by omega)
        rw [List.length_append]; omega
      rw [take_put h3]
      refine Conv.iteT rfl (Conv.iteT (by omega) (Conv.iteT rfl (Conv.iteT (by dsimp only; omega) (Conv.iteT (by simp; omega) ?_))))
      rw [Int.toNat_natCast, List.drop_left]
      exact next
    · rw [if_neg h2]
      exact Conv.iteF (by omega) next
include hl hn in
theorem stream_l0 (hc : l.length ≤ 12) (hln : n.length ≤ 12) (j : Nat) : ∀ i : Nat, i + j = l.length → (∀ m, m < i → (rd_L1 l (m : Int)).length ≤ 500) →
    Conv (fun k => morainelaw2_CodecStream.l0 k l n (ahead l n i) (i : Int)) true := by
  induction j with
  | zero =>
    intro i hi h5
    obtain rfl : i = l.length := by omega
    refine Conv.succ ?_
    simp only [morainelaw2_CodecStream.l0]
    refine Conv.iteF (by omega) ?_
    have := stream_l1 hl hn hc h5 l.length 0 (by omega)
    have e := ahead_behind l n l.length 0 (by omega)
    rw [ahead, List.nil_append] at e
    rwa [e] at this
  | succ j ih =>
    intro i hi h5
    have hlb := hl _ (rdL_mem (l := l) (i := i) (by omega))
    have hal := ahead_length hn i (by omega) h5
    obtain ⟨v, hv, hv2⟩ := any_frame hlb.2 (by omega)
    refine Conv.succ ?_
    simp only [morainelaw2_CodecStream.l0]
    refine Conv.iteT (by omega) (Conv.iteT (by omega) (Conv.bind hv ?_))
    by_cases hlen : (rd_L1 l (i : Int)).length ≤ 500
    · have := hv2 (by omega)
      subst this
      have hit := item_length hn (i := i) (by omega) hlen
      have hfl : (frame (rd_L1 l (i : Int))).length ≤ 530 := by
        unfold item at hit
        rw [List.length_append] at hit; omega
      refine Conv.iteT rfl (Conv.succ ?_)
      simp only [morainelaw2_CodecStream.j2]
      refine Conv.iteF (by simp; omega) (Conv.iteT (by omega) (Conv.bindc rfl ?_))
      rw [wrap64_id (by omega) (by omega)]
      have next := ih (i + 1) (by omega) (fun m hm => by
        by_cases e : m = i
        · subst e; exact hlen
        · exact h5 m (by omega))
      rw [ahead] at next
      unfold item at next
      by_cases h2 : i < n.length
      · have h3 := hn _ (rdN_mem h2)
        have hp := putS_length64 (n := (rd n (i : Int)).toNat) (by omega)
        rw [if_pos h2, ← List.append_assoc] at next
        refine Conv.iteT (by omega) (Conv.iteT (by omega) (Conv.bind (put_conv h3) (Conv.iteT (by simp; omega) ?_)))
        exact next
      · rw [if_neg h2, List.append_nil] at next
        exact Conv.iteF (by omega) next
    · have out : ∀ {b : Bool}, b = true → Conv (fun k => morainelaw2_CodecStream.j2 k l n (ahead l n i) (i : Int) v.1 b) true := by
        intro b hb
        subst hb
        refine Conv.succ ?_
        simp only [morainelaw2_CodecStream.j2]
        exact Conv.iteT (by trivial) (Conv.iteT (by omega) (Conv.iteT (by omega) (Conv.const (by simp; omega))))
      exact Conv.ite (fun _ => out (by simp; omega)) fun _ => out rfl
end
theorem CodecStream : morainelaw2_CodecStream.Pure := by
  intro l n wl _ sn wn
  have hl : ∀ x ∈ l, x.length * 1 ≤ 140737488351232 ∧ Bytes x := fun x hx => ⟨(wl.2 x hx).1, bytes_of_wf (wl.2 x hx).2⟩
  have hn : ∀ x ∈ n, 0 ≤ x ∧ x < 18446744073709551616 := fun x hx => wf_u64 (wn x hx)
  refine Conv.ex ?_
  simp only [morainelaw2_CodecStream.f, morainelaw2_known.f]
  refine Conv.bindc rfl (Conv.iteT rfl ?_)
  have out : Conv (fun k => morainelaw2_CodecStream.j0 k l n true) true := by
    refine Conv.succ ?_
    simp only [morainelaw2_CodecStream.j0]
    exact Conv.iteT (by trivial) (Conv.pure _)
  refine Conv.ite (fun _ => out) fun c1 => ?_
  by_cases c2 : (n.length : Int) > 12
  · rw [decide_eq_true c2]; exact out
  · rw [decide_eq_false c2]
    refine Conv.succ ?_
    simp only [morainelaw2_CodecStream.j0]
    exact Conv.iteF (by decide) (stream_l0 hl hn (by omega) (by omega) l.length 0 (by omega) (fun m hm => absurd hm (Nat.not_lt_zero m)))

end Go.Proofs.Yteogjahkccmfaaa.Pure
/- Arguments of a law opened: what is laid at a type reads as a plain value, kind by kind. -/
namespace Go.Proofs.Yteogjahkccmfaaa.Base
set_option linter.unusedVariables false
set_option linter.unusedSimpArgs false
open Go Go.RowKit Go.Deep Go.Proofs.YteogjahkccmfaaaW.PrintWords Go.Proofs.YteogjahkccmfaaaW.PrintLast Go.Proofs.YteogjahkccmfaaaW.PrintMore

/-- what is laid at this type reads as a value of this kind, of which 'ok' holds -/
structure Opens (P : Program) (t : TypeId) {α : Type} (d : Kd α) (ok : α → Prop) : Prop where
  size : P.cellsOf t = d.sz
  get : ∀ {H : Type} {enc : TypeId × Value → H} {w : World} {base : Nat} {held : Bool} {fuel : Nat} {cs : List Value} {x : DataW H × List MemPlace},
    DataW.trod enc P w base (fun _ => true) held fuel t cs = some x → (∀ n ∈ x.1.weights P t, n ≤ reachBytes) → ∃ v, d.K w v cs ∧ ok v

theorem opens_int {P : Program} {t : TypeId} {k : IntKind} (ht : P.underlying t = some (.int k)) (hc : P.cellsOf t = 1) : Opens P t (Kd.int k) (fun x => (Lit.int k x).wf = true) :=
  ⟨hc, fun h _ => by
    obtain ⟨n, rfl, _, hw⟩ := DataW.trod_int ht h
    exact ⟨n, rfl, hw⟩⟩
theorem opens_bool {P : Program} {t : TypeId} (ht : P.underlying t = some .bool) (hc : P.cellsOf t = 1) : Opens P t Kd.bool (fun _ => True) :=
  ⟨hc, fun h _ => by
    obtain ⟨n, rfl, _⟩ := DataW.trod_bool ht h
    exact ⟨n, rfl, trivial⟩⟩
theorem opens_string {P : Program} {t : TypeId} (ht : P.underlying t = some .string) (hc : P.cellsOf t = 1) : Opens P t Kd.string (fun s => s.size ≤ 140737488351232) :=
  ⟨hc, fun h hw => by
    obtain ⟨s, rfl, hx, _⟩ := DataW.trod_string ht h
    refine ⟨s, rfl, ?_⟩
    have := hw s.data.toList.length (by rw [hx]; simp [DataW.weights])
    have e : s.size = s.data.toList.length := rfl
    rw [e]
    exact this⟩
theorem mem_weightsAll {H : Type} {P : Program} {e : TypeId} {d : DataW H} {n : Nat} : ∀ {l : List (DataW H)}, d ∈ l → n ∈ d.weights P e → n ∈ DataW.weightsAll P e l
  | [], h, _ => by cases h
  | x :: l, h, hn => by
    simp only [DataW.weightsAll, List.mem_append]
    rcases List.mem_cons.mp h with h | h
    · subst h; exact .inl hn
    · exact .inr (mem_weightsAll h hn)
theorem opens_slice {P : Program} {t e : TypeId} {α : Type} {d : Kd α} {ok : α → Prop} {B : Nat} (ht : P.underlying t = some (.slice e)) (hc : P.cellsOf t = 1) (hB : P.bytesOf e = B) (he : Opens P e d ok) :
    Opens P t (Kd.slice e d) (fun l => l.length * B ≤ 140737488351232 ∧ ∀ x ∈ l, ok x) :=
  ⟨hc, fun {H enc w base held fuel cs x} h hw => by
    rcases open_slice ht h with ⟨rfl, _⟩ | ⟨a, len, cap, m, n, D, Pl, rfl, hb, hl, hm, hmm, rfl, hx⟩
    · refine ⟨[], ⟨none, 0, rfl, Nat.le_refl _, rfl, Nat.zero_le _, fun h => absurd h (Nat.lt_irrefl 0)⟩, by simp, fun x hx => by cases hx⟩
    · simp only [if_true] at hmm
      subst hmm
      have hww : ∀ k, k ∈ (DataW.slice ((List.range len).map D) ((List.range (m - len)).map fun j => D (len + j))).weights P t → k ≤ reachBytes := hw
      simp only [DataW.weights, ht, List.mem_cons, List.mem_append] at hww
      have hlen : len * B ≤ 140737488351232 := by
        have := hww _ (.inl rfl)
        simp only [List.length_map, List.length_range, hB] at this
        have h2 : len * B ≤ (len + (m - len)) * B := Nat.mul_le_mul_right _ (by omega)
        exact Nat.le_trans h2 this
      have each : ∀ i, i < len → ∃ v : α, ∃ c, c.length = d.sz ∧ d.K w v c ∧ ok v ∧ ∀ j u, c[j]? = some u → w.cell? (a.add (i * d.sz + j)) = some u := by
        intro i hi
        obtain ⟨cs', h1, h2⟩ := hx i (by omega)
        obtain ⟨_, h3, h4⟩ := World.cells?_some h1
        obtain ⟨v, hv, hok⟩ := he.get h2 (fun k hk => hww k (.inr (.inl (mem_weightsAll (l := (List.range len).map D) (d := D i) (List.mem_map.mpr ⟨i, List.mem_range.mpr hi, rfl⟩) hk))))
        refine ⟨v, cs', by rw [h3, he.size], hv, hok, fun j u hu => ?_⟩
        have hj : j < P.cellsOf e := by
          rw [← h3]
          exact (List.getElem?_eq_some_iff.1 hu).1
        have := h4 j hj
        rw [hu, he.size] at this
        rw [← this, Addr.add_add]
      have pick : ∃ f : Fin len → α, ∀ i : Fin len, ∃ c, c.length = d.sz ∧ d.K w (f i) c ∧ ok (f i) ∧ ∀ j u, c[j]? = some u → w.cell? (a.add (i.val * d.sz + j)) = some u := by
        refine ⟨fun i => Classical.choose (each i.val i.isLt), fun i => Classical.choose_spec (each i.val i.isLt)⟩
      obtain ⟨f, hf⟩ := pick
      refine ⟨List.ofFn f, ⟨some a, m, by rw [List.length_ofFn], by rw [List.length_ofFn]; exact hl, ?_⟩, by rw [List.length_ofFn]; exact hlen, fun x hx => ?_⟩
      · rw [List.length_ofFn]
        refine ⟨List.length_ofFn, ?_, fun _ => ⟨a, rfl, fun j p hp => ?_⟩⟩
        · have : maxLen = 9223372036854775807 := by decide
          omega
        · have hj : j < len := by
            have := (List.getElem?_eq_some_iff.1 hp).1
            simpa using this
          rw [List.getElem?_ofFn, dif_pos hj] at hp
          obtain ⟨c, c1, c2, _, c4⟩ := hf ⟨j, hj⟩
          simp only [Option.some.injEq] at hp
          subst hp
          exact ⟨c, c1, c2, c4⟩
      · obtain ⟨i, rfl⟩ := List.mem_ofFn.mp hx
        obtain ⟨c, _, _, h3, _⟩ := hf i
        exact h3⟩
/-- a value of one cell, as an argument -/
theorem Opens.arg {P : Program} {t : TypeId} {α : Type} {d : Kd α} {ok : α → Prop} (h : Opens P t d ok) {H : Type} {enc : TypeId × Value → H} {W : World} {base : Nat} {held : Bool} {v : Value} {dd : DataW H} {ps : List MemPlace} {ts : List TypeId} {ds : List (DataW H)} {j : Nat}
    (ho : DataW.Trod enc P W base (fun _ => true) held t v dd ps) (hsz : (DataW.weightsEach P ts ds).all (· ≤ reachBytes) = true) (ht : ts[j]? = some t) (hd : ds[j]? = some dd) : ∃ x, d.K W x v.cells.toList ∧ ok x := by
  obtain ⟨fuel, hf⟩ := ho
  refine h.get hf fun n hn => ?_
  have := List.all_eq_true.1 hsz _ (DataW.weights_mem_each ht hd n hn)
  simpa using this
end Go.Proofs.Yteogjahkccmfaaa.Base
namespace Go.Proofs.Yteogjahkccmfaaa.codecStream
open Go.ChangeShapes Go.WideShapes Go.ChangeAt Go.RowKit
open Go.ChangeMaps (open_string shut_string)
set_option linter.unusedVariables false
theorem own : ownKnob Try.prog.godebug = none := by kernel_rfl
theorem laidOut : laidOutB Try.prog = true := by kernel_rfl
def IsRow (k : IntKind) (w : World) (a : Option Addr) (len cap : Nat) (zs : List Int) : Prop :=
  (a = none ∧ len = 0 ∧ cap = 0 ∧ zs = []) ∨
  ∃ x, a = some x ∧ len ≤ cap ∧ cap ≤ maxLen ∧ zs.length = cap ∧ (∀ i, i < zs.length → w.cell? (x.add i) = some (.int k (zs.getD i 0))) ∧ ∀ n ∈ zs, (Lit.int k n).wf = true
set_option maxRecDepth 100000 in
theorem lifted (os : Os) (started : os.Started) (H : Type) (enc : TypeId × Value → H) :
    ReturnsInHanded {} Try.checked os 9 .any (Rows.codecStreamSpec.pre6 enc Try.prog Try.f9 Rows.codecStreamRow.domain false) (Rows.codecStreamSpec.post enc Try.prog Try.f9 false true false false) := by
  refine returnsInHanded_of_change_sized (C := Try.checked) own started (by kernel_rfl) Try.func9
    (ChangeSpec.witness6 (enc := enc) (C := Try.checked) false ⟨#[], #[.slice none 0 0, .slice none 0 0], []⟩ 8 (by kernel_rfl) (by kernel_rfl) (by kernel_rfl) (by kernel_rfl)) ?_
  intro W base args ds gs before hval0 hW hcnd hsz0 _
  have hsz : (DataW.weightsEach Try.prog (Try.f9.params.toList ++ Rows.codecStreamSpec.plain.varTypes Try.prog) (ds ++ gs)).all (· ≤ reachBytes) = true := hsz0
  have hval : ∀ (j : Nat) t v, Try.f9.params[j]? = some t → args[j]? = some v → Value.okWide Try.prog W .any base t v := hval0
  have hW' := hW
  obtain ⟨p, q, hA0, hV, rfl, hfz, hnd⟩ := hW
  have hA : DataW.TrodAll enc Try.prog W 0 (fun _ => true) true Try.f9.params.toList args.toList ds p := hA0
  rw [Try.params9] at hA hval hsz
  obtain ⟨v0, vs0, d0, ds0, p0, q0, hargs, rfl, rfl, h0, r0⟩ := trodAll_cons hA
  obtain ⟨v1, vs1, d1, ds1, p1, q1, rfl, rfl, rfl, h1, r1⟩ := trodAll_cons r0
  obtain ⟨rfl, rfl, rfl⟩ := trodAll_nil r1
  obtain rfl : args = #[v0, v1] := by cases args; simp_all
  obtain ⟨rfl, rfl⟩ := trodVars_none hV
  obtain ⟨a0, len0, cap0, rfl⟩ := okWide_slice Try.underlying60 (hval 0 60 v0 rfl rfl)
  have k0 := h0
  have lt0 : ∀ x ∈ p0, x.block < W.heap.size := by obtain ⟨m, hm⟩ := k0; exact DataW.trod_lt m _ _ _ hm
  obtain ⟨l0, ⟨A0, c0, hcs0, hm0, hr0⟩, w0⟩ := Base.Opens.arg (Base.opens_slice (B := 24) Try.underlying60 (by kernel_rfl) (by kernel_rfl) (Base.opens_slice (B := 1) Try.underlying22 (by kernel_rfl) (by kernel_rfl) (Base.opens_int Try.underlying5 (by kernel_rfl)))) h0 hsz (j := 0) (t := 60) rfl rfl
  simp [Value.cells] at hcs0
  obtain ⟨rfl, rfl, rfl⟩ := hcs0
  obtain ⟨a1, len1, cap1, rfl⟩ := okWide_slice Try.underlying61 (hval 1 61 v1 rfl rfl)
  have k1 := h1
  have lt1 : ∀ x ∈ p1, x.block < W.heap.size := by obtain ⟨m, hm⟩ := k1; exact DataW.trod_lt m _ _ _ hm
  obtain ⟨z1, w1⟩ : ∃ zs, IsRow .u64 W a1 len1 cap1 zs := by
    obtain ⟨fuel, hf⟩ := h1
    rcases open_ints Try.underlying61 Try.underlying27 (by kernel_rfl) hf with ⟨hcs, _⟩ | ⟨x, l, c, zs, hcs, _, hl, hm, hz, _, hcell, hwz⟩
    · simp [Value.cells] at hcs
      obtain ⟨rfl, rfl, rfl⟩ := hcs
      exact ⟨[], .inl ⟨rfl, rfl, rfl, rfl⟩⟩
    · simp [Value.cells] at hcs
      obtain ⟨rfl, rfl, rfl⟩ := hcs
      exact ⟨zs, .inr ⟨_, rfl, hl, hm, by simpa using hz, hcell, hwz⟩⟩
  have y1 : len1 * 8 ≤ 140737488351232 := Go.Proofs.YteogjahkccmfaaaW.PrintWords.sized_ints hsz (j := 1) (t := 61) rfl rfl Try.underlying61 Try.underlying27 (by kernel_rfl) (by kernel_rfl) h1
  clear hA0 hval0 hsz0 hsz
  refine (P.morainelaw2_CodecStream.walk Pure.CodecStream a0 cap0 l0 a1 len1 cap1 z1 W hr0 hm0 w0 w1 y1).mono fun e W' ⟨he, bel⟩ => ?_
  subst he
  exact ⟨_, rfl, _, _, _, [], _, [], hW', trodAll_mk1 (shut_bool Try.underlying4 _), (trodAll_cons_mk (Below.trod laidOut (by kernel_rfl) (of_decide_eq_true (by kernel_rfl)) k0 bel lt0) (trodAll_cons_mk (Below.trod laidOut (by kernel_rfl) (of_decide_eq_true (by kernel_rfl)) k1 bel lt1) trodAll_mk0)), rfl, bel.frame _, fun h => by cases h⟩
theorem over : Rows.codecStreamRow.holds Try.pinned (OpenSpec.ofChange Rows.codecStreamSpec) :=
  OpenClaim.holds_of_wide 9 Try.f9 rfl rfl rfl rfl rfl rfl rfl ⟨rfl, rfl, rfl, rfl, rfl⟩ rfl rfl rfl rfl rfl (by kernel_rfl) Try.func9 (by kernel_rfl)
    (of_decide_eq_true (by kernel_rfl)) (by unfold Func.isWrapper; first | (rw [if_pos (by decide +kernel)]; kernel_rfl) | (rw [if_neg (by decide +kernel)]; exact ⟨rfl, rfl⟩))
    (fun os started H enc _ => lifted os started H enc)
theorem proved : Rows.CodecStreamSaid := over
#print axioms proved
end Go.Proofs.Yteogjahkccmfaaa.codecStream
namespace Go.Proofs.Yteogjahkccmfaaa
/-- The row, under a short name, for the claim. -/
theorem codecStream_holds : Rows.CodecStreamSaid := codecStream.proved
end Go.Proofs.Yteogjahkccmfaaa
