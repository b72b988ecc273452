-- Written by a program of this session out of the translation.
import Derived.Test.YtbobnopnfjcajaaPx0
import Derived.Test.YtbobnopnfjcajaaPz
import Derived.Test.YtbobnopnfjcajaaPx11
import Derived.Test.YtbobnopnfjcajaaPx12
import Derived.Test.YtbobnopnfjcajaaPx13
import Derived.Test.YtbobnopnfjcajaaPx16
import Derived.Test.YtbobnopnfjcajaaPx30
import Derived.Test.YtbobnopnfjcajaaPx31
import Derived.Test.YtbobnopnfjcajaaPx32
import Derived.Test.YtbobnopnfjcajaaPx33
namespace Go.Proofs.Ytbobnopnfjcajaa.P
open Go.RowKit Go.Proofs.YtbobnopnfjcajaaW.PrintWords Go.Proofs.YtbobnopnfjcajaaW.PrintLast Go.Proofs.YtbobnopnfjcajaaW.PrintMore
attribute [local go_sem] max2_int min2_int max_two min_two max_three min_three max_four min_four   -- for this text's walks alone
set_option linter.unusedVariables false
set_option linter.unusedSimpArgs false

/-! ### morainelaw4_RlpDecodes: function 4 -/
mutual
def morainelaw4_RlpDecodes.j0 : Nat → List Int → Bool → Option (Bool)
  | 0, _, _ => none
  | k + 1, x0, x19 => if x19 = true then (some true) else (if ([] : List Int).length + x0.length < 140737488355328 then ((some (([] : List Int) ++ x0 : List Int)).bind fun y506 => ((rlp_Decode.f k y506).bind fun bt509 => ((moraineref4_Decode.f k x0).bind fun bt518 => (if bt509.2.2.2 = bt518.2.2.2 then ((morainelaw4_same.f k bt509.1 bt509.2.1 bt509.2.2.1 bt518.1 bt518.2.1 bt518.2.2.1 bt518.2.2.2).bind fun t527 => (morainelaw4_RlpDecodes.j1 k x0 y506 (!t527))) else (morainelaw4_RlpDecodes.j1 k x0 y506 true))))) else (none))
def morainelaw4_RlpDecodes.j1 : Nat → List Int → List Int → Bool → Option (Bool)
  | 0, _, _, _ => none
  | k + 1, x0, x3, x41 => if x41 = true then (some false) else ((rlp_First.f k x3).bind fun bt528 => ((moraineref4_First.f k x0).bind fun bt537 => (if bt528.2.2.2.2 = bt537.2.2.2.2 then (if bt528.2.2.2.1 = bt537.2.2.2.1 then ((morainelaw4_same.f k bt528.1 bt528.2.1 bt528.2.2.1 bt537.1 bt537.2.1 bt537.2.2.1 bt537.2.2.2.2).bind fun t546 => (if t546 = true then ((morainehelp_Bytes.f x3 x0).bind fun t547 => (morainelaw4_RlpDecodes.j2 k x3 bt537.2.2.2.2 (!t547) bt528.1 bt528.2.1 bt528.2.2.1 bt537.1 bt537.2.1 bt537.2.2.1)) else (morainelaw4_RlpDecodes.j2 k x3 bt537.2.2.2.2 true bt528.1 bt528.2.1 bt528.2.2.1 bt537.1 bt537.2.1 bt537.2.2.1))) else (morainelaw4_RlpDecodes.j2 k x3 bt537.2.2.2.2 true bt528.1 bt528.2.1 bt528.2.2.1 bt537.1 bt537.2.1 bt537.2.2.1)) else (morainelaw4_RlpDecodes.j2 k x3 bt537.2.2.2.2 true bt528.1 bt528.2.1 bt528.2.2.1 bt537.1 bt537.2.1 bt537.2.2.1))))
def morainelaw4_RlpDecodes.j2 : Nat → List Int → Int → Bool → Bool → List Int → List (S25) → Bool → List Int → List (S25) → Option (Bool)
  | 0, _, _, _, _, _, _, _, _, _ => none
  | k + 1, x3, x7, x74, x518000, x518001, x518002, x527000, x527001, x527002 => if x74 = true then (some false) else ((morainehelp_Spoil.f k x3).bind fun t548 => ((morainelaw4_same.f k x518000 x518001 x518002 x527000 x527001 x527002 x7).bind fun t549 => (some t549)))
end
def morainelaw4_RlpDecodes.f (k : Nat) (l0 : List Int) : Option (Bool) := (morainelaw4_known.f k).bind fun t505 => (if t505 = true then (if (l0.length : Int) > 5000 then (morainelaw4_RlpDecodes.j0 k l0 (decide ((l0.length : Int) ≤ 65536))) else (morainelaw4_RlpDecodes.j0 k l0 false)) else (some false))
theorem morainelaw4_RlpDecodes.mono_l : ∀ k, (∀ y0 y1, LeO (morainelaw4_RlpDecodes.j0 k y0 y1) (morainelaw4_RlpDecodes.j0 (k + 1) y0 y1)) ∧ (∀ y0 y1 y2, LeO (morainelaw4_RlpDecodes.j1 k y0 y1 y2) (morainelaw4_RlpDecodes.j1 (k + 1) y0 y1 y2)) ∧ (∀ y0 y1 y2 y3 y4 y5 y6 y7 y8, LeO (morainelaw4_RlpDecodes.j2 k y0 y1 y2 y3 y4 y5 y6 y7 y8) (morainelaw4_RlpDecodes.j2 (k + 1) y0 y1 y2 y3 y4 y5 y6 y7 y8))
  | 0 => ⟨fun _ _ r h => by simp [morainelaw4_RlpDecodes.j0] at h, fun _ _ _ r h => by simp [morainelaw4_RlpDecodes.j1] at h, fun _ _ _ _ _ _ _ _ _ r h => by simp [morainelaw4_RlpDecodes.j2] at h⟩
  | k + 1 => by
    obtain ⟨ih0, ih1, ih2⟩ := morainelaw4_RlpDecodes.mono_l k
    refine ⟨?_, ?_, ?_⟩
    · intro y0 y1
      unfold morainelaw4_RlpDecodes.j0
      repeat' first
      | (with_reducible exact ih0 _ _)
      | (with_reducible exact ih1 _ _ _)
      | (with_reducible exact ih2 _ _ _ _ _ _ _ _ _)
      | (with_reducible exact morainehelp_Spoil.mono _ _)
      | (with_reducible exact morainelaw4_known.mono _)
      | (with_reducible exact morainelaw4_same.mono _ _ _ _ _ _ _ _)
      | (with_reducible exact moraineref4_Decode.mono _ _)
      | (with_reducible exact moraineref4_First.mono _ _)
      | (with_reducible exact rlp_Decode.mono _ _)
      | (with_reducible exact rlp_First.mono _ _)
      | (with_reducible exact LeO.refl _)
      | (with_reducible exact LeO.none _)
      | (with_reducible refine LeO.ite ?_ ?_)
      | (with_reducible refine LeO.bind ?_ (fun _ => ?_))
      | exact ih0 _ _
      | exact ih1 _ _ _
      | exact ih2 _ _ _ _ _ _ _ _ _
      | exact morainehelp_Spoil.mono _ _
      | exact morainelaw4_known.mono _
      | exact morainelaw4_same.mono _ _ _ _ _ _ _ _
      | exact moraineref4_Decode.mono _ _
      | exact moraineref4_First.mono _ _
      | exact rlp_Decode.mono _ _
      | exact rlp_First.mono _ _
      | exact LeO.none _
      | refine LeO.ite ?_ ?_
      | refine LeO.bind ?_ (fun _ => ?_)
    · intro y0 y1 y2
      unfold morainelaw4_RlpDecodes.j1
      repeat' first
      | (with_reducible exact ih0 _ _)
      | (with_reducible exact ih1 _ _ _)
      | (with_reducible exact ih2 _ _ _ _ _ _ _ _ _)
      | (with_reducible exact morainehelp_Spoil.mono _ _)
      | (with_reducible exact morainelaw4_known.mono _)
      | (with_reducible exact morainelaw4_same.mono _ _ _ _ _ _ _ _)
      | (with_reducible exact moraineref4_Decode.mono _ _)
      | (with_reducible exact moraineref4_First.mono _ _)
      | (with_reducible exact rlp_Decode.mono _ _)
      | (with_reducible exact rlp_First.mono _ _)
      | (with_reducible exact LeO.refl _)
      | (with_reducible exact LeO.none _)
      | (with_reducible refine LeO.ite ?_ ?_)
      | (with_reducible refine LeO.bind ?_ (fun _ => ?_))
      | exact ih0 _ _
      | exact ih1 _ _ _
      | exact ih2 _ _ _ _ _ _ _ _ _
      | exact morainehelp_Spoil.mono _ _
      | exact morainelaw4_known.mono _
      | exact morainelaw4_same.mono _ _ _ _ _ _ _ _
      | exact moraineref4_Decode.mono _ _
      | exact moraineref4_First.mono _ _
      | exact rlp_Decode.mono _ _
      | exact rlp_First.mono _ _
      | exact LeO.none _
      | refine LeO.ite ?_ ?_
      | refine LeO.bind ?_ (fun _ => ?_)
    · intro y0 y1 y2 y3 y4 y5 y6 y7 y8
      unfold morainelaw4_RlpDecodes.j2
      repeat' first
      | (with_reducible exact ih0 _ _)
      | (with_reducible exact ih1 _ _ _)
      | (with_reducible exact ih2 _ _ _ _ _ _ _ _ _)
      | (with_reducible exact morainehelp_Spoil.mono _ _)
      | (with_reducible exact morainelaw4_known.mono _)
      | (with_reducible exact morainelaw4_same.mono _ _ _ _ _ _ _ _)
      | (with_reducible exact moraineref4_Decode.mono _ _)
      | (with_reducible exact moraineref4_First.mono _ _)
      | (with_reducible exact rlp_Decode.mono _ _)
      | (with_reducible exact rlp_First.mono _ _)
      | (with_reducible exact LeO.refl _)
      | (with_reducible exact LeO.none _)
      | (with_reducible refine LeO.ite ?_ ?_)
      | (with_reducible refine LeO.bind ?_ (fun _ => ?_))
      | exact ih0 _ _
      | exact ih1 _ _ _
      | exact ih2 _ _ _ _ _ _ _ _ _
      | exact morainehelp_Spoil.mono _ _
      | exact morainelaw4_known.mono _
      | exact morainelaw4_same.mono _ _ _ _ _ _ _ _
      | exact moraineref4_Decode.mono _ _
      | exact moraineref4_First.mono _ _
      | exact rlp_Decode.mono _ _
      | exact rlp_First.mono _ _
      | exact LeO.none _
      | refine LeO.ite ?_ ?_
      | refine LeO.bind ?_ (fun _ => ?_)
theorem morainelaw4_RlpDecodes.mono : ∀ a0 k, LeO (morainelaw4_RlpDecodes.f k a0) (morainelaw4_RlpDecodes.f (k + 1) a0) := by
  intro a0 k
  obtain ⟨ih0, ih1, ih2⟩ := morainelaw4_RlpDecodes.mono_l k
  unfold morainelaw4_RlpDecodes.f
  repeat' first
      | (with_reducible exact ih0 _ _)
      | (with_reducible exact ih1 _ _ _)
      | (with_reducible exact ih2 _ _ _ _ _ _ _ _ _)
      | (with_reducible exact morainehelp_Spoil.mono _ _)
      | (with_reducible exact morainelaw4_known.mono _)
      | (with_reducible exact morainelaw4_same.mono _ _ _ _ _ _ _ _)
      | (with_reducible exact moraineref4_Decode.mono _ _)
      | (with_reducible exact moraineref4_First.mono _ _)
      | (with_reducible exact rlp_Decode.mono _ _)
      | (with_reducible exact rlp_First.mono _ _)
      | (with_reducible exact LeO.refl _)
      | (with_reducible exact LeO.none _)
      | (with_reducible refine LeO.ite ?_ ?_)
      | (with_reducible refine LeO.bind ?_ (fun _ => ?_))
      | exact ih0 _ _
      | exact ih1 _ _ _
      | exact ih2 _ _ _ _ _ _ _ _ _
      | exact morainehelp_Spoil.mono _ _
      | exact morainelaw4_known.mono _
      | exact morainelaw4_same.mono _ _ _ _ _ _ _ _
      | exact moraineref4_Decode.mono _ _
      | exact moraineref4_First.mono _ _
      | exact rlp_Decode.mono _ _
      | exact rlp_First.mono _ _
      | exact LeO.none _
      | refine LeO.ite ?_ ?_
      | refine LeO.bind ?_ (fun _ => ?_)
set_option maxHeartbeats 8000000 in
set_option maxRecDepth 100000 in
theorem morainelaw4_RlpDecodes.calls (k : Nat) (A0 : Option Addr) (c0 : Nat) (l0 : List Int) (r : Bool) (w : World) (hr0 : Kd.C (Kd.int .u8) w A0 l0.length l0) (hc0 : l0.length ≤ c0) (h : morainelaw4_RlpDecodes.f k l0 = some r) :
    Calls Try.prog 4 #[.slice A0 l0.length c0] w fun e w' => e = .returned (.bool r) ∧ Below w.heap.size w w' := by
  have hu25 := Try.underlying25
  have HR0 := Aside0.mk hr0
  have HC0 := Aside0.mk hc0
  clear hr0 hc0
  have HB := Aside0.mk (Below.refl w.heap.size w)
  have H : ((morainelaw4_known.f k).bind fun t505 => (if t505 = true then (if (l0.length : Int) > 5000 then (morainelaw4_RlpDecodes.j0 k l0 (decide ((l0.length : Int) ≤ 65536))) else (morainelaw4_RlpDecodes.j0 k l0 false)) else (some false))) = some r := h
  clear h
  replace H := Option.bind_eq_some_iff.mp H
  obtain ⟨t505, A20, H⟩ := H
  replace H : (if t505 = true then (if (l0.length : Int) > 5000 then (morainelaw4_RlpDecodes.j0 k l0 (decide ((l0.length : Int) ≤ 65536))) else (morainelaw4_RlpDecodes.j0 k l0 false)) else (some false)) = some r := H
  have A2 := Aside0.mk A20
  clear A20
  by_cases c3 : t505 = true
  · subst c3
    have H1 : (if (l0.length : Int) > 5000 then (morainelaw4_RlpDecodes.j0 k l0 (decide ((l0.length : Int) ≤ 65536))) else (morainelaw4_RlpDecodes.j0 k l0 false)) = some r := by rw [if_pos rfl] at H; exact H
    clear H
    have H := H1
    clear H1
    have HC4 := Aside0.mk H
    clear H
    go_enter Try.func4, Try.ntmps4
    go_upto_region 3 with (first | ((with_reducible refine gate_callee (f := 9) rfl ?_); refine goesL_ (some 10) rfl rfl Try.func9 (by kernel_rfl) rfl #[] rfl zw6 ?_; (with_reducible refine (morainelaw4_known.calls k  true _ A2.out).mono ?_); rintro e w5 ⟨rfl, hb⟩; refine ⟨_, rfl, ?_⟩; have n0_ := Aside0.mk (below_step (zw2 HB.out) hb); clear HB; have HB := n0_; clear n0_; (try clear hb); (try clear hb2); (try clear hk); (try clear hi)))
    (try simp only [Act.put, List.setIfInBounds_toArray, List.set_cons_zero, List.set_cons_succ])
    go_cut [19] (fun v19 wc => ∃ (kq : Nat) (x19_3 : Bool), v19 = .bool x19_3 ∧ Aside0 (morainelaw4_RlpDecodes.j0 kq l0 x19_3 = some r) ∧ Aside0 (kq ≤ k) ∧ Aside0 (Below w.heap.size w wc))
    case first =>
      have H := HC4.out
      clear HC4
      by_cases c6 : (l0.length : Int) > 5000
      · rw [if_pos c6] at H
        have c6b0 : decide (5000 < (l0.length : Int)) = true := decide_eq_true c6
        have c6b1 : decide (5000 < l0.length) = true := decide_eq_true (by omega)
        clear c6
        (first | rw [c6b0] | (simp only [i64_w, i32_w]; rw [c6b0]) | skip)
        have H' := Aside0.mk H
        clear H
        go_wp2
        go_meet
        case rel => exact ⟨_, (decide ((l0.length : Int) ≤ 65536)), zw7, H', ⟨by first | omega | exact Nat.le_refl _⟩, ⟨by repeat (first | (with_reducible first | exact HB.out | apply below_alloc | apply pw_below_drewN | apply below_drew1) | exact HB.out)⟩⟩
      · rw [if_neg c6] at H
        have c6b0 : decide (5000 < (l0.length : Int)) = false := decide_eq_false c6
        have c6b1 : decide (5000 < l0.length) = false := decide_eq_false (by omega)
        clear c6
        (first | rw [c6b0] | (simp only [i64_w, i32_w]; rw [c6b0]) | skip)
        have H' := Aside0.mk H
        clear H
        go_wp2
        go_meet
        case rel => exact ⟨_, (false), zw7, H', ⟨by first | omega | exact Nat.le_refl _⟩, ⟨by repeat (first | (with_reducible first | exact HB.out | apply below_alloc | apply pw_below_drewN | apply below_drew1) | exact HB.out)⟩⟩
    case rest =>
      clear HC4
      try clear p2
      try clear c3
      try clear c4
      try clear c6
      try clear c6b0
      try clear c6b1
      obtain ⟨kq, x19_3, rfl, HA, HJ3, HB⟩ := hcut
      cases kq with
      | zero => exact absurd HA.out (by simp [morainelaw4_RlpDecodes.j0])
      | succ kj3 =>
        have H := HA.out
        clear HA
        simp only [morainelaw4_RlpDecodes.j0] at H
        by_cases c7 : x19_3 = true
        · subst c7
          have H1 : (some true) = some r := by rw [if_pos rfl] at H; exact H
          clear H
          have H := H1
          clear H1
          obtain rfl := Option.some.inj H
          go_wp2
          go_ret
          exact ⟨by first | rfl | (simp [errW_none, errW_some] <;> rfl) | (simp [*, errW_none, errW_some] <;> rfl), by repeat (first | (with_reducible first | exact HB.out | apply below_alloc | apply pw_below_drewN | apply below_drew1) | exact HB.out)⟩
        · replace c7 := Bool.eq_false_iff.mpr c7
          subst c7
          have H1 : (if ([] : List Int).length + l0.length < 140737488355328 then ((some (([] : List Int) ++ l0 : List Int)).bind fun y506 => ((rlp_Decode.f kj3 y506).bind fun bt509 => ((moraineref4_Decode.f kj3 l0).bind fun bt518 => (if bt509.2.2.2 = bt518.2.2.2 then ((morainelaw4_same.f kj3 bt509.1 bt509.2.1 bt509.2.2.1 bt518.1 bt518.2.1 bt518.2.2.1 bt518.2.2.2).bind fun t527 => (morainelaw4_RlpDecodes.j1 kj3 l0 y506 (!t527))) else (morainelaw4_RlpDecodes.j1 kj3 l0 y506 true))))) else (none)) = some r := by rw [if_neg (show ¬ (false = true) by decide)] at H; exact H
          clear H
          have H := H1
          clear H1
          by_cases c8 : ([] : List Int).length + l0.length < 140737488355328
          · rw [if_pos c8] at H
            have LMc8 := Aside0.mk c8
            clear c8
            obtain ⟨y506, hy506⟩ : ∃ y_ : List Int, y_ = (([] : List Int) ++ l0) := ⟨_, rfl⟩
            replace H : ((rlp_Decode.f kj3 y506).bind fun bt509 => ((moraineref4_Decode.f kj3 l0).bind fun bt518 => (if bt509.2.2.2 = bt518.2.2.2 then ((morainelaw4_same.f kj3 bt509.1 bt509.2.1 bt509.2.2.1 bt518.1 bt518.2.1 bt518.2.2.1 bt518.2.2.2).bind fun t527 => (morainelaw4_RlpDecodes.j1 kj3 l0 y506 (!t527))) else (morainelaw4_RlpDecodes.j1 kj3 l0 y506 true)))) = some r := by first | (rw [hy506]; with_reducible exact H) | (have H2_ := (Option.bind_some _ _).symm.trans H; rw [hy506]; with_reducible exact H2_) | (have H2_ := (Option.bind_some _ _).symm.trans H; with_reducible exact H2_) | with_reducible exact H | (rw [hy506]; exact H) | exact H
            have Ny506 := Aside0.mk hy506
            clear hy506
            replace H := Option.bind_eq_some_iff.mp H
            obtain ⟨⟨t509, t510, t513, t516⟩, A90, H⟩ := H
            replace H : ((moraineref4_Decode.f kj3 l0).bind fun bt518 => (if t516 = bt518.2.2.2 then ((morainelaw4_same.f kj3 t509 t510 t513 bt518.1 bt518.2.1 bt518.2.2.1 bt518.2.2.2).bind fun t527 => (morainelaw4_RlpDecodes.j1 kj3 l0 y506 (!t527))) else (morainelaw4_RlpDecodes.j1 kj3 l0 y506 true))) = some r := H
            have A9 := Aside0.mk A90
            clear A90
            replace H := Option.bind_eq_some_iff.mp H
            obtain ⟨⟨t518, t519, t522, t525⟩, A100, H⟩ := H
            replace H : (if t516 = t525 then ((morainelaw4_same.f kj3 t509 t510 t513 t518 t519 t522 t525).bind fun t527 => (morainelaw4_RlpDecodes.j1 kj3 l0 y506 (!t527))) else (morainelaw4_RlpDecodes.j1 kj3 l0 y506 true)) = some r := H
            have A10 := Aside0.mk A100
            clear A100
            have HC11 := Aside0.mk H
            clear H
            go_upto_region 8 with (first | ((with_reducible refine gate_builtin (b := .append) (xs := #[.const (.slice none 0 0), .tmp 20]) rfl ?_); (try (refine gate_guard (by rfl) ?_; dsimp only)); at_builtin; refine Kd.R_append_rows (Kd.int .u8) (w0 := w) w.heap.size rfl (.const (.slice none 0 0)) (.tmp 20) 22 5 (.int .u8 0) 1 rfl Try.underlying22 info5 rfl (by decide) (by omega) (.slice none 0 0) ([] : List Int) l0 _ _ _ (fun _ => True) (fun _ => False) rfl rfl ?aO ?aR (fun _ _ h => h) (fun _ h => h.elim) ?aF ?aB ?aS ?aL ?_; (case aR => repeat (first | exact (Kd.C_below HR0.out HB.out) | (with_reducible refine Kd.C_alloc ?_ _) | (with_reducible refine Kd.C_drewN ?_ _) | (with_reducible refine Kd.C_drew ?_))); (case aB => exact (zw2 HB.out)); (case aF => exact (fun _ _ => trivial)); (case aO => exact ((Kd.R_nil _ _ _ _ (fun _ => True)))); (case aS => exact (below_size (zw2 HB.out))); (case aL => have := LMc8.out; omega); intro v507 w12 ho hb hg hat; rw [← Ny506.out] at ho; have n0_ := Aside0.mk (hb); have n1_ := Aside0.mk (ho); clear HB; have HB := n0_; have HO508 := n1_; clear n0_ n1_; clear ho hb hg hat; obtain ⟨Ao13, co13, eo13⟩ := Kd.R_slice HO508.out; subst eo13) | ((with_reducible refine gate_callee (f := 14) rfl ?_); refine goesL_ (some 24) rfl rfl Try.func14 (by kernel_rfl) rfl #[.slice Ao13 y506.length co13] rfl zw6 ?_; (with_reducible refine (rlp_Decode.calls kj3 _ _ y506 t509 t510 t513 t516 _ ?side1 ?side2 A9.out).mono ?_); (case side1 => exact zw9 HO508.out); (case side2 => exact (Kd.R_reads' HO508.out).2.1); rintro e w14 ⟨v511, v514, rfl, ho0, ho1, hb⟩; refine ⟨_, rfl, ?_⟩; have n0_ := Aside0.mk (Kd.R_elder' (zw1 HO508.out) (Kd.R_base ho0) hb); have n1_ := Aside0.mk (Kd.R_lower (Kd.R_new' ho0 (Kd.R_lt (zw1 HO508.out))) (below_size (zw2 HB.out))); have n2_ := Aside0.mk (Kd.R_lower (Kd.R_new' ho1 (Kd.R_lt (zw1 HO508.out))) (below_size (zw2 HB.out))); have n3_ := Aside0.mk (below_step (zw2 HB.out) hb); clear HO508; clear HB; have HO508 := n0_; have HO512 := n1_; have HO515 := n2_; have HB := n3_; clear n0_ n1_ n2_ n3_; (try clear hb); (try clear hb2); (try clear hk); (try clear hi); (try clear ho0); (try clear ho1)) | ((with_reducible refine gate_dst (N := 4) rfl ?_); (try (refine gate_guard (by rfl) ?_; dsimp only)); refine box_event ?hg (N := 4) ?hd (cs := #[.bool false, .slice none 0 0, .slice none 0 0]) (t := 25) ?hr ?_; (case hd => rfl); (case hg => rfl); (case hr => first | (go_simp; done) | (go_simp; rfl)); intro gb517 hg w15 hbox hb; have n0_ := Aside0.mk (Kd.R_below (zw1 HO508.out) hb); have n1_ := Aside0.mk (Kd.R_below (zw1 HO512.out) hb); have n2_ := Aside0.mk (Kd.R_below (Kd.R_elderB (zw1 HO515.out) gb517 (Nat.le_of_eq hg.symm)) hb); have n3_ := Aside0.mk (below_step (zw2 HB.out) hb); have n4_ := Aside0.mk (hbox); have n5_ := Aside0.mk ((by rw [hg]; exact (below_size (zw2 HB.out)) : w.heap.size ≤ gb517)); have n6_ := Aside0.mk ((by rw [hg]; exact (below_size (zw2 HB.out)) : w.heap.size ≤ gb517)); clear HO508; clear HO512; clear HO515; clear HB; have HO508 := n0_; have HO512 := n1_; have HO515 := n2_; have HB := n3_; have BK517 := n4_; have GW517 := n5_; have GE517 := n6_; clear n0_ n1_ n2_ n3_ n4_ n5_ n6_; clear hb hbox hg; have hcz16_0 : w15.cell? ⟨gb517, 0, none⟩ = some (.bool false) := (blk_cell BK517.out 0).trans rfl; have hcz16_1 : w15.cell? ⟨gb517, 1, none⟩ = some (.slice none 0 0) := (blk_cell BK517.out 1).trans rfl; have hcz16_2 : w15.cell? ⟨gb517, 2, none⟩ = some (.slice none 0 0) := (blk_cell BK517.out 2).trans rfl; have hfz16_0 := blk_frozen BK517.out 0; have hfz16_1 := blk_frozen BK517.out 1; have hfz16_2 := blk_frozen BK517.out 2; obtain ⟨Ao17, co17, eo17⟩ := Kd.R_slice HO512.out; subst eo17; obtain ⟨Ao18, co18, eo18⟩ := Kd.R_slice HO515.out; subst eo18) | ((with_reducible refine gate_callee (f := 15) rfl ?_); refine goesL_ (some 29) rfl rfl Try.func15 (by kernel_rfl) rfl #[.slice A0 l0.length c0] rfl zw6 ?_; (with_reducible refine (moraineref4_Decode.calls kj3 _ _ l0 t518 t519 t522 t525 _ ?side1 ?side2 A10.out).mono ?_); (case side1 => exact Kd.C_below HR0.out (zw3 HB.out GE517.out)); (case side2 => exact HC0.out); rintro e w19 ⟨v520, v523, rfl, ho0, ho1, hb⟩; refine ⟨_, rfl, ?_⟩; have n0_ := Aside0.mk (Kd.R_elder' (by (with_reducible repeat (first | apply Kd.R_alloc | apply Kd.R_drewN | apply Kd.R_drew)); exact (Kd.R_mono (Kd.R_far (p := ⟨gb517, 2, none⟩) (Kd.R_far (p := ⟨gb517, 1, none⟩) (Kd.R_far (p := ⟨gb517, 0, none⟩) (Kd.R_types HO508.out BK517.out (by decide)) (fun _ hk => hk.2) (.bool t509)) (fun _ hk => hk.2) (.slice Ao17 t510.length co17)) (fun _ hk => hk.2) (.slice Ao18 t513.length co18)) (fun _ h_ => h_.1))) (Kd.R_base ho0) hb); have n1_ := Aside0.mk (Kd.R_elder' (by (with_reducible repeat (first | apply Kd.R_alloc | apply Kd.R_drewN | apply Kd.R_drew)); exact (Kd.R_mono (Kd.R_far (p := ⟨gb517, 2, none⟩) (Kd.R_far (p := ⟨gb517, 1, none⟩) (Kd.R_far (p := ⟨gb517, 0, none⟩) (Kd.R_types HO512.out BK517.out (by decide)) (fun _ hk => hk.2) (.bool t509)) (fun _ hk => hk.2) (.slice Ao17 t510.length co17)) (fun _ hk => hk.2) (.slice Ao18 t513.length co18)) (fun _ h_ => h_.1))) (Kd.R_base ho0) hb); have n2_ := Aside0.mk (Kd.R_mono (Kd.R_told (Kd.R_told (Kd.R_old (by (with_reducible repeat (first | apply Kd.R_alloc | apply Kd.R_drewN | apply Kd.R_drew)); exact (Kd.R_mono (Kd.R_far (p := ⟨gb517, 2, none⟩) (Kd.R_far (p := ⟨gb517, 1, none⟩) (Kd.R_far (p := ⟨gb517, 0, none⟩) (Kd.R_mono HO515.out (fun k_ hk => (⟨hk, hk.2⟩ : _ ∧ k_ ≠ gb517))) (fun _ hk => hk.2) (.bool t509)) (fun _ hk => hk.2) (.slice Ao17 t510.length co17)) (fun _ hk => hk.2) (.slice Ao18 t513.length co18)) (fun _ h_ => h_.1))) hb) (Kd.R_base ho0)) (Kd.R_base ho1)) (fun _ h_ => h_.1)); have n3_ := Aside0.mk (Kd.R_lower (Kd.R_new' (Kd.R_new' ho0 (Kd.R_lt (by (with_reducible repeat (first | apply Kd.R_alloc | apply Kd.R_drewN | apply Kd.R_drew)); exact (Kd.R_mono (Kd.R_far (p := ⟨gb517, 2, none⟩) (Kd.R_far (p := ⟨gb517, 1, none⟩) (Kd.R_far (p := ⟨gb517, 0, none⟩) (Kd.R_types HO508.out BK517.out (by decide)) (fun _ hk => hk.2) (.bool t509)) (fun _ hk => hk.2) (.slice Ao17 t510.length co17)) (fun _ hk => hk.2) (.slice Ao18 t513.length co18)) (fun _ h_ => h_.1))))) (Kd.R_lt (by (with_reducible repeat (first | apply Kd.R_alloc | apply Kd.R_drewN | apply Kd.R_drew)); exact (Kd.R_mono (Kd.R_far (p := ⟨gb517, 2, none⟩) (Kd.R_far (p := ⟨gb517, 1, none⟩) (Kd.R_far (p := ⟨gb517, 0, none⟩) (Kd.R_types HO512.out BK517.out (by decide)) (fun _ hk => hk.2) (.bool t509)) (fun _ hk => hk.2) (.slice Ao17 t510.length co17)) (fun _ hk => hk.2) (.slice Ao18 t513.length co18)) (fun _ h_ => h_.1))))) (below_size (zw3 HB.out GE517.out))); have n4_ := Aside0.mk (Kd.R_lower (Kd.R_newB (Kd.R_new' (Kd.R_new' (Kd.R_new' ho1 (Kd.R_lt (by (with_reducible repeat (first | apply Kd.R_alloc | apply Kd.R_drewN | apply Kd.R_drew)); exact (Kd.R_mono (Kd.R_far (p := ⟨gb517, 2, none⟩) (Kd.R_far (p := ⟨gb517, 1, none⟩) (Kd.R_far (p := ⟨gb517, 0, none⟩) (Kd.R_types HO508.out BK517.out (by decide)) (fun _ hk => hk.2) (.bool t509)) (fun _ hk => hk.2) (.slice Ao17 t510.length co17)) (fun _ hk => hk.2) (.slice Ao18 t513.length co18)) (fun _ h_ => h_.1))))) (Kd.R_lt (by (with_reducible repeat (first | apply Kd.R_alloc | apply Kd.R_drewN | apply Kd.R_drew)); exact (Kd.R_mono (Kd.R_far (p := ⟨gb517, 2, none⟩) (Kd.R_far (p := ⟨gb517, 1, none⟩) (Kd.R_far (p := ⟨gb517, 0, none⟩) (Kd.R_types HO512.out BK517.out (by decide)) (fun _ hk => hk.2) (.bool t509)) (fun _ hk => hk.2) (.slice Ao17 t510.length co17)) (fun _ hk => hk.2) (.slice Ao18 t513.length co18)) (fun _ h_ => h_.1))))) (Kd.R_lt (by (with_reducible repeat (first | apply Kd.R_alloc | apply Kd.R_drewN | apply Kd.R_drew)); exact (Kd.R_mono (Kd.R_far (p := ⟨gb517, 2, none⟩) (Kd.R_far (p := ⟨gb517, 1, none⟩) (Kd.R_far (p := ⟨gb517, 0, none⟩) (Kd.R_mono HO515.out (fun k_ hk => (⟨hk, hk.2⟩ : _ ∧ k_ ≠ gb517))) (fun _ hk => hk.2) (.bool t509)) (fun _ hk => hk.2) (.slice Ao17 t510.length co17)) (fun _ hk => hk.2) (.slice Ao18 t513.length co18)) (fun _ h_ => h_.1))))) (g := gb517) (o := .cells #[.bool t509, .slice Ao17 t510.length co17, .slice Ao18 t513.length co18] 25 (0, 0)) (by (with_reducible repeat (first | refine blk_drewN ?_ _ | refine blk_drew ?_ | refine blk_alloc ?_ _)); refine blk_put (cs := #[.bool t509, .slice Ao17 t510.length co17, .slice none 0 0]) ?_ 2 _ rfl; (with_reducible repeat (first | refine blk_drewN ?_ _ | refine blk_drew ?_ | refine blk_alloc ?_ _)); refine blk_put (cs := #[.bool t509, .slice none 0 0, .slice none 0 0]) ?_ 1 _ rfl; (with_reducible repeat (first | refine blk_drewN ?_ _ | refine blk_drew ?_ | refine blk_alloc ?_ _)); refine blk_put (cs := #[.bool false, .slice none 0 0, .slice none 0 0]) ?_ 0 _ rfl; (with_reducible repeat (first | refine blk_drewN ?_ _ | refine blk_drew ?_ | refine blk_alloc ?_ _)); exact BK517.out)) (below_size (zw3 HB.out GE517.out))); have n5_ := Aside0.mk (blk_below (g := gb517) (o := .cells #[.bool t509, .slice Ao17 t510.length co17, .slice Ao18 t513.length co18] 25 (0, 0)) (by (with_reducible repeat (first | refine blk_drewN ?_ _ | refine blk_drew ?_ | refine blk_alloc ?_ _)); refine blk_put (cs := #[.bool t509, .slice Ao17 t510.length co17, .slice none 0 0]) ?_ 2 _ rfl; (with_reducible repeat (first | refine blk_drewN ?_ _ | refine blk_drew ?_ | refine blk_alloc ?_ _)); refine blk_put (cs := #[.bool t509, .slice none 0 0, .slice none 0 0]) ?_ 1 _ rfl; (with_reducible repeat (first | refine blk_drewN ?_ _ | refine blk_drew ?_ | refine blk_alloc ?_ _)); refine blk_put (cs := #[.bool false, .slice none 0 0, .slice none 0 0]) ?_ 0 _ rfl; (with_reducible repeat (first | refine blk_drewN ?_ _ | refine blk_drew ?_ | refine blk_alloc ?_ _)); exact BK517.out) hb); have n6_ := Aside0.mk (below_step (zw3 HB.out GE517.out) hb); clear HO508; clear HO512; clear HO515; clear BK517; clear HB; have HO508 := n0_; have HO512 := n1_; have HO515 := n2_; have HO521 := n3_; have HO524 := n4_; have BK517 := n5_; have HB := n6_; clear n0_ n1_ n2_ n3_ n4_ n5_ n6_; (try clear hb); (try clear hb2); (try clear hk); (try clear hi); (try clear ho0); (try clear ho1)) | ((with_reducible refine gate_dst (N := 6) rfl ?_); (try (refine gate_guard (by rfl) ?_; dsimp only)); refine box_event ?hg (N := 6) ?hd (cs := #[.bool false, .slice none 0 0, .slice none 0 0]) (t := 25) ?hr ?_; (case hd => rfl); (case hg => rfl); (case hr => first | (go_simp; done) | (go_simp; rfl)); intro gb526 hg w20 hbox hb; have n0_ := Aside0.mk (Kd.R_below (zw1 HO508.out) hb); have n1_ := Aside0.mk (Kd.R_below (zw1 HO512.out) hb); have n2_ := Aside0.mk (Kd.R_below (Kd.R_elderB (zw1 HO515.out) gb526 (Nat.le_of_eq hg.symm)) hb); have n3_ := Aside0.mk (Kd.R_below (zw1 HO521.out) hb); have n4_ := Aside0.mk (Kd.R_below (Kd.R_elderB (zw1 HO524.out) gb526 (Nat.le_of_eq hg.symm)) hb); have n5_ := Aside0.mk (blk_below (g := gb517) (o := .cells #[.bool t509, .slice Ao17 t510.length co17, .slice Ao18 t513.length co18] 25 (0, 0)) (zw0 BK517.out) hb); have n6_ := Aside0.mk (below_step (zw3 HB.out GE517.out) hb); have n7_ := Aside0.mk (hbox); have n8_ := Aside0.mk ((by rw [hg]; exact (below_size (zw3 HB.out GE517.out)) : w.heap.size ≤ gb526)); have n9_ := Aside0.mk ((by rw [hg]; exact (below_size (zw3 HB.out GE517.out)) : w.heap.size ≤ gb526)); have n10_ := Aside0.mk ((by rw [hg]; exact Nat.ne_of_lt (blk_lt (g := gb517) (o := .cells #[.bool t509, .slice Ao17 t510.length co17, .slice Ao18 t513.length co18] 25 (0, 0)) (zw0 BK517.out)) : gb517 ≠ gb526)); have n11_ := Aside0.mk ((by rw [hg]; exact Nat.ne_of_gt (blk_lt (g := gb517) (o := .cells #[.bool t509, .slice Ao17 t510.length co17, .slice Ao18 t513.length co18] 25 (0, 0)) (zw0 BK517.out)) : gb526 ≠ gb517)); clear HO508; clear HO512; clear HO515; clear HO521; clear HO524; clear BK517; clear HB; have HO508 := n0_; have HO512 := n1_; have HO515 := n2_; have HO521 := n3_; have HO524 := n4_; have BK517 := n5_; have HB := n6_; have BK526 := n7_; have GW526 := n8_; have GE526 := n9_; have NB517_526 := n10_; have NB526_517 := n11_; clear n0_ n1_ n2_ n3_ n4_ n5_ n6_ n7_ n8_ n9_ n10_ n11_; clear hb hbox hg; have hnb21 := NB526_517.out; have hnc21 := NB517_526.out; have hcz22_0 : w20.cell? ⟨gb526, 0, none⟩ = some (.bool false) := (blk_cell BK526.out 0).trans rfl; have hcz22_1 : w20.cell? ⟨gb526, 1, none⟩ = some (.slice none 0 0) := (blk_cell BK526.out 1).trans rfl; have hcz22_2 : w20.cell? ⟨gb526, 2, none⟩ = some (.slice none 0 0) := (blk_cell BK526.out 2).trans rfl; have hfz22_0 := blk_frozen BK526.out 0; have hfz22_1 := blk_frozen BK526.out 1; have hfz22_2 := blk_frozen BK526.out 2; obtain ⟨Ao23, co23, eo23⟩ := Kd.R_slice HO521.out; subst eo23; obtain ⟨Ao24, co24, eo24⟩ := Kd.R_slice HO524.out; subst eo24))
            (try simp only [Act.put, List.setIfInBounds_toArray, List.set_cons_zero, List.set_cons_succ])
            go_cut [41] (fun v41 wc => ∃ (kq : Nat) (x41_10 : Bool), v41 = .bool x41_10 ∧ Aside0 (morainelaw4_RlpDecodes.j1 kq l0 y506 x41_10 = some r) ∧ Aside0 (kq ≤ kj3) ∧ Aside0 (Kd.R (Kd.int .u8) 5 wc w.heap.size (fun k_ => some k_ ≠ ((.slice Ao17 t510.length co17) : Value).ownBlock ∧ some k_ ≠ ((.slice Ao23 t519.length co23) : Value).ownBlock) (.slice Ao13 y506.length co13) y506) ∧ Aside0 (Kd.R (Kd.int .u8) 5 wc w.heap.size (fun k_ => some k_ ≠ ((.slice Ao13 y506.length co13) : Value).ownBlock ∧ some k_ ≠ ((.slice Ao23 t519.length co23) : Value).ownBlock) (.slice Ao17 t510.length co17) t510) ∧ Aside0 (Kd.R k25 25 wc w.heap.size (fun k_ => some k_ ≠ ((.slice Ao13 y506.length co13) : Value).ownBlock ∧ some k_ ≠ ((.slice Ao17 t510.length co17) : Value).ownBlock ∧ some k_ ≠ ((.slice Ao23 t519.length co23) : Value).ownBlock ∧ some k_ ≠ ((.slice Ao24 t522.length co24) : Value).ownBlock ∧ k_ ≠ gb517 ∧ k_ ≠ gb526) (.slice Ao18 t513.length co18) t513) ∧ Aside0 (Kd.R (Kd.int .u8) 5 wc w.heap.size (fun k_ => some k_ ≠ ((.slice Ao13 y506.length co13) : Value).ownBlock ∧ some k_ ≠ ((.slice Ao17 t510.length co17) : Value).ownBlock) (.slice Ao23 t519.length co23) t519) ∧ Aside0 (Kd.R k25 25 wc w.heap.size (fun k_ => some k_ ≠ ((.slice Ao13 y506.length co13) : Value).ownBlock ∧ some k_ ≠ ((.slice Ao17 t510.length co17) : Value).ownBlock ∧ some k_ ≠ ((.slice Ao18 t513.length co18) : Value).ownBlock ∧ some k_ ≠ ((.slice Ao23 t519.length co23) : Value).ownBlock ∧ k_ ≠ gb517 ∧ k_ ≠ gb526) (.slice Ao24 t522.length co24) t522) ∧ Aside0 (wc.heap[gb517]? = some (.cells #[.bool t509, (.slice Ao17 t510.length co17), (.slice Ao18 t513.length co18)] 25 (0, 0))) ∧ Aside0 (wc.heap[gb526]? = some (.cells #[.bool t518, (.slice Ao23 t519.length co23), (.slice Ao24 t522.length co24)] 25 (0, 0))) ∧ Aside0 (Below w.heap.size w wc))
            case first =>
              have H := HC11.out
              clear HC11
              by_cases c25 : t516 = t525
              · rw [if_pos c25] at H
                have c25b0 : (t516 == t525) = true := beq_iff_eq.mpr c25
                have c25b1 : (t516 != t525) = false := bne_eq_false_iff_eq.mpr c25
                clear c25
                (first | rw [c25b0] | (simp only [i64_w, i32_w]; rw [c25b0]) | skip)
                replace H := Option.bind_eq_some_iff.mp H
                obtain ⟨t527, A260, H⟩ := H
                replace H : (morainelaw4_RlpDecodes.j1 kj3 l0 y506 (!t527)) = some r := H
                have A26 := Aside0.mk A260
                clear A260
                have H' := Aside0.mk H
                clear H
                have hnb27 := NB517_526.out
                have hnc27 := NB526_517.out
                have hcz28_0 : w20.cell? ⟨gb517, 0, none⟩ = some (.bool t509) := (blk_cell BK517.out 0).trans rfl
                have hcz28_1 : w20.cell? ⟨gb517, 1, none⟩ = some (.slice Ao17 t510.length co17) := (blk_cell BK517.out 1).trans rfl
                have hcz28_2 : w20.cell? ⟨gb517, 2, none⟩ = some (.slice Ao18 t513.length co18) := (blk_cell BK517.out 2).trans rfl
                have hfz28_0 := blk_frozen BK517.out 0
                have hfz28_1 := blk_frozen BK517.out 1
                have hfz28_2 := blk_frozen BK517.out 2
                have hcz29_0 : w20.cell? ⟨gb526, 0, none⟩ = some (.bool false) := (blk_cell BK526.out 0).trans rfl
                have hcz29_1 : w20.cell? ⟨gb526, 1, none⟩ = some (.slice none 0 0) := (blk_cell BK526.out 1).trans rfl
                have hcz29_2 : w20.cell? ⟨gb526, 2, none⟩ = some (.slice none 0 0) := (blk_cell BK526.out 2).trans rfl
                have hfz29_0 := blk_frozen BK526.out 0
                have hfz29_1 := blk_frozen BK526.out 1
                have hfz29_2 := blk_frozen BK526.out 2
                go_wp2_with (first | (go_at_call 16; (with_reducible refine (morainelaw4_same.calls kj3 t509 _ _ t510 _ _ t513 t518 _ _ t519 _ _ t522 t525 t527 _ ?side1 ?side2 ?side3 ?side4 ?side5 ?side6 ?side7 ?side8 A26.out).mono ?_); (case side1 => refine (Kd.R_reads' (e := 5) (base := w.heap.size) (ok := fun k_ => ((True ∧ some k_ ≠ (.slice Ao13 y506.length co13 : Value).ownBlock) ∧ some k_ ≠ (.slice Ao23 t519.length co23 : Value).ownBlock)) (n := t510.length) (c := co17) ?_).2.2; exact (by (with_reducible repeat (first | apply Kd.R_alloc | apply Kd.R_drewN | apply Kd.R_drew)); exact (Kd.R_mono (Kd.R_far (p := ⟨gb526, 2, none⟩) (Kd.R_far (p := ⟨gb526, 1, none⟩) (Kd.R_far (p := ⟨gb526, 0, none⟩) (Kd.R_types HO512.out BK526.out (by decide)) (fun _ hk => hk.2) (.bool t518)) (fun _ hk => hk.2) (.slice Ao23 t519.length co23)) (fun _ hk => hk.2) (.slice Ao24 t522.length co24)) (fun _ h_ => h_.1)))); (case side2 => exact (Kd.R_reads' HO512.out).2.1); (case side3 => refine (Kd.R_reads' (e := 25) (base := w.heap.size) (ok := fun k_ => (((((some k_ ≠ (.slice Ao17 t510.length co17 : Value).ownBlock ∧ some k_ ≠ (.slice Ao13 y506.length co13 : Value).ownBlock) ∧ k_ ≠ gb517) ∧ some k_ ≠ (.slice Ao23 t519.length co23 : Value).ownBlock) ∧ some k_ ≠ (.slice Ao24 t522.length co24 : Value).ownBlock) ∧ k_ ≠ gb526)) (n := t513.length) (c := co18) ?_).2.2; exact (by (with_reducible repeat (first | apply Kd.R_alloc | apply Kd.R_drewN | apply Kd.R_drew)); exact (Kd.R_mono (Kd.R_far (p := ⟨gb526, 2, none⟩) (Kd.R_far (p := ⟨gb526, 1, none⟩) (Kd.R_far (p := ⟨gb526, 0, none⟩) (Kd.R_mono HO515.out (fun k_ hk => (⟨hk, hk.2⟩ : _ ∧ k_ ≠ gb526))) (fun _ hk => hk.2) (.bool t518)) (fun _ hk => hk.2) (.slice Ao23 t519.length co23)) (fun _ hk => hk.2) (.slice Ao24 t522.length co24)) (fun _ h_ => h_.1)))); (case side4 => exact (Kd.R_reads' HO515.out).2.1); (case side5 => refine (Kd.R_reads' (e := 5) (base := w.heap.size) (ok := fun k_ => ((True ∧ some k_ ≠ (.slice Ao13 y506.length co13 : Value).ownBlock) ∧ some k_ ≠ (.slice Ao17 t510.length co17 : Value).ownBlock)) (n := t519.length) (c := co23) ?_).2.2; exact (by (with_reducible repeat (first | apply Kd.R_alloc | apply Kd.R_drewN | apply Kd.R_drew)); exact (Kd.R_mono (Kd.R_far (p := ⟨gb526, 2, none⟩) (Kd.R_far (p := ⟨gb526, 1, none⟩) (Kd.R_far (p := ⟨gb526, 0, none⟩) (Kd.R_types HO521.out BK526.out (by decide)) (fun _ hk => hk.2) (.bool t518)) (fun _ hk => hk.2) (.slice Ao23 t519.length co23)) (fun _ hk => hk.2) (.slice Ao24 t522.length co24)) (fun _ h_ => h_.1)))); (case side6 => exact (Kd.R_reads' HO521.out).2.1); (case side7 => refine (Kd.R_reads' (e := 25) (base := w.heap.size) (ok := fun k_ => (((((some k_ ≠ (.slice Ao23 t519.length co23 : Value).ownBlock ∧ some k_ ≠ (.slice Ao13 y506.length co13 : Value).ownBlock) ∧ some k_ ≠ (.slice Ao17 t510.length co17 : Value).ownBlock) ∧ some k_ ≠ (.slice Ao18 t513.length co18 : Value).ownBlock) ∧ k_ ≠ gb517) ∧ k_ ≠ gb526)) (n := t522.length) (c := co24) ?_).2.2; exact (by (with_reducible repeat (first | apply Kd.R_alloc | apply Kd.R_drewN | apply Kd.R_drew)); exact (Kd.R_mono (Kd.R_far (p := ⟨gb526, 2, none⟩) (Kd.R_far (p := ⟨gb526, 1, none⟩) (Kd.R_far (p := ⟨gb526, 0, none⟩) (Kd.R_mono HO524.out (fun k_ hk => (⟨hk, hk.2⟩ : _ ∧ k_ ≠ gb526))) (fun _ hk => hk.2) (.bool t518)) (fun _ hk => hk.2) (.slice Ao23 t519.length co23)) (fun _ hk => hk.2) (.slice Ao24 t522.length co24)) (fun _ h_ => h_.1)))); (case side8 => exact (Kd.R_reads' HO524.out).2.1); rintro e w30 ⟨rfl, hb⟩; have n0_ := Aside0.mk (Kd.R_below (by (with_reducible repeat (first | apply Kd.R_alloc | apply Kd.R_drewN | apply Kd.R_drew)); exact (Kd.R_mono (Kd.R_far (p := ⟨gb526, 2, none⟩) (Kd.R_far (p := ⟨gb526, 1, none⟩) (Kd.R_far (p := ⟨gb526, 0, none⟩) (Kd.R_types HO508.out BK526.out (by decide)) (fun _ hk => hk.2) (.bool t518)) (fun _ hk => hk.2) (.slice Ao23 t519.length co23)) (fun _ hk => hk.2) (.slice Ao24 t522.length co24)) (fun _ h_ => h_.1))) hb); have n1_ := Aside0.mk (Kd.R_below (by (with_reducible repeat (first | apply Kd.R_alloc | apply Kd.R_drewN | apply Kd.R_drew)); exact (Kd.R_mono (Kd.R_far (p := ⟨gb526, 2, none⟩) (Kd.R_far (p := ⟨gb526, 1, none⟩) (Kd.R_far (p := ⟨gb526, 0, none⟩) (Kd.R_types HO512.out BK526.out (by decide)) (fun _ hk => hk.2) (.bool t518)) (fun _ hk => hk.2) (.slice Ao23 t519.length co23)) (fun _ hk => hk.2) (.slice Ao24 t522.length co24)) (fun _ h_ => h_.1))) hb); have n2_ := Aside0.mk (Kd.R_below (by (with_reducible repeat (first | apply Kd.R_alloc | apply Kd.R_drewN | apply Kd.R_drew)); exact (Kd.R_mono (Kd.R_far (p := ⟨gb526, 2, none⟩) (Kd.R_far (p := ⟨gb526, 1, none⟩) (Kd.R_far (p := ⟨gb526, 0, none⟩) (Kd.R_mono HO515.out (fun k_ hk => (⟨hk, hk.2⟩ : _ ∧ k_ ≠ gb526))) (fun _ hk => hk.2) (.bool t518)) (fun _ hk => hk.2) (.slice Ao23 t519.length co23)) (fun _ hk => hk.2) (.slice Ao24 t522.length co24)) (fun _ h_ => h_.1))) hb); have n3_ := Aside0.mk (Kd.R_below (by (with_reducible repeat (first | apply Kd.R_alloc | apply Kd.R_drewN | apply Kd.R_drew)); exact (Kd.R_mono (Kd.R_far (p := ⟨gb526, 2, none⟩) (Kd.R_far (p := ⟨gb526, 1, none⟩) (Kd.R_far (p := ⟨gb526, 0, none⟩) (Kd.R_types HO521.out BK526.out (by decide)) (fun _ hk => hk.2) (.bool t518)) (fun _ hk => hk.2) (.slice Ao23 t519.length co23)) (fun _ hk => hk.2) (.slice Ao24 t522.length co24)) (fun _ h_ => h_.1))) hb); have n4_ := Aside0.mk (Kd.R_below (by (with_reducible repeat (first | apply Kd.R_alloc | apply Kd.R_drewN | apply Kd.R_drew)); exact (Kd.R_mono (Kd.R_far (p := ⟨gb526, 2, none⟩) (Kd.R_far (p := ⟨gb526, 1, none⟩) (Kd.R_far (p := ⟨gb526, 0, none⟩) (Kd.R_mono HO524.out (fun k_ hk => (⟨hk, hk.2⟩ : _ ∧ k_ ≠ gb526))) (fun _ hk => hk.2) (.bool t518)) (fun _ hk => hk.2) (.slice Ao23 t519.length co23)) (fun _ hk => hk.2) (.slice Ao24 t522.length co24)) (fun _ h_ => h_.1))) hb); have n5_ := Aside0.mk (blk_below (g := gb517) (o := .cells #[.bool t509, .slice Ao17 t510.length co17, .slice Ao18 t513.length co18] 25 (0, 0)) (zw11 NB517_526.out BK517.out) hb); have n6_ := Aside0.mk (blk_below (g := gb526) (o := .cells #[.bool t518, .slice Ao23 t519.length co23, .slice Ao24 t522.length co24] 25 (0, 0)) (by (with_reducible repeat (first | refine blk_drewN ?_ _ | refine blk_drew ?_ | refine blk_alloc ?_ _)); refine blk_put (cs := #[.bool t518, .slice Ao23 t519.length co23, .slice none 0 0]) ?_ 2 _ rfl; (with_reducible repeat (first | refine blk_drewN ?_ _ | refine blk_drew ?_ | refine blk_alloc ?_ _)); refine blk_put (cs := #[.bool t518, .slice none 0 0, .slice none 0 0]) ?_ 1 _ rfl; (with_reducible repeat (first | refine blk_drewN ?_ _ | refine blk_drew ?_ | refine blk_alloc ?_ _)); refine blk_put (cs := #[.bool false, .slice none 0 0, .slice none 0 0]) ?_ 0 _ rfl; (with_reducible repeat (first | refine blk_drewN ?_ _ | refine blk_drew ?_ | refine blk_alloc ?_ _)); exact BK526.out) hb); have n7_ := Aside0.mk (below_step (zw5 HB.out GE517.out GE526.out) hb); clear HO508; clear HO512; clear HO515; clear HO521; clear HO524; clear BK517; clear BK526; clear HB; have HO508 := n0_; have HO512 := n1_; have HO515 := n2_; have HO521 := n3_; have HO524 := n4_; have BK517 := n5_; have BK526 := n6_; have HB := n7_; clear n0_ n1_ n2_ n3_ n4_ n5_ n6_ n7_; (try clear hb); (try clear hb2); (try clear hk); (try clear hi)))
                go_meet
                case rel => exact ⟨_, (!t527), zw7, H', ⟨by have := HJ3.out; first | omega | exact Nat.le_refl _⟩, ⟨by (with_reducible repeat (first | apply Kd.R_alloc | apply Kd.R_drewN | apply Kd.R_drew)); exact Kd.R_mono HO508.out (fun _ hk => ⟨hk.1.2, hk.2⟩)⟩, ⟨by (with_reducible repeat (first | apply Kd.R_alloc | apply Kd.R_drewN | apply Kd.R_drew)); exact Kd.R_mono HO512.out (fun _ hk => ⟨hk.1.2, hk.2⟩)⟩, ⟨by (with_reducible repeat (first | apply Kd.R_alloc | apply Kd.R_drewN | apply Kd.R_drew)); exact Kd.R_mono HO515.out (fun _ hk => ⟨hk.1.1.1.1.2, ⟨hk.1.1.1.1.1, ⟨hk.1.1.2, ⟨hk.1.2, ⟨hk.1.1.1.2, hk.2⟩⟩⟩⟩⟩)⟩, ⟨by (with_reducible repeat (first | apply Kd.R_alloc | apply Kd.R_drewN | apply Kd.R_drew)); exact Kd.R_mono HO521.out (fun _ hk => ⟨hk.1.2, hk.2⟩)⟩, ⟨by (with_reducible repeat (first | apply Kd.R_alloc | apply Kd.R_drewN | apply Kd.R_drew)); exact Kd.R_mono HO524.out (fun _ hk => ⟨hk.1.1.1.1.2, ⟨hk.1.1.1.2, ⟨hk.1.1.2, ⟨hk.1.1.1.1.1, ⟨hk.1.2, hk.2⟩⟩⟩⟩⟩)⟩, ⟨by (with_reducible repeat (first | refine blk_drewN ?_ _ | refine blk_drew ?_ | refine blk_alloc ?_ _)); exact BK517.out⟩, ⟨by (with_reducible repeat (first | refine blk_drewN ?_ _ | refine blk_drew ?_ | refine blk_alloc ?_ _)); exact BK526.out⟩, ⟨by repeat (first | (with_reducible first | exact HB.out | apply below_alloc | apply pw_below_drewN | apply below_drew1 | refine below_set ?_ GE517.out | refine below_set ?_ GE526.out) | exact HB.out)⟩⟩
              · rw [if_neg c25] at H
                have c25b0 : (t516 == t525) = false := beq_eq_false_iff_ne.mpr c25
                have c25b1 : (t516 != t525) = true := bne_iff_ne.mpr c25
                (first | rw [c25b0] | (simp only [i64_w, i32_w]; rw [c25b0]) | skip)
                have H' := Aside0.mk H
                clear H
                go_wp2
                go_meet
                case rel => exact ⟨_, (true), zw7, H', ⟨by have := HJ3.out; first | omega | exact Nat.le_refl _⟩, ⟨by (with_reducible repeat (first | apply Kd.R_alloc | apply Kd.R_drewN | apply Kd.R_drew)); exact Kd.R_mono (Kd.R_far (p := ⟨gb526, 2, none⟩) (Kd.R_far (p := ⟨gb526, 1, none⟩) (Kd.R_far (p := ⟨gb526, 0, none⟩) (Kd.R_types HO508.out BK526.out (by decide)) (fun _ hk => hk.2) (.bool t518)) (fun _ hk => hk.2) (.slice Ao23 t519.length co23)) (fun _ hk => hk.2) (.slice Ao24 t522.length co24)) (fun _ hk => ⟨hk.1.1.2, hk.1.2⟩)⟩, ⟨by (with_reducible repeat (first | apply Kd.R_alloc | apply Kd.R_drewN | apply Kd.R_drew)); exact Kd.R_mono (Kd.R_far (p := ⟨gb526, 2, none⟩) (Kd.R_far (p := ⟨gb526, 1, none⟩) (Kd.R_far (p := ⟨gb526, 0, none⟩) (Kd.R_types HO512.out BK526.out (by decide)) (fun _ hk => hk.2) (.bool t518)) (fun _ hk => hk.2) (.slice Ao23 t519.length co23)) (fun _ hk => hk.2) (.slice Ao24 t522.length co24)) (fun _ hk => ⟨hk.1.1.2, hk.1.2⟩)⟩, ⟨by (with_reducible repeat (first | apply Kd.R_alloc | apply Kd.R_drewN | apply Kd.R_drew)); exact Kd.R_mono (Kd.R_far (p := ⟨gb526, 2, none⟩) (Kd.R_far (p := ⟨gb526, 1, none⟩) (Kd.R_far (p := ⟨gb526, 0, none⟩) (Kd.R_mono HO515.out (fun k_ hk => (⟨hk, hk.2⟩ : _ ∧ k_ ≠ gb526))) (fun _ hk => hk.2) (.bool t518)) (fun _ hk => hk.2) (.slice Ao23 t519.length co23)) (fun _ hk => hk.2) (.slice Ao24 t522.length co24)) (fun _ hk => ⟨hk.1.1.1.1.1.2, ⟨hk.1.1.1.1.1.1, ⟨hk.1.1.1.2, ⟨hk.1.1.2, ⟨hk.1.1.1.1.2, hk.1.2⟩⟩⟩⟩⟩)⟩, ⟨by (with_reducible repeat (first | apply Kd.R_alloc | apply Kd.R_drewN | apply Kd.R_drew)); exact Kd.R_mono (Kd.R_far (p := ⟨gb526, 2, none⟩) (Kd.R_far (p := ⟨gb526, 1, none⟩) (Kd.R_far (p := ⟨gb526, 0, none⟩) (Kd.R_types HO521.out BK526.out (by decide)) (fun _ hk => hk.2) (.bool t518)) (fun _ hk => hk.2) (.slice Ao23 t519.length co23)) (fun _ hk => hk.2) (.slice Ao24 t522.length co24)) (fun _ hk => ⟨hk.1.1.2, hk.1.2⟩)⟩, ⟨by (with_reducible repeat (first | apply Kd.R_alloc | apply Kd.R_drewN | apply Kd.R_drew)); exact Kd.R_mono (Kd.R_far (p := ⟨gb526, 2, none⟩) (Kd.R_far (p := ⟨gb526, 1, none⟩) (Kd.R_far (p := ⟨gb526, 0, none⟩) (Kd.R_mono HO524.out (fun k_ hk => (⟨hk, hk.2⟩ : _ ∧ k_ ≠ gb526))) (fun _ hk => hk.2) (.bool t518)) (fun _ hk => hk.2) (.slice Ao23 t519.length co23)) (fun _ hk => hk.2) (.slice Ao24 t522.length co24)) (fun _ hk => ⟨hk.1.1.1.1.1.2, ⟨hk.1.1.1.1.2, ⟨hk.1.1.1.2, ⟨hk.1.1.1.1.1.1, ⟨hk.1.1.2, hk.1.2⟩⟩⟩⟩⟩)⟩, ⟨by (with_reducible repeat (first | refine blk_drewN ?_ _ | refine blk_drew ?_ | refine blk_alloc ?_ _)); refine blk_far ?_ NB517_526.out _; (with_reducible repeat (first | refine blk_drewN ?_ _ | refine blk_drew ?_ | refine blk_alloc ?_ _)); refine blk_far ?_ NB517_526.out _; (with_reducible repeat (first | refine blk_drewN ?_ _ | refine blk_drew ?_ | refine blk_alloc ?_ _)); refine blk_far ?_ NB517_526.out _; (with_reducible repeat (first | refine blk_drewN ?_ _ | refine blk_drew ?_ | refine blk_alloc ?_ _)); exact BK517.out⟩, ⟨by (with_reducible repeat (first | refine blk_drewN ?_ _ | refine blk_drew ?_ | refine blk_alloc ?_ _)); refine blk_put (cs := #[.bool t518, .slice Ao23 t519.length co23, .slice none 0 0]) ?_ 2 _ rfl; (with_reducible repeat (first | refine blk_drewN ?_ _ | refine blk_drew ?_ | refine blk_alloc ?_ _)); refine blk_put (cs := #[.bool t518, .slice none 0 0, .slice none 0 0]) ?_ 1 _ rfl; (with_reducible repeat (first | refine blk_drewN ?_ _ | refine blk_drew ?_ | refine blk_alloc ?_ _)); refine blk_put (cs := #[.bool false, .slice none 0 0, .slice none 0 0]) ?_ 0 _ rfl; (with_reducible repeat (first | refine blk_drewN ?_ _ | refine blk_drew ?_ | refine blk_alloc ?_ _)); exact BK526.out⟩, ⟨by repeat (first | (with_reducible first | exact HB.out | apply below_alloc | apply pw_below_drewN | apply below_drew1 | refine below_set ?_ GE517.out | refine below_set ?_ GE526.out) | exact HB.out)⟩⟩
            case rest =>
              clear HC11
              try clear c1
              try clear c2
              try clear p2
              try clear c3
              try clear c4
              try clear c6
              try clear c6b0
              try clear c6b1
              try clear c7
              try clear c8
              try clear c9
              try clear c14
              try clear c15
              try clear c21
              try clear c25
              try clear c25b0
              try clear c25b1
              try clear c27
              try clear hcz16_0
              try clear hcz16_1
              try clear hcz16_2
              try clear hcz22_0
              try clear hcz22_1
              try clear hcz22_2
              try clear hcz28_0
              try clear hcz28_1
              try clear hcz28_2
              try clear hcz29_0
              try clear hcz29_1
              try clear hcz29_2
              try clear hfz16_0
              try clear hfz16_1
              try clear hfz16_2
              try clear hfz22_0
              try clear hfz22_1
              try clear hfz22_2
              try clear hfz28_0
              try clear hfz28_1
              try clear hfz28_2
              try clear hfz29_0
              try clear hfz29_1
              try clear hfz29_2
              try clear p2
              obtain ⟨kq, x41_10, rfl, HA, HJ10, HO_3, HO_518001, HO_518002, HO_527001, HO_527002, BK517, BK526, HB⟩ := hcut
              cases kq with
              | zero => exact absurd HA.out (by simp [morainelaw4_RlpDecodes.j1])
              | succ kj10 =>
                have H := HA.out
                clear HA
                simp only [morainelaw4_RlpDecodes.j1] at H
                by_cases c31 : x41_10 = true
                · subst c31
                  have H1 : (some false) = some r := by rw [if_pos rfl] at H; exact H
                  clear H
                  have H := H1
                  clear H1
                  obtain rfl := Option.some.inj H
                  go_wp2
                  go_ret
                  exact ⟨by first | rfl | (simp [errW_none, errW_some] <;> rfl) | (simp [*, errW_none, errW_some] <;> rfl), by repeat (first | (with_reducible first | exact HB.out | apply below_alloc | apply pw_below_drewN | apply below_drew1 | refine below_set ?_ GE517.out | refine below_set ?_ GE526.out) | exact HB.out)⟩
                · replace c31 := Bool.eq_false_iff.mpr c31
                  subst c31
                  have H1 : ((rlp_First.f kj10 y506).bind fun bt528 => ((moraineref4_First.f kj10 l0).bind fun bt537 => (if bt528.2.2.2.2 = bt537.2.2.2.2 then (if bt528.2.2.2.1 = bt537.2.2.2.1 then ((morainelaw4_same.f kj10 bt528.1 bt528.2.1 bt528.2.2.1 bt537.1 bt537.2.1 bt537.2.2.1 bt537.2.2.2.2).bind fun t546 => (if t546 = true then ((morainehelp_Bytes.f y506 l0).bind fun t547 => (morainelaw4_RlpDecodes.j2 kj10 y506 bt537.2.2.2.2 (!t547) bt528.1 bt528.2.1 bt528.2.2.1 bt537.1 bt537.2.1 bt537.2.2.1)) else (morainelaw4_RlpDecodes.j2 kj10 y506 bt537.2.2.2.2 true bt528.1 bt528.2.1 bt528.2.2.1 bt537.1 bt537.2.1 bt537.2.2.1))) else (morainelaw4_RlpDecodes.j2 kj10 y506 bt537.2.2.2.2 true bt528.1 bt528.2.1 bt528.2.2.1 bt537.1 bt537.2.1 bt537.2.2.1)) else (morainelaw4_RlpDecodes.j2 kj10 y506 bt537.2.2.2.2 true bt528.1 bt528.2.1 bt528.2.2.1 bt537.1 bt537.2.1 bt537.2.2.1)))) = some r := by rw [if_neg (show ¬ (false = true) by decide)] at H; exact H
                  clear H
                  have H := H1
                  clear H1
                  replace H := Option.bind_eq_some_iff.mp H
                  obtain ⟨⟨t528, t529, t532, t535, t536⟩, A320, H⟩ := H
                  replace H : ((moraineref4_First.f kj10 l0).bind fun bt537 => (if t536 = bt537.2.2.2.2 then (if t535 = bt537.2.2.2.1 then ((morainelaw4_same.f kj10 t528 t529 t532 bt537.1 bt537.2.1 bt537.2.2.1 bt537.2.2.2.2).bind fun t546 => (if t546 = true then ((morainehelp_Bytes.f y506 l0).bind fun t547 => (morainelaw4_RlpDecodes.j2 kj10 y506 bt537.2.2.2.2 (!t547) t528 t529 t532 bt537.1 bt537.2.1 bt537.2.2.1)) else (morainelaw4_RlpDecodes.j2 kj10 y506 bt537.2.2.2.2 true t528 t529 t532 bt537.1 bt537.2.1 bt537.2.2.1))) else (morainelaw4_RlpDecodes.j2 kj10 y506 bt537.2.2.2.2 true t528 t529 t532 bt537.1 bt537.2.1 bt537.2.2.1)) else (morainelaw4_RlpDecodes.j2 kj10 y506 bt537.2.2.2.2 true t528 t529 t532 bt537.1 bt537.2.1 bt537.2.2.1))) = some r := H
                  have A32 := Aside0.mk A320
                  clear A320
                  replace H := Option.bind_eq_some_iff.mp H
                  obtain ⟨⟨t537, t538, t541, t544, t545⟩, A330, H⟩ := H
                  replace H : (if t536 = t545 then (if t535 = t544 then ((morainelaw4_same.f kj10 t528 t529 t532 t537 t538 t541 t545).bind fun t546 => (if t546 = true then ((morainehelp_Bytes.f y506 l0).bind fun t547 => (morainelaw4_RlpDecodes.j2 kj10 y506 t545 (!t547) t528 t529 t532 t537 t538 t541)) else (morainelaw4_RlpDecodes.j2 kj10 y506 t545 true t528 t529 t532 t537 t538 t541))) else (morainelaw4_RlpDecodes.j2 kj10 y506 t545 true t528 t529 t532 t537 t538 t541)) else (morainelaw4_RlpDecodes.j2 kj10 y506 t545 true t528 t529 t532 t537 t538 t541)) = some r := H
                  have A33 := Aside0.mk A330
                  clear A330
                  have HC34 := Aside0.mk H
                  clear H
                  go_upto_region 12 with (first | ((with_reducible refine gate_callee (f := 17) rfl ?_); refine goesL_ (some 44) rfl rfl Try.func17 (by kernel_rfl) rfl #[.slice Ao13 y506.length co13] rfl zw6 ?_; (with_reducible refine (rlp_First.calls kj10 _ _ y506 t528 t529 t532 t535 t536 _ ?side1 ?side2 A32.out).mono ?_); (case side1 => exact zw9 HO_3.out); (case side2 => exact (Kd.R_reads' HO_3.out).2.1); rintro e w35 ⟨v530, v533, rfl, ho0, ho1, hb⟩; refine ⟨_, rfl, ?_⟩; have n0_ := Aside0.mk (Kd.R_elder' (zw1 HO_3.out) (Kd.R_base ho0) hb); have n1_ := Aside0.mk (Kd.R_elder' (zw1 HO_518001.out) (Kd.R_base ho0) hb); have n2_ := Aside0.mk (Kd.R_mono (Kd.R_told (Kd.R_told (Kd.R_old (zw1 HO_518002.out) hb) (Kd.R_base ho0)) (Kd.R_base ho1)) (fun _ h_ => h_.1)); have n3_ := Aside0.mk (Kd.R_elder' (zw1 HO_527001.out) (Kd.R_base ho0) hb); have n4_ := Aside0.mk (Kd.R_mono (Kd.R_told (Kd.R_told (Kd.R_old (zw1 HO_527002.out) hb) (Kd.R_base ho0)) (Kd.R_base ho1)) (fun _ h_ => h_.1)); have n5_ := Aside0.mk (Kd.R_lower (Kd.R_new' (Kd.R_new' (Kd.R_new' ho0 (Kd.R_lt (zw1 HO_3.out))) (Kd.R_lt (zw1 HO_518001.out))) (Kd.R_lt (zw1 HO_527001.out))) (below_size (zw5 HB.out GE517.out GE526.out))); have n6_ := Aside0.mk (Kd.R_lower (Kd.R_newB (Kd.R_newB (Kd.R_new' (Kd.R_new' (Kd.R_new' (Kd.R_new' (Kd.R_new' ho1 (Kd.R_lt (zw1 HO_3.out))) (Kd.R_lt (zw1 HO_518001.out))) (Kd.R_lt (zw1 HO_518002.out))) (Kd.R_lt (zw1 HO_527001.out))) (Kd.R_lt (zw1 HO_527002.out))) (g := gb517) (o := .cells #[.bool t509, .slice Ao17 t510.length co17, .slice Ao18 t513.length co18] 25 (0, 0)) (zw0 BK517.out)) (g := gb526) (o := .cells #[.bool t518, .slice Ao23 t519.length co23, .slice Ao24 t522.length co24] 25 (0, 0)) (zw0 BK526.out)) (below_size (zw5 HB.out GE517.out GE526.out))); have n7_ := Aside0.mk (blk_below (g := gb517) (o := .cells #[.bool t509, .slice Ao17 t510.length co17, .slice Ao18 t513.length co18] 25 (0, 0)) (zw0 BK517.out) hb); have n8_ := Aside0.mk (blk_below (g := gb526) (o := .cells #[.bool t518, .slice Ao23 t519.length co23, .slice Ao24 t522.length co24] 25 (0, 0)) (zw0 BK526.out) hb); have n9_ := Aside0.mk (below_step (zw5 HB.out GE517.out GE526.out) hb); clear HO_3; clear HO_518001; clear HO_518002; clear HO_527001; clear HO_527002; clear BK517; clear BK526; clear HB; have HO_3 := n0_; have HO_518001 := n1_; have HO_518002 := n2_; have HO_527001 := n3_; have HO_527002 := n4_; have HO531 := n5_; have HO534 := n6_; have BK517 := n7_; have BK526 := n8_; have HB := n9_; clear n0_ n1_ n2_ n3_ n4_ n5_ n6_ n7_ n8_ n9_; (try clear hb); (try clear hb2); (try clear hk); (try clear hi); (try clear ho0); (try clear ho1); have hnb36 := NB517_526.out; have hnc36 := NB526_517.out; have hcz37_0 : w35.cell? ⟨gb517, 0, none⟩ = some (.bool t509) := (blk_cell BK517.out 0).trans rfl; have hcz37_1 : w35.cell? ⟨gb517, 1, none⟩ = some (.slice Ao17 t510.length co17) := (blk_cell BK517.out 1).trans rfl; have hcz37_2 : w35.cell? ⟨gb517, 2, none⟩ = some (.slice Ao18 t513.length co18) := (blk_cell BK517.out 2).trans rfl; have hfz37_0 := blk_frozen BK517.out 0; have hfz37_1 := blk_frozen BK517.out 1; have hfz37_2 := blk_frozen BK517.out 2; obtain ⟨Ao38, co38, eo38⟩ := Kd.R_slice HO531.out; subst eo38; obtain ⟨Ao39, co39, eo39⟩ := Kd.R_slice HO534.out; subst eo39) | ((with_reducible refine gate_callee (f := 18) rfl ?_); refine goesL_ (some 50) rfl rfl Try.func18 (by kernel_rfl) rfl #[.slice A0 l0.length c0] rfl zw6 ?_; (with_reducible refine (moraineref4_First.calls kj10 _ _ l0 t537 t538 t541 t544 t545 _ ?side1 ?side2 A33.out).mono ?_); (case side1 => exact zw39 HR0.out HB.out GE517.out GE526.out); (case side2 => exact HC0.out); rintro e w40 ⟨v539, v542, rfl, ho0, ho1, hb⟩; refine ⟨_, rfl, ?_⟩; have n0_ := Aside0.mk (Kd.R_elder' (by (with_reducible repeat (first | apply Kd.R_alloc | apply Kd.R_drewN | apply Kd.R_drew)); exact (Kd.R_mono (Kd.R_far (p := ⟨gb517, 2, none⟩) (Kd.R_far (p := ⟨gb517, 1, none⟩) (Kd.R_far (p := ⟨gb517, 0, none⟩) (Kd.R_types HO_3.out BK517.out (by decide)) (fun _ hk => hk.2) (.bool t528)) (fun _ hk => hk.2) (.slice Ao38 t529.length co38)) (fun _ hk => hk.2) (.slice Ao39 t532.length co39)) (fun _ h_ => h_.1))) (Kd.R_base ho0) hb); have n1_ := Aside0.mk (Kd.R_elder' (by (with_reducible repeat (first | apply Kd.R_alloc | apply Kd.R_drewN | apply Kd.R_drew)); exact (Kd.R_mono (Kd.R_far (p := ⟨gb517, 2, none⟩) (Kd.R_far (p := ⟨gb517, 1, none⟩) (Kd.R_far (p := ⟨gb517, 0, none⟩) (Kd.R_types HO_518001.out BK517.out (by decide)) (fun _ hk => hk.2) (.bool t528)) (fun _ hk => hk.2) (.slice Ao38 t529.length co38)) (fun _ hk => hk.2) (.slice Ao39 t532.length co39)) (fun _ h_ => h_.1))) (Kd.R_base ho0) hb); have n2_ := Aside0.mk (Kd.R_mono (Kd.R_told (Kd.R_told (Kd.R_old (by (with_reducible repeat (first | apply Kd.R_alloc | apply Kd.R_drewN | apply Kd.R_drew)); exact (Kd.R_mono (Kd.R_far (p := ⟨gb517, 2, none⟩) (Kd.R_far (p := ⟨gb517, 1, none⟩) (Kd.R_far (p := ⟨gb517, 0, none⟩) (Kd.R_mono HO_518002.out (fun k_ hk => (⟨hk, hk.1.1.2.2.2.2.1⟩ : _ ∧ k_ ≠ gb517))) (fun _ hk => hk.2) (.bool t528)) (fun _ hk => hk.2) (.slice Ao38 t529.length co38)) (fun _ hk => hk.2) (.slice Ao39 t532.length co39)) (fun _ h_ => h_.1))) hb) (Kd.R_base ho0)) (Kd.R_base ho1)) (fun _ h_ => h_.1)); have n3_ := Aside0.mk (Kd.R_elder' (by (with_reducible repeat (first | apply Kd.R_alloc | apply Kd.R_drewN | apply Kd.R_drew)); exact (Kd.R_mono (Kd.R_far (p := ⟨gb517, 2, none⟩) (Kd.R_far (p := ⟨gb517, 1, none⟩) (Kd.R_far (p := ⟨gb517, 0, none⟩) (Kd.R_types HO_527001.out BK517.out (by decide)) (fun _ hk => hk.2) (.bool t528)) (fun _ hk => hk.2) (.slice Ao38 t529.length co38)) (fun _ hk => hk.2) (.slice Ao39 t532.length co39)) (fun _ h_ => h_.1))) (Kd.R_base ho0) hb); have n4_ := Aside0.mk (Kd.R_mono (Kd.R_told (Kd.R_told (Kd.R_old (by (with_reducible repeat (first | apply Kd.R_alloc | apply Kd.R_drewN | apply Kd.R_drew)); exact (Kd.R_mono (Kd.R_far (p := ⟨gb517, 2, none⟩) (Kd.R_far (p := ⟨gb517, 1, none⟩) (Kd.R_far (p := ⟨gb517, 0, none⟩) (Kd.R_mono HO_527002.out (fun k_ hk => (⟨hk, hk.1.1.2.2.2.2.1⟩ : _ ∧ k_ ≠ gb517))) (fun _ hk => hk.2) (.bool t528)) (fun _ hk => hk.2) (.slice Ao38 t529.length co38)) (fun _ hk => hk.2) (.slice Ao39 t532.length co39)) (fun _ h_ => h_.1))) hb) (Kd.R_base ho0)) (Kd.R_base ho1)) (fun _ h_ => h_.1)); have n5_ := Aside0.mk (Kd.R_elder' (by (with_reducible repeat (first | apply Kd.R_alloc | apply Kd.R_drewN | apply Kd.R_drew)); exact (Kd.R_mono (Kd.R_far (p := ⟨gb517, 2, none⟩) (Kd.R_far (p := ⟨gb517, 1, none⟩) (Kd.R_far (p := ⟨gb517, 0, none⟩) (Kd.R_types HO531.out BK517.out (by decide)) (fun _ hk => hk.2) (.bool t528)) (fun _ hk => hk.2) (.slice Ao38 t529.length co38)) (fun _ hk => hk.2) (.slice Ao39 t532.length co39)) (fun _ h_ => h_.1))) (Kd.R_base ho0) hb); have n6_ := Aside0.mk (Kd.R_mono (Kd.R_told (Kd.R_told (Kd.R_old (by (with_reducible repeat (first | apply Kd.R_alloc | apply Kd.R_drewN | apply Kd.R_drew)); exact (Kd.R_mono (Kd.R_far (p := ⟨gb517, 2, none⟩) (Kd.R_far (p := ⟨gb517, 1, none⟩) (Kd.R_far (p := ⟨gb517, 0, none⟩) (Kd.R_mono HO534.out (fun k_ hk => (⟨hk, hk.1.2⟩ : _ ∧ k_ ≠ gb517))) (fun _ hk => hk.2) (.bool t528)) (fun _ hk => hk.2) (.slice Ao38 t529.length co38)) (fun _ hk => hk.2) (.slice Ao39 t532.length co39)) (fun _ h_ => h_.1))) hb) (Kd.R_base ho0)) (Kd.R_base ho1)) (fun _ h_ => h_.1)); have n7_ := Aside0.mk (Kd.R_lower (Kd.R_new' (Kd.R_new' (Kd.R_new' (Kd.R_new' ho0 (Kd.R_lt (by (with_reducible repeat (first | apply Kd.R_alloc | apply Kd.R_drewN | apply Kd.R_drew)); exact (Kd.R_mono (Kd.R_far (p := ⟨gb517, 2, none⟩) (Kd.R_far (p := ⟨gb517, 1, none⟩) (Kd.R_far (p := ⟨gb517, 0, none⟩) (Kd.R_types HO_3.out BK517.out (by decide)) (fun _ hk => hk.2) (.bool t528)) (fun _ hk => hk.2) (.slice Ao38 t529.length co38)) (fun _ hk => hk.2) (.slice Ao39 t532.length co39)) (fun _ h_ => h_.1))))) (Kd.R_lt (by (with_reducible repeat (first | apply Kd.R_alloc | apply Kd.R_drewN | apply Kd.R_drew)); exact (Kd.R_mono (Kd.R_far (p := ⟨gb517, 2, none⟩) (Kd.R_far (p := ⟨gb517, 1, none⟩) (Kd.R_far (p := ⟨gb517, 0, none⟩) (Kd.R_types HO_518001.out BK517.out (by decide)) (fun _ hk => hk.2) (.bool t528)) (fun _ hk => hk.2) (.slice Ao38 t529.length co38)) (fun _ hk => hk.2) (.slice Ao39 t532.length co39)) (fun _ h_ => h_.1))))) (Kd.R_lt (by (with_reducible repeat (first | apply Kd.R_alloc | apply Kd.R_drewN | apply Kd.R_drew)); exact (Kd.R_mono (Kd.R_far (p := ⟨gb517, 2, none⟩) (Kd.R_far (p := ⟨gb517, 1, none⟩) (Kd.R_far (p := ⟨gb517, 0, none⟩) (Kd.R_types HO_527001.out BK517.out (by decide)) (fun _ hk => hk.2) (.bool t528)) (fun _ hk => hk.2) (.slice Ao38 t529.length co38)) (fun _ hk => hk.2) (.slice Ao39 t532.length co39)) (fun _ h_ => h_.1))))) (Kd.R_lt (by (with_reducible repeat (first | apply Kd.R_alloc | apply Kd.R_drewN | apply Kd.R_drew)); exact (Kd.R_mono (Kd.R_far (p := ⟨gb517, 2, none⟩) (Kd.R_far (p := ⟨gb517, 1, none⟩) (Kd.R_far (p := ⟨gb517, 0, none⟩) (Kd.R_types HO531.out BK517.out (by decide)) (fun _ hk => hk.2) (.bool t528)) (fun _ hk => hk.2) (.slice Ao38 t529.length co38)) (fun _ hk => hk.2) (.slice Ao39 t532.length co39)) (fun _ h_ => h_.1))))) (below_size (zw5 HB.out GE517.out GE526.out))); have n8_ := Aside0.mk (Kd.R_lower (Kd.R_newB (Kd.R_newB (Kd.R_new' (Kd.R_new' (Kd.R_new' (Kd.R_new' (Kd.R_new' (Kd.R_new' (Kd.R_new' ho1 (Kd.R_lt (by (with_reducible repeat (first | apply Kd.R_alloc | apply Kd.R_drewN | apply Kd.R_drew)); exact (Kd.R_mono (Kd.R_far (p := ⟨gb517, 2, none⟩) (Kd.R_far (p := ⟨gb517, 1, none⟩) (Kd.R_far (p := ⟨gb517, 0, none⟩) (Kd.R_types HO_3.out BK517.out (by decide)) (fun _ hk => hk.2) (.bool t528)) (fun _ hk => hk.2) (.slice Ao38 t529.length co38)) (fun _ hk => hk.2) (.slice Ao39 t532.length co39)) (fun _ h_ => h_.1))))) (Kd.R_lt (by (with_reducible repeat (first | apply Kd.R_alloc | apply Kd.R_drewN | apply Kd.R_drew)); exact (Kd.R_mono (Kd.R_far (p := ⟨gb517, 2, none⟩) (Kd.R_far (p := ⟨gb517, 1, none⟩) (Kd.R_far (p := ⟨gb517, 0, none⟩) (Kd.R_types HO_518001.out BK517.out (by decide)) (fun _ hk => hk.2) (.bool t528)) (fun _ hk => hk.2) (.slice Ao38 t529.length co38)) (fun _ hk => hk.2) (.slice Ao39 t532.length co39)) (fun _ h_ => h_.1))))) (Kd.R_lt (by (with_reducible repeat (first | apply Kd.R_alloc | apply Kd.R_drewN | apply Kd.R_drew)); exact (Kd.R_mono (Kd.R_far (p := ⟨gb517, 2, none⟩) (Kd.R_far (p := ⟨gb517, 1, none⟩) (Kd.R_far (p := ⟨gb517, 0, none⟩) (Kd.R_mono HO_518002.out (fun k_ hk => (⟨hk, hk.1.1.2.2.2.2.1⟩ : _ ∧ k_ ≠ gb517))) (fun _ hk => hk.2) (.bool t528)) (fun _ hk => hk.2) (.slice Ao38 t529.length co38)) (fun _ hk => hk.2) (.slice Ao39 t532.length co39)) (fun _ h_ => h_.1))))) (Kd.R_lt (by (with_reducible repeat (first | apply Kd.R_alloc | apply Kd.R_drewN | apply Kd.R_drew)); exact (Kd.R_mono (Kd.R_far (p := ⟨gb517, 2, none⟩) (Kd.R_far (p := ⟨gb517, 1, none⟩) (Kd.R_far (p := ⟨gb517, 0, none⟩) (Kd.R_types HO_527001.out BK517.out (by decide)) (fun _ hk => hk.2) (.bool t528)) (fun _ hk => hk.2) (.slice Ao38 t529.length co38)) (fun _ hk => hk.2) (.slice Ao39 t532.length co39)) (fun _ h_ => h_.1))))) (Kd.R_lt (by (with_reducible repeat (first | apply Kd.R_alloc | apply Kd.R_drewN | apply Kd.R_drew)); exact (Kd.R_mono (Kd.R_far (p := ⟨gb517, 2, none⟩) (Kd.R_far (p := ⟨gb517, 1, none⟩) (Kd.R_far (p := ⟨gb517, 0, none⟩) (Kd.R_mono HO_527002.out (fun k_ hk => (⟨hk, hk.1.1.2.2.2.2.1⟩ : _ ∧ k_ ≠ gb517))) (fun _ hk => hk.2) (.bool t528)) (fun _ hk => hk.2) (.slice Ao38 t529.length co38)) (fun _ hk => hk.2) (.slice Ao39 t532.length co39)) (fun _ h_ => h_.1))))) (Kd.R_lt (by (with_reducible repeat (first | apply Kd.R_alloc | apply Kd.R_drewN | apply Kd.R_drew)); exact (Kd.R_mono (Kd.R_far (p := ⟨gb517, 2, none⟩) (Kd.R_far (p := ⟨gb517, 1, none⟩) (Kd.R_far (p := ⟨gb517, 0, none⟩) (Kd.R_types HO531.out BK517.out (by decide)) (fun _ hk => hk.2) (.bool t528)) (fun _ hk => hk.2) (.slice Ao38 t529.length co38)) (fun _ hk => hk.2) (.slice Ao39 t532.length co39)) (fun _ h_ => h_.1))))) (Kd.R_lt (by (with_reducible repeat (first | apply Kd.R_alloc | apply Kd.R_drewN | apply Kd.R_drew)); exact (Kd.R_mono (Kd.R_far (p := ⟨gb517, 2, none⟩) (Kd.R_far (p := ⟨gb517, 1, none⟩) (Kd.R_far (p := ⟨gb517, 0, none⟩) (Kd.R_mono HO534.out (fun k_ hk => (⟨hk, hk.1.2⟩ : _ ∧ k_ ≠ gb517))) (fun _ hk => hk.2) (.bool t528)) (fun _ hk => hk.2) (.slice Ao38 t529.length co38)) (fun _ hk => hk.2) (.slice Ao39 t532.length co39)) (fun _ h_ => h_.1))))) (g := gb517) (o := .cells #[.bool t528, .slice Ao38 t529.length co38, .slice Ao39 t532.length co39] 25 (0, 0)) (by (with_reducible repeat (first | refine blk_drewN ?_ _ | refine blk_drew ?_ | refine blk_alloc ?_ _)); refine blk_put (cs := #[.bool t528, .slice Ao38 t529.length co38, .slice Ao18 t513.length co18]) ?_ 2 _ rfl; (with_reducible repeat (first | refine blk_drewN ?_ _ | refine blk_drew ?_ | refine blk_alloc ?_ _)); refine blk_put (cs := #[.bool t528, .slice Ao17 t510.length co17, .slice Ao18 t513.length co18]) ?_ 1 _ rfl; (with_reducible repeat (first | refine blk_drewN ?_ _ | refine blk_drew ?_ | refine blk_alloc ?_ _)); refine blk_put (cs := #[.bool t509, .slice Ao17 t510.length co17, .slice Ao18 t513.length co18]) ?_ 0 _ rfl; (with_reducible repeat (first | refine blk_drewN ?_ _ | refine blk_drew ?_ | refine blk_alloc ?_ _)); exact BK517.out)) (g := gb526) (o := .cells #[.bool t518, .slice Ao23 t519.length co23, .slice Ao24 t522.length co24] 25 (0, 0)) (zw11 NB526_517.out BK526.out)) (below_size (zw5 HB.out GE517.out GE526.out))); have n9_ := Aside0.mk (blk_below (g := gb517) (o := .cells #[.bool t528, .slice Ao38 t529.length co38, .slice Ao39 t532.length co39] 25 (0, 0)) (by (with_reducible repeat (first | refine blk_drewN ?_ _ | refine blk_drew ?_ | refine blk_alloc ?_ _)); refine blk_put (cs := #[.bool t528, .slice Ao38 t529.length co38, .slice Ao18 t513.length co18]) ?_ 2 _ rfl; (with_reducible repeat (first | refine blk_drewN ?_ _ | refine blk_drew ?_ | refine blk_alloc ?_ _)); refine blk_put (cs := #[.bool t528, .slice Ao17 t510.length co17, .slice Ao18 t513.length co18]) ?_ 1 _ rfl; (with_reducible repeat (first | refine blk_drewN ?_ _ | refine blk_drew ?_ | refine blk_alloc ?_ _)); refine blk_put (cs := #[.bool t509, .slice Ao17 t510.length co17, .slice Ao18 t513.length co18]) ?_ 0 _ rfl; (with_reducible repeat (first | refine blk_drewN ?_ _ | refine blk_drew ?_ | refine blk_alloc ?_ _)); exact BK517.out) hb); have n10_ := Aside0.mk (blk_below (g := gb526) (o := .cells #[.bool t518, .slice Ao23 t519.length co23, .slice Ao24 t522.length co24] 25 (0, 0)) (zw11 NB526_517.out BK526.out) hb); have n11_ := Aside0.mk (below_step (zw5 HB.out GE517.out GE526.out) hb); clear HO_3; clear HO_518001; clear HO_518002; clear HO_527001; clear HO_527002; clear HO531; clear HO534; clear BK517; clear BK526; clear HB; have HO_3 := n0_; have HO_518001 := n1_; have HO_518002 := n2_; have HO_527001 := n3_; have HO_527002 := n4_; have HO531 := n5_; have HO534 := n6_; have HO540 := n7_; have HO543 := n8_; have BK517 := n9_; have BK526 := n10_; have HB := n11_; clear n0_ n1_ n2_ n3_ n4_ n5_ n6_ n7_ n8_ n9_ n10_ n11_; (try clear hb); (try clear hb2); (try clear hk); (try clear hi); (try clear ho0); (try clear ho1); have hcz41_0 : w40.cell? ⟨gb526, 0, none⟩ = some (.bool t518) := (blk_cell BK526.out 0).trans rfl; have hcz41_1 : w40.cell? ⟨gb526, 1, none⟩ = some (.slice Ao23 t519.length co23) := (blk_cell BK526.out 1).trans rfl; have hcz41_2 : w40.cell? ⟨gb526, 2, none⟩ = some (.slice Ao24 t522.length co24) := (blk_cell BK526.out 2).trans rfl; have hfz41_0 := blk_frozen BK526.out 0; have hfz41_1 := blk_frozen BK526.out 1; have hfz41_2 := blk_frozen BK526.out 2; obtain ⟨Ao42, co42, eo42⟩ := Kd.R_slice HO540.out; subst eo42; obtain ⟨Ao43, co43, eo43⟩ := Kd.R_slice HO543.out; subst eo43))
                  (try simp only [Act.put, List.setIfInBounds_toArray, List.set_cons_zero, List.set_cons_succ])
                  go_cut [74] (fun v74 wc => ∃ (kq : Nat) (x74_33 : Bool), v74 = .bool x74_33 ∧ Aside0 (morainelaw4_RlpDecodes.j2 kq y506 t545 x74_33 t528 t529 t532 t537 t538 t541 = some r) ∧ Aside0 (kq ≤ kj10) ∧ Aside0 (Kd.R (Kd.int .u8) 5 wc w.heap.size (fun k_ => some k_ ≠ ((.slice Ao38 t529.length co38) : Value).ownBlock ∧ some k_ ≠ ((.slice Ao42 t538.length co42) : Value).ownBlock) (.slice Ao13 y506.length co13) y506) ∧ Aside0 (Kd.R (Kd.int .u8) 5 wc w.heap.size (fun k_ => some k_ ≠ ((.slice Ao13 y506.length co13) : Value).ownBlock ∧ some k_ ≠ ((.slice Ao42 t538.length co42) : Value).ownBlock) (.slice Ao38 t529.length co38) t529) ∧ Aside0 (Kd.R k25 25 wc w.heap.size (fun k_ => some k_ ≠ ((.slice Ao13 y506.length co13) : Value).ownBlock ∧ some k_ ≠ ((.slice Ao38 t529.length co38) : Value).ownBlock ∧ some k_ ≠ ((.slice Ao42 t538.length co42) : Value).ownBlock ∧ some k_ ≠ ((.slice Ao43 t541.length co43) : Value).ownBlock ∧ k_ ≠ gb517 ∧ k_ ≠ gb526) (.slice Ao39 t532.length co39) t532) ∧ Aside0 (Kd.R (Kd.int .u8) 5 wc w.heap.size (fun k_ => some k_ ≠ ((.slice Ao13 y506.length co13) : Value).ownBlock ∧ some k_ ≠ ((.slice Ao38 t529.length co38) : Value).ownBlock) (.slice Ao42 t538.length co42) t538) ∧ Aside0 (Kd.R k25 25 wc w.heap.size (fun k_ => some k_ ≠ ((.slice Ao13 y506.length co13) : Value).ownBlock ∧ some k_ ≠ ((.slice Ao38 t529.length co38) : Value).ownBlock ∧ some k_ ≠ ((.slice Ao39 t532.length co39) : Value).ownBlock ∧ some k_ ≠ ((.slice Ao42 t538.length co42) : Value).ownBlock ∧ k_ ≠ gb517 ∧ k_ ≠ gb526) (.slice Ao43 t541.length co43) t541) ∧ Aside0 (wc.heap[gb517]? = some (.cells #[.bool t528, (.slice Ao38 t529.length co38), (.slice Ao39 t532.length co39)] 25 (0, 0))) ∧ Aside0 (wc.heap[gb526]? = some (.cells #[.bool t537, (.slice Ao42 t538.length co42), (.slice Ao43 t541.length co43)] 25 (0, 0))) ∧ Aside0 (Below w.heap.size w wc))
                  case first =>
                    have H := HC34.out
                    clear HC34
                    by_cases c44 : t536 = t545
                    · rw [if_pos c44] at H
                      have c44b0 : (t536 == t545) = true := beq_iff_eq.mpr c44
                      have c44b1 : (t536 != t545) = false := bne_eq_false_iff_eq.mpr c44
                      clear c44
                      (first | rw [c44b0] | (simp only [i64_w, i32_w]; rw [c44b0]) | skip)
                      by_cases c45 : t535 = t544
                      · rw [if_pos c45] at H
                        have c45b0 : (t535 == t544) = true := beq_iff_eq.mpr c45
                        have c45b1 : (t535 != t544) = false := bne_eq_false_iff_eq.mpr c45
                        clear c45
                        replace H := Option.bind_eq_some_iff.mp H
                        obtain ⟨t546, A460, H⟩ := H
                        replace H : (if t546 = true then ((morainehelp_Bytes.f y506 l0).bind fun t547 => (morainelaw4_RlpDecodes.j2 kj10 y506 t545 (!t547) t528 t529 t532 t537 t538 t541)) else (morainelaw4_RlpDecodes.j2 kj10 y506 t545 true t528 t529 t532 t537 t538 t541)) = some r := H
                        have A46 := Aside0.mk A460
                        clear A460
                        by_cases c47 : t546 = true
                        · subst c47
                          have H1 : ((morainehelp_Bytes.f y506 l0).bind fun t547 => (morainelaw4_RlpDecodes.j2 kj10 y506 t545 (!t547) t528 t529 t532 t537 t538 t541)) = some r := by rw [if_pos rfl] at H; exact H
                          clear H
                          have H := H1
                          clear H1
                          replace H := Option.bind_eq_some_iff.mp H
                          obtain ⟨t547, A480, H⟩ := H
                          replace H : (morainelaw4_RlpDecodes.j2 kj10 y506 t545 (!t547) t528 t529 t532 t537 t538 t541) = some r := H
                          have A48 := Aside0.mk A480
                          clear A480
                          have H' := Aside0.mk H
                          clear H
                          have hnb49 := NB517_526.out
                          have hnc49 := NB526_517.out
                          have hcz50_0 : w40.cell? ⟨gb517, 0, none⟩ = some (.bool t528) := (blk_cell BK517.out 0).trans rfl
                          have hcz50_1 : w40.cell? ⟨gb517, 1, none⟩ = some (.slice Ao38 t529.length co38) := (blk_cell BK517.out 1).trans rfl
                          have hcz50_2 : w40.cell? ⟨gb517, 2, none⟩ = some (.slice Ao39 t532.length co39) := (blk_cell BK517.out 2).trans rfl
                          have hfz50_0 := blk_frozen BK517.out 0
                          have hfz50_1 := blk_frozen BK517.out 1
                          have hfz50_2 := blk_frozen BK517.out 2
                          have hcz51_0 : w40.cell? ⟨gb526, 0, none⟩ = some (.bool t518) := (blk_cell BK526.out 0).trans rfl
                          have hcz51_1 : w40.cell? ⟨gb526, 1, none⟩ = some (.slice Ao23 t519.length co23) := (blk_cell BK526.out 1).trans rfl
                          have hcz51_2 : w40.cell? ⟨gb526, 2, none⟩ = some (.slice Ao24 t522.length co24) := (blk_cell BK526.out 2).trans rfl
                          have hfz51_0 := blk_frozen BK526.out 0
                          have hfz51_1 := blk_frozen BK526.out 1
                          have hfz51_2 := blk_frozen BK526.out 2
                          go_wp2_with (first | (go_at_call 16; (with_reducible refine (morainelaw4_same.calls kj10 t528 _ _ t529 _ _ t532 t537 _ _ t538 _ _ t541 t545 true _ ?side1 ?side2 ?side3 ?side4 ?side5 ?side6 ?side7 ?side8 A46.out).mono ?_); (case side1 => refine (Kd.R_reads' (e := 5) (base := w.heap.size) (ok := fun k_ => ((((True ∧ some k_ ≠ (.slice Ao13 y506.length co13 : Value).ownBlock) ∧ some k_ ≠ (.slice Ao17 t510.length co17 : Value).ownBlock) ∧ some k_ ≠ (.slice Ao23 t519.length co23 : Value).ownBlock) ∧ some k_ ≠ (.slice Ao42 t538.length co42 : Value).ownBlock)) (n := t529.length) (c := co38) ?_).2.2; exact (by (with_reducible repeat (first | apply Kd.R_alloc | apply Kd.R_drewN | apply Kd.R_drew)); exact (Kd.R_mono (Kd.R_far (p := ⟨gb526, 2, none⟩) (Kd.R_far (p := ⟨gb526, 1, none⟩) (Kd.R_far (p := ⟨gb526, 0, none⟩) (Kd.R_types HO531.out BK526.out (by decide)) (fun _ hk => hk.2) (.bool t537)) (fun _ hk => hk.2) (.slice Ao42 t538.length co42)) (fun _ hk => hk.2) (.slice Ao43 t541.length co43)) (fun _ h_ => h_.1)))); (case side2 => exact (Kd.R_reads' HO531.out).2.1); (case side3 => refine (Kd.R_reads' (e := 25) (base := w.heap.size) (ok := fun k_ => (((((((((some k_ ≠ (.slice Ao38 t529.length co38 : Value).ownBlock ∧ some k_ ≠ (.slice Ao13 y506.length co13 : Value).ownBlock) ∧ some k_ ≠ (.slice Ao17 t510.length co17 : Value).ownBlock) ∧ some k_ ≠ (.slice Ao18 t513.length co18 : Value).ownBlock) ∧ some k_ ≠ (.slice Ao23 t519.length co23 : Value).ownBlock) ∧ some k_ ≠ (.slice Ao24 t522.length co24 : Value).ownBlock) ∧ k_ ≠ gb517) ∧ k_ ≠ gb526) ∧ some k_ ≠ (.slice Ao42 t538.length co42 : Value).ownBlock) ∧ some k_ ≠ (.slice Ao43 t541.length co43 : Value).ownBlock)) (n := t532.length) (c := co39) ?_).2.2; exact (by (with_reducible repeat (first | apply Kd.R_alloc | apply Kd.R_drewN | apply Kd.R_drew)); exact (Kd.R_mono (Kd.R_far (p := ⟨gb526, 2, none⟩) (Kd.R_far (p := ⟨gb526, 1, none⟩) (Kd.R_far (p := ⟨gb526, 0, none⟩) (Kd.R_mono HO534.out (fun k_ hk => (⟨hk, hk.1.1.2⟩ : _ ∧ k_ ≠ gb526))) (fun _ hk => hk.2) (.bool t537)) (fun _ hk => hk.2) (.slice Ao42 t538.length co42)) (fun _ hk => hk.2) (.slice Ao43 t541.length co43)) (fun _ h_ => h_.1)))); (case side4 => exact (Kd.R_reads' HO534.out).2.1); (case side5 => refine (Kd.R_reads' (e := 5) (base := w.heap.size) (ok := fun k_ => ((((True ∧ some k_ ≠ (.slice Ao13 y506.length co13 : Value).ownBlock) ∧ some k_ ≠ (.slice Ao17 t510.length co17 : Value).ownBlock) ∧ some k_ ≠ (.slice Ao23 t519.length co23 : Value).ownBlock) ∧ some k_ ≠ (.slice Ao38 t529.length co38 : Value).ownBlock)) (n := t538.length) (c := co42) ?_).2.2; exact (by (with_reducible repeat (first | apply Kd.R_alloc | apply Kd.R_drewN | apply Kd.R_drew)); exact (Kd.R_mono (Kd.R_far (p := ⟨gb526, 2, none⟩) (Kd.R_far (p := ⟨gb526, 1, none⟩) (Kd.R_far (p := ⟨gb526, 0, none⟩) (Kd.R_types HO540.out BK526.out (by decide)) (fun _ hk => hk.2) (.bool t537)) (fun _ hk => hk.2) (.slice Ao42 t538.length co42)) (fun _ hk => hk.2) (.slice Ao43 t541.length co43)) (fun _ h_ => h_.1)))); (case side6 => exact (Kd.R_reads' HO540.out).2.1); (case side7 => refine (Kd.R_reads' (e := 25) (base := w.heap.size) (ok := fun k_ => (((((((((some k_ ≠ (.slice Ao42 t538.length co42 : Value).ownBlock ∧ some k_ ≠ (.slice Ao13 y506.length co13 : Value).ownBlock) ∧ some k_ ≠ (.slice Ao17 t510.length co17 : Value).ownBlock) ∧ some k_ ≠ (.slice Ao18 t513.length co18 : Value).ownBlock) ∧ some k_ ≠ (.slice Ao23 t519.length co23 : Value).ownBlock) ∧ some k_ ≠ (.slice Ao24 t522.length co24 : Value).ownBlock) ∧ some k_ ≠ (.slice Ao38 t529.length co38 : Value).ownBlock) ∧ some k_ ≠ (.slice Ao39 t532.length co39 : Value).ownBlock) ∧ k_ ≠ gb517) ∧ k_ ≠ gb526)) (n := t541.length) (c := co43) ?_).2.2; exact (by (with_reducible repeat (first | apply Kd.R_alloc | apply Kd.R_drewN | apply Kd.R_drew)); exact (Kd.R_mono (Kd.R_far (p := ⟨gb526, 2, none⟩) (Kd.R_far (p := ⟨gb526, 1, none⟩) (Kd.R_far (p := ⟨gb526, 0, none⟩) (Kd.R_mono HO543.out (fun k_ hk => (⟨hk, hk.2⟩ : _ ∧ k_ ≠ gb526))) (fun _ hk => hk.2) (.bool t537)) (fun _ hk => hk.2) (.slice Ao42 t538.length co42)) (fun _ hk => hk.2) (.slice Ao43 t541.length co43)) (fun _ h_ => h_.1)))); (case side8 => exact (Kd.R_reads' HO543.out).2.1); rintro e w52 ⟨rfl, hb⟩; have n0_ := Aside0.mk (Kd.R_below (by (with_reducible repeat (first | apply Kd.R_alloc | apply Kd.R_drewN | apply Kd.R_drew)); exact (Kd.R_mono (Kd.R_far (p := ⟨gb526, 2, none⟩) (Kd.R_far (p := ⟨gb526, 1, none⟩) (Kd.R_far (p := ⟨gb526, 0, none⟩) (Kd.R_types HO_3.out BK526.out (by decide)) (fun _ hk => hk.2) (.bool t537)) (fun _ hk => hk.2) (.slice Ao42 t538.length co42)) (fun _ hk => hk.2) (.slice Ao43 t541.length co43)) (fun _ h_ => h_.1))) hb); have n1_ := Aside0.mk (Kd.R_below (by (with_reducible repeat (first | apply Kd.R_alloc | apply Kd.R_drewN | apply Kd.R_drew)); exact (Kd.R_mono (Kd.R_far (p := ⟨gb526, 2, none⟩) (Kd.R_far (p := ⟨gb526, 1, none⟩) (Kd.R_far (p := ⟨gb526, 0, none⟩) (Kd.R_types HO_518001.out BK526.out (by decide)) (fun _ hk => hk.2) (.bool t537)) (fun _ hk => hk.2) (.slice Ao42 t538.length co42)) (fun _ hk => hk.2) (.slice Ao43 t541.length co43)) (fun _ h_ => h_.1))) hb); have n2_ := Aside0.mk (Kd.R_below (by (with_reducible repeat (first | apply Kd.R_alloc | apply Kd.R_drewN | apply Kd.R_drew)); exact (Kd.R_mono (Kd.R_far (p := ⟨gb526, 2, none⟩) (Kd.R_far (p := ⟨gb526, 1, none⟩) (Kd.R_far (p := ⟨gb526, 0, none⟩) (Kd.R_mono HO_518002.out (fun k_ hk => (⟨hk, hk.1.1.1.1.2.2.2.2.2⟩ : _ ∧ k_ ≠ gb526))) (fun _ hk => hk.2) (.bool t537)) (fun _ hk => hk.2) (.slice Ao42 t538.length co42)) (fun _ hk => hk.2) (.slice Ao43 t541.length co43)) (fun _ h_ => h_.1))) hb); have n3_ := Aside0.mk (Kd.R_below (by (with_reducible repeat (first | apply Kd.R_alloc | apply Kd.R_drewN | apply Kd.R_drew)); exact (Kd.R_mono (Kd.R_far (p := ⟨gb526, 2, none⟩) (Kd.R_far (p := ⟨gb526, 1, none⟩) (Kd.R_far (p := ⟨gb526, 0, none⟩) (Kd.R_types HO_527001.out BK526.out (by decide)) (fun _ hk => hk.2) (.bool t537)) (fun _ hk => hk.2) (.slice Ao42 t538.length co42)) (fun _ hk => hk.2) (.slice Ao43 t541.length co43)) (fun _ h_ => h_.1))) hb); have n4_ := Aside0.mk (Kd.R_below (by (with_reducible repeat (first | apply Kd.R_alloc | apply Kd.R_drewN | apply Kd.R_drew)); exact (Kd.R_mono (Kd.R_far (p := ⟨gb526, 2, none⟩) (Kd.R_far (p := ⟨gb526, 1, none⟩) (Kd.R_far (p := ⟨gb526, 0, none⟩) (Kd.R_mono HO_527002.out (fun k_ hk => (⟨hk, hk.1.1.1.1.2.2.2.2.2⟩ : _ ∧ k_ ≠ gb526))) (fun _ hk => hk.2) (.bool t537)) (fun _ hk => hk.2) (.slice Ao42 t538.length co42)) (fun _ hk => hk.2) (.slice Ao43 t541.length co43)) (fun _ h_ => h_.1))) hb); have n5_ := Aside0.mk (Kd.R_below (by (with_reducible repeat (first | apply Kd.R_alloc | apply Kd.R_drewN | apply Kd.R_drew)); exact (Kd.R_mono (Kd.R_far (p := ⟨gb526, 2, none⟩) (Kd.R_far (p := ⟨gb526, 1, none⟩) (Kd.R_far (p := ⟨gb526, 0, none⟩) (Kd.R_types HO531.out BK526.out (by decide)) (fun _ hk => hk.2) (.bool t537)) (fun _ hk => hk.2) (.slice Ao42 t538.length co42)) (fun _ hk => hk.2) (.slice Ao43 t541.length co43)) (fun _ h_ => h_.1))) hb); have n6_ := Aside0.mk (Kd.R_below (by (with_reducible repeat (first | apply Kd.R_alloc | apply Kd.R_drewN | apply Kd.R_drew)); exact (Kd.R_mono (Kd.R_far (p := ⟨gb526, 2, none⟩) (Kd.R_far (p := ⟨gb526, 1, none⟩) (Kd.R_far (p := ⟨gb526, 0, none⟩) (Kd.R_mono HO534.out (fun k_ hk => (⟨hk, hk.1.1.2⟩ : _ ∧ k_ ≠ gb526))) (fun _ hk => hk.2) (.bool t537)) (fun _ hk => hk.2) (.slice Ao42 t538.length co42)) (fun _ hk => hk.2) (.slice Ao43 t541.length co43)) (fun _ h_ => h_.1))) hb); have n7_ := Aside0.mk (Kd.R_below (by (with_reducible repeat (first | apply Kd.R_alloc | apply Kd.R_drewN | apply Kd.R_drew)); exact (Kd.R_mono (Kd.R_far (p := ⟨gb526, 2, none⟩) (Kd.R_far (p := ⟨gb526, 1, none⟩) (Kd.R_far (p := ⟨gb526, 0, none⟩) (Kd.R_types HO540.out BK526.out (by decide)) (fun _ hk => hk.2) (.bool t537)) (fun _ hk => hk.2) (.slice Ao42 t538.length co42)) (fun _ hk => hk.2) (.slice Ao43 t541.length co43)) (fun _ h_ => h_.1))) hb); have n8_ := Aside0.mk (Kd.R_below (by (with_reducible repeat (first | apply Kd.R_alloc | apply Kd.R_drewN | apply Kd.R_drew)); exact (Kd.R_mono (Kd.R_far (p := ⟨gb526, 2, none⟩) (Kd.R_far (p := ⟨gb526, 1, none⟩) (Kd.R_far (p := ⟨gb526, 0, none⟩) (Kd.R_mono HO543.out (fun k_ hk => (⟨hk, hk.2⟩ : _ ∧ k_ ≠ gb526))) (fun _ hk => hk.2) (.bool t537)) (fun _ hk => hk.2) (.slice Ao42 t538.length co42)) (fun _ hk => hk.2) (.slice Ao43 t541.length co43)) (fun _ h_ => h_.1))) hb); have n9_ := Aside0.mk (blk_below (g := gb517) (o := .cells #[.bool t528, .slice Ao38 t529.length co38, .slice Ao39 t532.length co39] 25 (0, 0)) (zw11 NB517_526.out BK517.out) hb); have n10_ := Aside0.mk (blk_below (g := gb526) (o := .cells #[.bool t537, .slice Ao42 t538.length co42, .slice Ao43 t541.length co43] 25 (0, 0)) (by (with_reducible repeat (first | refine blk_drewN ?_ _ | refine blk_drew ?_ | refine blk_alloc ?_ _)); refine blk_put (cs := #[.bool t537, .slice Ao42 t538.length co42, .slice Ao24 t522.length co24]) ?_ 2 _ rfl; (with_reducible repeat (first | refine blk_drewN ?_ _ | refine blk_drew ?_ | refine blk_alloc ?_ _)); refine blk_put (cs := #[.bool t537, .slice Ao23 t519.length co23, .slice Ao24 t522.length co24]) ?_ 1 _ rfl; (with_reducible repeat (first | refine blk_drewN ?_ _ | refine blk_drew ?_ | refine blk_alloc ?_ _)); refine blk_put (cs := #[.bool t518, .slice Ao23 t519.length co23, .slice Ao24 t522.length co24]) ?_ 0 _ rfl; (with_reducible repeat (first | refine blk_drewN ?_ _ | refine blk_drew ?_ | refine blk_alloc ?_ _)); exact BK526.out) hb); have n11_ := Aside0.mk (below_step (zw5 HB.out GE517.out GE526.out) hb); clear HO_3; clear HO_518001; clear HO_518002; clear HO_527001; clear HO_527002; clear HO531; clear HO534; clear HO540; clear HO543; clear BK517; clear BK526; clear HB; have HO_3 := n0_; have HO_518001 := n1_; have HO_518002 := n2_; have HO_527001 := n3_; have HO_527002 := n4_; have HO531 := n5_; have HO534 := n6_; have HO540 := n7_; have HO543 := n8_; have BK517 := n9_; have BK526 := n10_; have HB := n11_; clear n0_ n1_ n2_ n3_ n4_ n5_ n6_ n7_ n8_ n9_ n10_ n11_; (try clear hb); (try clear hb2); (try clear hk); (try clear hi)) | (go_at_call 13; (with_reducible refine (morainehelp_Bytes.calls _ _ y506 _ _ l0 t547 _ ?side1 ?side2 ?side3 ?side4 A48.out).mono ?_); (case side1 => exact zw9 HO_3.out); (case side2 => exact (Kd.R_reads' HO_3.out).2.1); (case side3 => exact zw4 HR0.out HB.out); (case side4 => exact HC0.out); rintro e w' ⟨rfl, ⟨nd, rfl⟩⟩))
                          go_meet
                          case rel => exact ⟨_, (!t547), zw7, H', ⟨by have := HJ3.out; have := HJ10.out; first | omega | exact Nat.le_refl _⟩, ⟨by (with_reducible repeat (first | apply Kd.R_alloc | apply Kd.R_drewN | apply Kd.R_drew)); exact Kd.R_mono HO_3.out (fun _ hk => ⟨hk.1.2, hk.2⟩)⟩, ⟨by (with_reducible repeat (first | apply Kd.R_alloc | apply Kd.R_drewN | apply Kd.R_drew)); exact Kd.R_mono HO531.out (fun _ hk => ⟨hk.1.1.1.2, hk.2⟩)⟩, ⟨by (with_reducible repeat (first | apply Kd.R_alloc | apply Kd.R_drewN | apply Kd.R_drew)); exact Kd.R_mono HO534.out (fun _ hk => ⟨hk.1.1.1.1.1.1.1.1.2, ⟨hk.1.1.1.1.1.1.1.1.1, ⟨hk.1.2, ⟨hk.2, ⟨hk.1.1.1.2, hk.1.1.2⟩⟩⟩⟩⟩)⟩, ⟨by (with_reducible repeat (first | apply Kd.R_alloc | apply Kd.R_drewN | apply Kd.R_drew)); exact Kd.R_mono HO540.out (fun _ hk => ⟨hk.1.1.1.2, hk.2⟩)⟩, ⟨by (with_reducible repeat (first | apply Kd.R_alloc | apply Kd.R_drewN | apply Kd.R_drew)); exact Kd.R_mono HO543.out (fun _ hk => ⟨hk.1.1.1.1.1.1.1.1.2, ⟨hk.1.1.1.2, ⟨hk.1.1.2, ⟨hk.1.1.1.1.1.1.1.1.1, ⟨hk.1.2, hk.2⟩⟩⟩⟩⟩)⟩, ⟨by (with_reducible repeat (first | refine blk_drewN ?_ _ | refine blk_drew ?_ | refine blk_alloc ?_ _)); exact BK517.out⟩, ⟨by (with_reducible repeat (first | refine blk_drewN ?_ _ | refine blk_drew ?_ | refine blk_alloc ?_ _)); exact BK526.out⟩, ⟨by repeat (first | (with_reducible first | exact HB.out | apply below_alloc | apply pw_below_drewN | apply below_drew1 | refine below_set ?_ GE517.out | refine below_set ?_ GE526.out) | exact HB.out)⟩⟩
                        · replace c47 := Bool.eq_false_iff.mpr c47
                          subst c47
                          have H1 : (morainelaw4_RlpDecodes.j2 kj10 y506 t545 true t528 t529 t532 t537 t538 t541) = some r := by rw [if_neg (show ¬ (false = true) by decide)] at H; exact H
                          clear H
                          have H := H1
                          clear H1
                          have H' := Aside0.mk H
                          clear H
                          have hnb53 := NB517_526.out
                          have hnc53 := NB526_517.out
                          have hcz54_0 : w40.cell? ⟨gb517, 0, none⟩ = some (.bool t528) := (blk_cell BK517.out 0).trans rfl
                          have hcz54_1 : w40.cell? ⟨gb517, 1, none⟩ = some (.slice Ao38 t529.length co38) := (blk_cell BK517.out 1).trans rfl
                          have hcz54_2 : w40.cell? ⟨gb517, 2, none⟩ = some (.slice Ao39 t532.length co39) := (blk_cell BK517.out 2).trans rfl
                          have hfz54_0 := blk_frozen BK517.out 0
                          have hfz54_1 := blk_frozen BK517.out 1
                          have hfz54_2 := blk_frozen BK517.out 2
                          have hcz55_0 : w40.cell? ⟨gb526, 0, none⟩ = some (.bool t518) := (blk_cell BK526.out 0).trans rfl
                          have hcz55_1 : w40.cell? ⟨gb526, 1, none⟩ = some (.slice Ao23 t519.length co23) := (blk_cell BK526.out 1).trans rfl
                          have hcz55_2 : w40.cell? ⟨gb526, 2, none⟩ = some (.slice Ao24 t522.length co24) := (blk_cell BK526.out 2).trans rfl
                          have hfz55_0 := blk_frozen BK526.out 0
                          have hfz55_1 := blk_frozen BK526.out 1
                          have hfz55_2 := blk_frozen BK526.out 2
                          go_wp2_with (first | (go_at_call 16; (with_reducible refine (morainelaw4_same.calls kj10 t528 _ _ t529 _ _ t532 t537 _ _ t538 _ _ t541 t545 false _ ?side1 ?side2 ?side3 ?side4 ?side5 ?side6 ?side7 ?side8 A46.out).mono ?_); (case side1 => refine (Kd.R_reads' (e := 5) (base := w.heap.size) (ok := fun k_ => ((((True ∧ some k_ ≠ (.slice Ao13 y506.length co13 : Value).ownBlock) ∧ some k_ ≠ (.slice Ao17 t510.length co17 : Value).ownBlock) ∧ some k_ ≠ (.slice Ao23 t519.length co23 : Value).ownBlock) ∧ some k_ ≠ (.slice Ao42 t538.length co42 : Value).ownBlock)) (n := t529.length) (c := co38) ?_).2.2; exact (by (with_reducible repeat (first | apply Kd.R_alloc | apply Kd.R_drewN | apply Kd.R_drew)); exact (Kd.R_mono (Kd.R_far (p := ⟨gb526, 2, none⟩) (Kd.R_far (p := ⟨gb526, 1, none⟩) (Kd.R_far (p := ⟨gb526, 0, none⟩) (Kd.R_types HO531.out BK526.out (by decide)) (fun _ hk => hk.2) (.bool t537)) (fun _ hk => hk.2) (.slice Ao42 t538.length co42)) (fun _ hk => hk.2) (.slice Ao43 t541.length co43)) (fun _ h_ => h_.1)))); (case side2 => exact (Kd.R_reads' HO531.out).2.1); (case side3 => refine (Kd.R_reads' (e := 25) (base := w.heap.size) (ok := fun k_ => (((((((((some k_ ≠ (.slice Ao38 t529.length co38 : Value).ownBlock ∧ some k_ ≠ (.slice Ao13 y506.length co13 : Value).ownBlock) ∧ some k_ ≠ (.slice Ao17 t510.length co17 : Value).ownBlock) ∧ some k_ ≠ (.slice Ao18 t513.length co18 : Value).ownBlock) ∧ some k_ ≠ (.slice Ao23 t519.length co23 : Value).ownBlock) ∧ some k_ ≠ (.slice Ao24 t522.length co24 : Value).ownBlock) ∧ k_ ≠ gb517) ∧ k_ ≠ gb526) ∧ some k_ ≠ (.slice Ao42 t538.length co42 : Value).ownBlock) ∧ some k_ ≠ (.slice Ao43 t541.length co43 : Value).ownBlock)) (n := t532.length) (c := co39) ?_).2.2; exact (by (with_reducible repeat (first | apply Kd.R_alloc | apply Kd.R_drewN | apply Kd.R_drew)); exact (Kd.R_mono (Kd.R_far (p := ⟨gb526, 2, none⟩) (Kd.R_far (p := ⟨gb526, 1, none⟩) (Kd.R_far (p := ⟨gb526, 0, none⟩) (Kd.R_mono HO534.out (fun k_ hk => (⟨hk, hk.1.1.2⟩ : _ ∧ k_ ≠ gb526))) (fun _ hk => hk.2) (.bool t537)) (fun _ hk => hk.2) (.slice Ao42 t538.length co42)) (fun _ hk => hk.2) (.slice Ao43 t541.length co43)) (fun _ h_ => h_.1)))); (case side4 => exact (Kd.R_reads' HO534.out).2.1); (case side5 => refine (Kd.R_reads' (e := 5) (base := w.heap.size) (ok := fun k_ => ((((True ∧ some k_ ≠ (.slice Ao13 y506.length co13 : Value).ownBlock) ∧ some k_ ≠ (.slice Ao17 t510.length co17 : Value).ownBlock) ∧ some k_ ≠ (.slice Ao23 t519.length co23 : Value).ownBlock) ∧ some k_ ≠ (.slice Ao38 t529.length co38 : Value).ownBlock)) (n := t538.length) (c := co42) ?_).2.2; exact (by (with_reducible repeat (first | apply Kd.R_alloc | apply Kd.R_drewN | apply Kd.R_drew)); exact (Kd.R_mono (Kd.R_far (p := ⟨gb526, 2, none⟩) (Kd.R_far (p := ⟨gb526, 1, none⟩) (Kd.R_far (p := ⟨gb526, 0, none⟩) (Kd.R_types HO540.out BK526.out (by decide)) (fun _ hk => hk.2) (.bool t537)) (fun _ hk => hk.2) (.slice Ao42 t538.length co42)) (fun _ hk => hk.2) (.slice Ao43 t541.length co43)) (fun _ h_ => h_.1)))); (case side6 => exact (Kd.R_reads' HO540.out).2.1); (case side7 => refine (Kd.R_reads' (e := 25) (base := w.heap.size) (ok := fun k_ => (((((((((some k_ ≠ (.slice Ao42 t538.length co42 : Value).ownBlock ∧ some k_ ≠ (.slice Ao13 y506.length co13 : Value).ownBlock) ∧ some k_ ≠ (.slice Ao17 t510.length co17 : Value).ownBlock) ∧ some k_ ≠ (.slice Ao18 t513.length co18 : Value).ownBlock) ∧ some k_ ≠ (.slice Ao23 t519.length co23 : Value).ownBlock) ∧ some k_ ≠ (.slice Ao24 t522.length co24 : Value).ownBlock) ∧ some k_ ≠ (.slice Ao38 t529.length co38 : Value).ownBlock) ∧ some k_ ≠ (.slice Ao39 t532.length co39 : Value).ownBlock) ∧ k_ ≠ gb517) ∧ k_ ≠ gb526)) (n := t541.length) (c := co43) ?_).2.2; exact (by (with_reducible repeat (first | apply Kd.R_alloc | apply Kd.R_drewN | apply Kd.R_drew)); exact (Kd.R_mono (Kd.R_far (p := ⟨gb526, 2, none⟩) (Kd.R_far (p := ⟨gb526, 1, none⟩) (Kd.R_far (p := ⟨gb526, 0, none⟩) (Kd.R_mono HO543.out (fun k_ hk => (⟨hk, hk.2⟩ : _ ∧ k_ ≠ gb526))) (fun _ hk => hk.2) (.bool t537)) (fun _ hk => hk.2) (.slice Ao42 t538.length co42)) (fun _ hk => hk.2) (.slice Ao43 t541.length co43)) (fun _ h_ => h_.1)))); (case side8 => exact (Kd.R_reads' HO543.out).2.1); rintro e w56 ⟨rfl, hb⟩; have n0_ := Aside0.mk (Kd.R_below (by (with_reducible repeat (first | apply Kd.R_alloc | apply Kd.R_drewN | apply Kd.R_drew)); exact (Kd.R_mono (Kd.R_far (p := ⟨gb526, 2, none⟩) (Kd.R_far (p := ⟨gb526, 1, none⟩) (Kd.R_far (p := ⟨gb526, 0, none⟩) (Kd.R_types HO_3.out BK526.out (by decide)) (fun _ hk => hk.2) (.bool t537)) (fun _ hk => hk.2) (.slice Ao42 t538.length co42)) (fun _ hk => hk.2) (.slice Ao43 t541.length co43)) (fun _ h_ => h_.1))) hb); have n1_ := Aside0.mk (Kd.R_below (by (with_reducible repeat (first | apply Kd.R_alloc | apply Kd.R_drewN | apply Kd.R_drew)); exact (Kd.R_mono (Kd.R_far (p := ⟨gb526, 2, none⟩) (Kd.R_far (p := ⟨gb526, 1, none⟩) (Kd.R_far (p := ⟨gb526, 0, none⟩) (Kd.R_types HO_518001.out BK526.out (by decide)) (fun _ hk => hk.2) (.bool t537)) (fun _ hk => hk.2) (.slice Ao42 t538.length co42)) (fun _ hk => hk.2) (.slice Ao43 t541.length co43)) (fun _ h_ => h_.1))) hb); have n2_ := Aside0.mk (Kd.R_below (by (with_reducible repeat (first | apply Kd.R_alloc | apply Kd.R_drewN | apply Kd.R_drew)); exact (Kd.R_mono (Kd.R_far (p := ⟨gb526, 2, none⟩) (Kd.R_far (p := ⟨gb526, 1, none⟩) (Kd.R_far (p := ⟨gb526, 0, none⟩) (Kd.R_mono HO_518002.out (fun k_ hk => (⟨hk, hk.1.1.1.1.2.2.2.2.2⟩ : _ ∧ k_ ≠ gb526))) (fun _ hk => hk.2) (.bool t537)) (fun _ hk => hk.2) (.slice Ao42 t538.length co42)) (fun _ hk => hk.2) (.slice Ao43 t541.length co43)) (fun _ h_ => h_.1))) hb); have n3_ := Aside0.mk (Kd.R_below (by (with_reducible repeat (first | apply Kd.R_alloc | apply Kd.R_drewN | apply Kd.R_drew)); exact (Kd.R_mono (Kd.R_far (p := ⟨gb526, 2, none⟩) (Kd.R_far (p := ⟨gb526, 1, none⟩) (Kd.R_far (p := ⟨gb526, 0, none⟩) (Kd.R_types HO_527001.out BK526.out (by decide)) (fun _ hk => hk.2) (.bool t537)) (fun _ hk => hk.2) (.slice Ao42 t538.length co42)) (fun _ hk => hk.2) (.slice Ao43 t541.length co43)) (fun _ h_ => h_.1))) hb); have n4_ := Aside0.mk (Kd.R_below (by (with_reducible repeat (first | apply Kd.R_alloc | apply Kd.R_drewN | apply Kd.R_drew)); exact (Kd.R_mono (Kd.R_far (p := ⟨gb526, 2, none⟩) (Kd.R_far (p := ⟨gb526, 1, none⟩) (Kd.R_far (p := ⟨gb526, 0, none⟩) (Kd.R_mono HO_527002.out (fun k_ hk => (⟨hk, hk.1.1.1.1.2.2.2.2.2⟩ : _ ∧ k_ ≠ gb526))) (fun _ hk => hk.2) (.bool t537)) (fun _ hk => hk.2) (.slice Ao42 t538.length co42)) (fun _ hk => hk.2) (.slice Ao43 t541.length co43)) (fun _ h_ => h_.1))) hb); have n5_ := Aside0.mk (Kd.R_below (by (with_reducible repeat (first | apply Kd.R_alloc | apply Kd.R_drewN | apply Kd.R_drew)); exact (Kd.R_mono (Kd.R_far (p := ⟨gb526, 2, none⟩) (Kd.R_far (p := ⟨gb526, 1, none⟩) (Kd.R_far (p := ⟨gb526, 0, none⟩) (Kd.R_types HO531.out BK526.out (by decide)) (fun _ hk => hk.2) (.bool t537)) (fun _ hk => hk.2) (.slice Ao42 t538.length co42)) (fun _ hk => hk.2) (.slice Ao43 t541.length co43)) (fun _ h_ => h_.1))) hb); have n6_ := Aside0.mk (Kd.R_below (by (with_reducible repeat (first | apply Kd.R_alloc | apply Kd.R_drewN | apply Kd.R_drew)); exact (Kd.R_mono (Kd.R_far (p := ⟨gb526, 2, none⟩) (Kd.R_far (p := ⟨gb526, 1, none⟩) (Kd.R_far (p := ⟨gb526, 0, none⟩) (Kd.R_mono HO534.out (fun k_ hk => (⟨hk, hk.1.1.2⟩ : _ ∧ k_ ≠ gb526))) (fun _ hk => hk.2) (.bool t537)) (fun _ hk => hk.2) (.slice Ao42 t538.length co42)) (fun _ hk => hk.2) (.slice Ao43 t541.length co43)) (fun _ h_ => h_.1))) hb); have n7_ := Aside0.mk (Kd.R_below (by (with_reducible repeat (first | apply Kd.R_alloc | apply Kd.R_drewN | apply Kd.R_drew)); exact (Kd.R_mono (Kd.R_far (p := ⟨gb526, 2, none⟩) (Kd.R_far (p := ⟨gb526, 1, none⟩) (Kd.R_far (p := ⟨gb526, 0, none⟩) (Kd.R_types HO540.out BK526.out (by decide)) (fun _ hk => hk.2) (.bool t537)) (fun _ hk => hk.2) (.slice Ao42 t538.length co42)) (fun _ hk => hk.2) (.slice Ao43 t541.length co43)) (fun _ h_ => h_.1))) hb); have n8_ := Aside0.mk (Kd.R_below (by (with_reducible repeat (first | apply Kd.R_alloc | apply Kd.R_drewN | apply Kd.R_drew)); exact (Kd.R_mono (Kd.R_far (p := ⟨gb526, 2, none⟩) (Kd.R_far (p := ⟨gb526, 1, none⟩) (Kd.R_far (p := ⟨gb526, 0, none⟩) (Kd.R_mono HO543.out (fun k_ hk => (⟨hk, hk.2⟩ : _ ∧ k_ ≠ gb526))) (fun _ hk => hk.2) (.bool t537)) (fun _ hk => hk.2) (.slice Ao42 t538.length co42)) (fun _ hk => hk.2) (.slice Ao43 t541.length co43)) (fun _ h_ => h_.1))) hb); have n9_ := Aside0.mk (blk_below (g := gb517) (o := .cells #[.bool t528, .slice Ao38 t529.length co38, .slice Ao39 t532.length co39] 25 (0, 0)) (zw11 NB517_526.out BK517.out) hb); have n10_ := Aside0.mk (blk_below (g := gb526) (o := .cells #[.bool t537, .slice Ao42 t538.length co42, .slice Ao43 t541.length co43] 25 (0, 0)) (by (with_reducible repeat (first | refine blk_drewN ?_ _ | refine blk_drew ?_ | refine blk_alloc ?_ _)); refine blk_put (cs := #[.bool t537, .slice Ao42 t538.length co42, .slice Ao24 t522.length co24]) ?_ 2 _ rfl; (with_reducible repeat (first | refine blk_drewN ?_ _ | refine blk_drew ?_ | refine blk_alloc ?_ _)); refine blk_put (cs := #[.bool t537, .slice Ao23 t519.length co23, .slice Ao24 t522.length co24]) ?_ 1 _ rfl; (with_reducible repeat (first | refine blk_drewN ?_ _ | refine blk_drew ?_ | refine blk_alloc ?_ _)); refine blk_put (cs := #[.bool t518, .slice Ao23 t519.length co23, .slice Ao24 t522.length co24]) ?_ 0 _ rfl; (with_reducible repeat (first | refine blk_drewN ?_ _ | refine blk_drew ?_ | refine blk_alloc ?_ _)); exact BK526.out) hb); have n11_ := Aside0.mk (below_step (zw5 HB.out GE517.out GE526.out) hb); clear HO_3; clear HO_518001; clear HO_518002; clear HO_527001; clear HO_527002; clear HO531; clear HO534; clear HO540; clear HO543; clear BK517; clear BK526; clear HB; have HO_3 := n0_; have HO_518001 := n1_; have HO_518002 := n2_; have HO_527001 := n3_; have HO_527002 := n4_; have HO531 := n5_; have HO534 := n6_; have HO540 := n7_; have HO543 := n8_; have BK517 := n9_; have BK526 := n10_; have HB := n11_; clear n0_ n1_ n2_ n3_ n4_ n5_ n6_ n7_ n8_ n9_ n10_ n11_; (try clear hb); (try clear hb2); (try clear hk); (try clear hi)))
                          go_meet
                          case rel => exact ⟨_, (true), zw7, H', ⟨by have := HJ3.out; have := HJ10.out; first | omega | exact Nat.le_refl _⟩, ⟨by (with_reducible repeat (first | apply Kd.R_alloc | apply Kd.R_drewN | apply Kd.R_drew)); exact Kd.R_mono HO_3.out (fun _ hk => ⟨hk.1.2, hk.2⟩)⟩, ⟨by (with_reducible repeat (first | apply Kd.R_alloc | apply Kd.R_drewN | apply Kd.R_drew)); exact Kd.R_mono HO531.out (fun _ hk => ⟨hk.1.1.1.2, hk.2⟩)⟩, ⟨by (with_reducible repeat (first | apply Kd.R_alloc | apply Kd.R_drewN | apply Kd.R_drew)); exact Kd.R_mono HO534.out (fun _ hk => ⟨hk.1.1.1.1.1.1.1.1.2, ⟨hk.1.1.1.1.1.1.1.1.1, ⟨hk.1.2, ⟨hk.2, ⟨hk.1.1.1.2, hk.1.1.2⟩⟩⟩⟩⟩)⟩, ⟨by (with_reducible repeat (first | apply Kd.R_alloc | apply Kd.R_drewN | apply Kd.R_drew)); exact Kd.R_mono HO540.out (fun _ hk => ⟨hk.1.1.1.2, hk.2⟩)⟩, ⟨by (with_reducible repeat (first | apply Kd.R_alloc | apply Kd.R_drewN | apply Kd.R_drew)); exact Kd.R_mono HO543.out (fun _ hk => ⟨hk.1.1.1.1.1.1.1.1.2, ⟨hk.1.1.1.2, ⟨hk.1.1.2, ⟨hk.1.1.1.1.1.1.1.1.1, ⟨hk.1.2, hk.2⟩⟩⟩⟩⟩)⟩, ⟨by (with_reducible repeat (first | refine blk_drewN ?_ _ | refine blk_drew ?_ | refine blk_alloc ?_ _)); exact BK517.out⟩, ⟨by (with_reducible repeat (first | refine blk_drewN ?_ _ | refine blk_drew ?_ | refine blk_alloc ?_ _)); exact BK526.out⟩, ⟨by repeat (first | (with_reducible first | exact HB.out | apply below_alloc | apply pw_below_drewN | apply below_drew1 | refine below_set ?_ GE517.out | refine below_set ?_ GE526.out) | exact HB.out)⟩⟩
                      · rw [if_neg c45] at H
                        have c45b0 : (t535 == t544) = false := beq_eq_false_iff_ne.mpr c45
                        have c45b1 : (t535 != t544) = true := bne_iff_ne.mpr c45
                        have H' := Aside0.mk H
                        clear H
                        go_wp2
                        go_meet
                        case rel => exact ⟨_, (true), zw7, H', ⟨by have := HJ3.out; have := HJ10.out; first | omega | exact Nat.le_refl _⟩, ⟨by (with_reducible repeat (first | apply Kd.R_alloc | apply Kd.R_drewN | apply Kd.R_drew)); exact Kd.R_mono (Kd.R_far (p := ⟨gb526, 2, none⟩) (Kd.R_far (p := ⟨gb526, 1, none⟩) (Kd.R_far (p := ⟨gb526, 0, none⟩) (Kd.R_types HO_3.out BK526.out (by decide)) (fun _ hk => hk.2) (.bool t537)) (fun _ hk => hk.2) (.slice Ao42 t538.length co42)) (fun _ hk => hk.2) (.slice Ao43 t541.length co43)) (fun _ hk => ⟨hk.1.1.2, hk.1.2⟩)⟩, ⟨by (with_reducible repeat (first | apply Kd.R_alloc | apply Kd.R_drewN | apply Kd.R_drew)); exact Kd.R_mono (Kd.R_far (p := ⟨gb526, 2, none⟩) (Kd.R_far (p := ⟨gb526, 1, none⟩) (Kd.R_far (p := ⟨gb526, 0, none⟩) (Kd.R_types HO531.out BK526.out (by decide)) (fun _ hk => hk.2) (.bool t537)) (fun _ hk => hk.2) (.slice Ao42 t538.length co42)) (fun _ hk => hk.2) (.slice Ao43 t541.length co43)) (fun _ hk => ⟨hk.1.1.1.1.2, hk.1.2⟩)⟩, ⟨by (with_reducible repeat (first | apply Kd.R_alloc | apply Kd.R_drewN | apply Kd.R_drew)); exact Kd.R_mono (Kd.R_far (p := ⟨gb526, 2, none⟩) (Kd.R_far (p := ⟨gb526, 1, none⟩) (Kd.R_far (p := ⟨gb526, 0, none⟩) (Kd.R_mono HO534.out (fun k_ hk => (⟨hk, hk.1.1.2⟩ : _ ∧ k_ ≠ gb526))) (fun _ hk => hk.2) (.bool t537)) (fun _ hk => hk.2) (.slice Ao42 t538.length co42)) (fun _ hk => hk.2) (.slice Ao43 t541.length co43)) (fun _ hk => ⟨hk.1.1.1.1.1.1.1.1.1.2, ⟨hk.1.1.1.1.1.1.1.1.1.1, ⟨hk.1.1.2, ⟨hk.1.2, ⟨hk.1.1.1.1.2, hk.1.1.1.2⟩⟩⟩⟩⟩)⟩, ⟨by (with_reducible repeat (first | apply Kd.R_alloc | apply Kd.R_drewN | apply Kd.R_drew)); exact Kd.R_mono (Kd.R_far (p := ⟨gb526, 2, none⟩) (Kd.R_far (p := ⟨gb526, 1, none⟩) (Kd.R_far (p := ⟨gb526, 0, none⟩) (Kd.R_types HO540.out BK526.out (by decide)) (fun _ hk => hk.2) (.bool t537)) (fun _ hk => hk.2) (.slice Ao42 t538.length co42)) (fun _ hk => hk.2) (.slice Ao43 t541.length co43)) (fun _ hk => ⟨hk.1.1.1.1.2, hk.1.2⟩)⟩, ⟨by (with_reducible repeat (first | apply Kd.R_alloc | apply Kd.R_drewN | apply Kd.R_drew)); exact Kd.R_mono (Kd.R_far (p := ⟨gb526, 2, none⟩) (Kd.R_far (p := ⟨gb526, 1, none⟩) (Kd.R_far (p := ⟨gb526, 0, none⟩) (Kd.R_mono HO543.out (fun k_ hk => (⟨hk, hk.2⟩ : _ ∧ k_ ≠ gb526))) (fun _ hk => hk.2) (.bool t537)) (fun _ hk => hk.2) (.slice Ao42 t538.length co42)) (fun _ hk => hk.2) (.slice Ao43 t541.length co43)) (fun _ hk => ⟨hk.1.1.1.1.1.1.1.1.1.2, ⟨hk.1.1.1.1.2, ⟨hk.1.1.1.2, ⟨hk.1.1.1.1.1.1.1.1.1.1, ⟨hk.1.1.2, hk.1.2⟩⟩⟩⟩⟩)⟩, ⟨by (with_reducible repeat (first | refine blk_drewN ?_ _ | refine blk_drew ?_ | refine blk_alloc ?_ _)); refine blk_far ?_ NB517_526.out _; (with_reducible repeat (first | refine blk_drewN ?_ _ | refine blk_drew ?_ | refine blk_alloc ?_ _)); refine blk_far ?_ NB517_526.out _; (with_reducible repeat (first | refine blk_drewN ?_ _ | refine blk_drew ?_ | refine blk_alloc ?_ _)); refine blk_far ?_ NB517_526.out _; (with_reducible repeat (first | refine blk_drewN ?_ _ | refine blk_drew ?_ | refine blk_alloc ?_ _)); exact BK517.out⟩, ⟨by (with_reducible repeat (first | refine blk_drewN ?_ _ | refine blk_drew ?_ | refine blk_alloc ?_ _)); refine blk_put (cs := #[.bool t537, .slice Ao42 t538.length co42, .slice Ao24 t522.length co24]) ?_ 2 _ rfl; (with_reducible repeat (first | refine blk_drewN ?_ _ | refine blk_drew ?_ | refine blk_alloc ?_ _)); refine blk_put (cs := #[.bool t537, .slice Ao23 t519.length co23, .slice Ao24 t522.length co24]) ?_ 1 _ rfl; (with_reducible repeat (first | refine blk_drewN ?_ _ | refine blk_drew ?_ | refine blk_alloc ?_ _)); refine blk_put (cs := #[.bool t518, .slice Ao23 t519.length co23, .slice Ao24 t522.length co24]) ?_ 0 _ rfl; (with_reducible repeat (first | refine blk_drewN ?_ _ | refine blk_drew ?_ | refine blk_alloc ?_ _)); exact BK526.out⟩, ⟨by repeat (first | (with_reducible first | exact HB.out | apply below_alloc | apply pw_below_drewN | apply below_drew1 | refine below_set ?_ GE517.out | refine below_set ?_ GE526.out) | exact HB.out)⟩⟩
                    · rw [if_neg c44] at H
                      have c44b0 : (t536 == t545) = false := beq_eq_false_iff_ne.mpr c44
                      have c44b1 : (t536 != t545) = true := bne_iff_ne.mpr c44
                      (first | rw [c44b0] | (simp only [i64_w, i32_w]; rw [c44b0]) | skip)
                      have H' := Aside0.mk H
                      clear H
                      go_wp2
                      go_meet
                      case rel => exact ⟨_, (true), zw7, H', ⟨by have := HJ3.out; have := HJ10.out; first | omega | exact Nat.le_refl _⟩, ⟨by (with_reducible repeat (first | apply Kd.R_alloc | apply Kd.R_drewN | apply Kd.R_drew)); exact Kd.R_mono (Kd.R_far (p := ⟨gb526, 2, none⟩) (Kd.R_far (p := ⟨gb526, 1, none⟩) (Kd.R_far (p := ⟨gb526, 0, none⟩) (Kd.R_types HO_3.out BK526.out (by decide)) (fun _ hk => hk.2) (.bool t537)) (fun _ hk => hk.2) (.slice Ao42 t538.length co42)) (fun _ hk => hk.2) (.slice Ao43 t541.length co43)) (fun _ hk => ⟨hk.1.1.2, hk.1.2⟩)⟩, ⟨by (with_reducible repeat (first | apply Kd.R_alloc | apply Kd.R_drewN | apply Kd.R_drew)); exact Kd.R_mono (Kd.R_far (p := ⟨gb526, 2, none⟩) (Kd.R_far (p := ⟨gb526, 1, none⟩) (Kd.R_far (p := ⟨gb526, 0, none⟩) (Kd.R_types HO531.out BK526.out (by decide)) (fun _ hk => hk.2) (.bool t537)) (fun _ hk => hk.2) (.slice Ao42 t538.length co42)) (fun _ hk => hk.2) (.slice Ao43 t541.length co43)) (fun _ hk => ⟨hk.1.1.1.1.2, hk.1.2⟩)⟩, ⟨by (with_reducible repeat (first | apply Kd.R_alloc | apply Kd.R_drewN | apply Kd.R_drew)); exact Kd.R_mono (Kd.R_far (p := ⟨gb526, 2, none⟩) (Kd.R_far (p := ⟨gb526, 1, none⟩) (Kd.R_far (p := ⟨gb526, 0, none⟩) (Kd.R_mono HO534.out (fun k_ hk => (⟨hk, hk.1.1.2⟩ : _ ∧ k_ ≠ gb526))) (fun _ hk => hk.2) (.bool t537)) (fun _ hk => hk.2) (.slice Ao42 t538.length co42)) (fun _ hk => hk.2) (.slice Ao43 t541.length co43)) (fun _ hk => ⟨hk.1.1.1.1.1.1.1.1.1.2, ⟨hk.1.1.1.1.1.1.1.1.1.1, ⟨hk.1.1.2, ⟨hk.1.2, ⟨hk.1.1.1.1.2, hk.1.1.1.2⟩⟩⟩⟩⟩)⟩, ⟨by (with_reducible repeat (first | apply Kd.R_alloc | apply Kd.R_drewN | apply Kd.R_drew)); exact Kd.R_mono (Kd.R_far (p := ⟨gb526, 2, none⟩) (Kd.R_far (p := ⟨gb526, 1, none⟩) (Kd.R_far (p := ⟨gb526, 0, none⟩) (Kd.R_types HO540.out BK526.out (by decide)) (fun _ hk => hk.2) (.bool t537)) (fun _ hk => hk.2) (.slice Ao42 t538.length co42)) (fun _ hk => hk.2) (.slice Ao43 t541.length co43)) (fun _ hk => ⟨hk.1.1.1.1.2, hk.1.2⟩)⟩, ⟨by (with_reducible repeat (first | apply Kd.R_alloc | apply Kd.R_drewN | apply Kd.R_drew)); exact Kd.R_mono (Kd.R_far (p := ⟨gb526, 2, none⟩) (Kd.R_far (p := ⟨gb526, 1, none⟩) (Kd.R_far (p := ⟨gb526, 0, none⟩) (Kd.R_mono HO543.out (fun k_ hk => (⟨hk, hk.2⟩ : _ ∧ k_ ≠ gb526))) (fun _ hk => hk.2) (.bool t537)) (fun _ hk => hk.2) (.slice Ao42 t538.length co42)) (fun _ hk => hk.2) (.slice Ao43 t541.length co43)) (fun _ hk => ⟨hk.1.1.1.1.1.1.1.1.1.2, ⟨hk.1.1.1.1.2, ⟨hk.1.1.1.2, ⟨hk.1.1.1.1.1.1.1.1.1.1, ⟨hk.1.1.2, hk.1.2⟩⟩⟩⟩⟩)⟩, ⟨by (with_reducible repeat (first | refine blk_drewN ?_ _ | refine blk_drew ?_ | refine blk_alloc ?_ _)); refine blk_far ?_ NB517_526.out _; (with_reducible repeat (first | refine blk_drewN ?_ _ | refine blk_drew ?_ | refine blk_alloc ?_ _)); refine blk_far ?_ NB517_526.out _; (with_reducible repeat (first | refine blk_drewN ?_ _ | refine blk_drew ?_ | refine blk_alloc ?_ _)); refine blk_far ?_ NB517_526.out _; (with_reducible repeat (first | refine blk_drewN ?_ _ | refine blk_drew ?_ | refine blk_alloc ?_ _)); exact BK517.out⟩, ⟨by (with_reducible repeat (first | refine blk_drewN ?_ _ | refine blk_drew ?_ | refine blk_alloc ?_ _)); refine blk_put (cs := #[.bool t537, .slice Ao42 t538.length co42, .slice Ao24 t522.length co24]) ?_ 2 _ rfl; (with_reducible repeat (first | refine blk_drewN ?_ _ | refine blk_drew ?_ | refine blk_alloc ?_ _)); refine blk_put (cs := #[.bool t537, .slice Ao23 t519.length co23, .slice Ao24 t522.length co24]) ?_ 1 _ rfl; (with_reducible repeat (first | refine blk_drewN ?_ _ | refine blk_drew ?_ | refine blk_alloc ?_ _)); refine blk_put (cs := #[.bool t518, .slice Ao23 t519.length co23, .slice Ao24 t522.length co24]) ?_ 0 _ rfl; (with_reducible repeat (first | refine blk_drewN ?_ _ | refine blk_drew ?_ | refine blk_alloc ?_ _)); exact BK526.out⟩, ⟨by repeat (first | (with_reducible first | exact HB.out | apply below_alloc | apply pw_below_drewN | apply below_drew1 | refine below_set ?_ GE517.out | refine below_set ?_ GE526.out) | exact HB.out)⟩⟩
                  case rest =>
                    clear HC34
                    try clear c1
                    try clear c2
                    try clear p2
                    try clear c3
                    try clear c4
                    try clear c5
                    try clear c6
                    try clear c6b0
                    try clear c6b1
                    try clear c7
                    try clear c8
                    try clear c9
                    try clear c14
                    try clear c15
                    try clear c17
                    try clear c18
                    try clear c21
                    try clear c25
                    try clear c25b0
                    try clear c25b1
                    try clear c27
                    try clear c31
                    try clear c36
                    try clear c44
                    try clear c44b0
                    try clear c44b1
                    try clear c45
                    try clear c45b0
                    try clear c45b1
                    try clear c47
                    try clear c49
                    try clear c53
                    try clear hcz16_0
                    try clear hcz16_1
                    try clear hcz16_2
                    try clear hcz22_0
                    try clear hcz22_1
                    try clear hcz22_2
                    try clear hcz28_0
                    try clear hcz28_1
                    try clear hcz28_2
                    try clear hcz29_0
                    try clear hcz29_1
                    try clear hcz29_2
                    try clear hcz37_0
                    try clear hcz37_1
                    try clear hcz37_2
                    try clear hcz41_0
                    try clear hcz41_1
                    try clear hcz41_2
                    try clear hcz50_0
                    try clear hcz50_1
                    try clear hcz50_2
                    try clear hcz51_0
                    try clear hcz51_1
                    try clear hcz51_2
                    try clear hcz54_0
                    try clear hcz54_1
                    try clear hcz54_2
                    try clear hcz55_0
                    try clear hcz55_1
                    try clear hcz55_2
                    try clear hfz16_0
                    try clear hfz16_1
                    try clear hfz16_2
                    try clear hfz22_0
                    try clear hfz22_1
                    try clear hfz22_2
                    try clear hfz28_0
                    try clear hfz28_1
                    try clear hfz28_2
                    try clear hfz29_0
                    try clear hfz29_1
                    try clear hfz29_2
                    try clear hfz37_0
                    try clear hfz37_1
                    try clear hfz37_2
                    try clear hfz41_0
                    try clear hfz41_1
                    try clear hfz41_2
                    try clear hfz50_0
                    try clear hfz50_1
                    try clear hfz50_2
                    try clear hfz51_0
                    try clear hfz51_1
                    try clear hfz51_2
                    try clear hfz54_0
                    try clear hfz54_1
                    try clear hfz54_2
                    try clear hfz55_0
                    try clear hfz55_1
                    try clear hfz55_2
                    try clear p2
                    obtain ⟨kq, x74_33, rfl, HA, HJ33, HO_3, HO_518001, HO_518002, HO_527001, HO_527002, BK517, BK526, HB⟩ := hcut
                    cases kq with
                    | zero => exact absurd HA.out (by simp [morainelaw4_RlpDecodes.j2])
                    | succ kj33 =>
                      have H := HA.out
                      clear HA
                      simp only [morainelaw4_RlpDecodes.j2] at H
                      by_cases c57 : x74_33 = true
                      · subst c57
                        have H1 : (some false) = some r := by rw [if_pos rfl] at H; exact H
                        clear H
                        have H := H1
                        clear H1
                        obtain rfl := Option.some.inj H
                        go_wp2
                        go_ret
                        exact ⟨by first | rfl | (simp [errW_none, errW_some] <;> rfl) | (simp [*, errW_none, errW_some] <;> rfl), by repeat (first | (with_reducible first | exact HB.out | apply below_alloc | apply pw_below_drewN | apply below_drew1 | refine below_set ?_ GE517.out | refine below_set ?_ GE526.out) | exact HB.out)⟩
                      · replace c57 := Bool.eq_false_iff.mpr c57
                        subst c57
                        have H1 : ((morainehelp_Spoil.f kj33 y506).bind fun t548 => ((morainelaw4_same.f kj33 t528 t529 t532 t537 t538 t541 t545).bind fun t549 => (some t549))) = some r := by rw [if_neg (show ¬ (false = true) by decide)] at H; exact H
                        clear H
                        have H := H1
                        clear H1
                        replace H := Option.bind_eq_some_iff.mp H
                        obtain ⟨t548, A580, H⟩ := H
                        replace H : ((morainelaw4_same.f kj33 t528 t529 t532 t537 t538 t541 t545).bind fun t549 => (some t549)) = some r := H
                        have A58 := Aside0.mk A580
                        clear A580
                        replace H := Option.bind_eq_some_iff.mp H
                        obtain ⟨t549, A590, H⟩ := H
                        replace H : (some t549) = some r := H
                        have A59 := Aside0.mk A590
                        clear A590
                        obtain rfl := Option.some.inj H
                        go_wp2_with (first | ((with_reducible refine gate_callee (f := 19) rfl ?_); refine goesL_ (some 76) rfl rfl Try.func19 (by kernel_rfl) rfl #[.slice Ao13 y506.length co13] rfl zw6 ?_; (with_reducible refine (morainehelp_Spoil.calls kj33 (fun k_ => some k_ = (.slice Ao13 y506.length co13 : Value).ownBlock) (.slice Ao13 y506.length co13) y506 t548 w _ ?side1 ?side2 A58.out).mono ?_); (case side1 => exact zw5 HB.out GE517.out GE526.out); (case side2 => exact Kd.R_tight rfl HO_3.out); rintro e w60 ⟨rfl, hy0, hb, hkp⟩; refine ⟨_, rfl, ?_⟩; have n0_ := Aside0.mk (Kd.R_reok rfl hy0 (fun k_ e_ => HO_3.out.1 k_ e_)); have n1_ := Aside0.mk (Kd.R_mono (ok' := fun k_ => some k_ ≠ (.slice Ao13 y506.length co13 : Value).ownBlock ∧ some k_ ≠ (.slice Ao42 t538.length co42 : Value).ownBlock) (Kd.R_keptB (HO_518001.out) hkp (fun k_ hk_ hs_ => (hk_.1) hs_)) (fun k_ hk_ => ⟨hk_.1.1, hk_.1.2⟩)); have n2_ := Aside0.mk (Kd.R_mono (ok' := fun k_ => some k_ ≠ (.slice Ao13 y506.length co13 : Value).ownBlock ∧ some k_ ≠ (.slice Ao38 t529.length co38 : Value).ownBlock ∧ some k_ ≠ (.slice Ao42 t538.length co42 : Value).ownBlock ∧ some k_ ≠ (.slice Ao43 t541.length co43 : Value).ownBlock ∧ k_ ≠ gb517 ∧ k_ ≠ gb526) (Kd.R_keptB (HO_518002.out) hkp (fun k_ hk_ hs_ => (hk_.1) hs_)) (fun k_ hk_ => ⟨hk_.1.1, hk_.1.2.1, hk_.1.2.2.1, hk_.1.2.2.2.1, hk_.1.2.2.2.2.1, hk_.1.2.2.2.2.2⟩)); have n3_ := Aside0.mk (Kd.R_mono (ok' := fun k_ => some k_ ≠ (.slice Ao13 y506.length co13 : Value).ownBlock ∧ some k_ ≠ (.slice Ao38 t529.length co38 : Value).ownBlock) (Kd.R_keptB (HO_527001.out) hkp (fun k_ hk_ hs_ => (hk_.1) hs_)) (fun k_ hk_ => ⟨hk_.1.1, hk_.1.2⟩)); have n4_ := Aside0.mk (Kd.R_mono (ok' := fun k_ => some k_ ≠ (.slice Ao13 y506.length co13 : Value).ownBlock ∧ some k_ ≠ (.slice Ao38 t529.length co38 : Value).ownBlock ∧ some k_ ≠ (.slice Ao39 t532.length co39 : Value).ownBlock ∧ some k_ ≠ (.slice Ao42 t538.length co42 : Value).ownBlock ∧ k_ ≠ gb517 ∧ k_ ≠ gb526) (Kd.R_keptB (HO_527002.out) hkp (fun k_ hk_ hs_ => (hk_.1) hs_)) (fun k_ hk_ => ⟨hk_.1.1, hk_.1.2.1, hk_.1.2.2.1, hk_.1.2.2.2.1, hk_.1.2.2.2.2.1, hk_.1.2.2.2.2.2⟩)); have n5_ := Aside0.mk (blk_kept (zw0 BK517.out) hkp (fun hs_ => (fun e_ => (Kd.R_ne HO_3.out BK517.out (by decide)) e_) hs_)); have n6_ := Aside0.mk (blk_kept (zw0 BK526.out) hkp (fun hs_ => (fun e_ => (Kd.R_ne HO_3.out BK526.out (by decide)) e_) hs_)); have n7_ := Aside0.mk (hb); clear HO_3; clear HO_518001; clear HO_518002; clear HO_527001; clear HO_527002; clear BK517; clear BK526; clear HB; have HO_3 := n0_; have HO_518001 := n1_; have HO_518002 := n2_; have HO_527001 := n3_; have HO_527002 := n4_; have BK517 := n5_; have BK526 := n6_; have HB := n7_; clear n0_ n1_ n2_ n3_ n4_ n5_ n6_ n7_; (try clear hb); (try clear hkp); (try clear hy0); have hnb61 := NB517_526.out; have hnc61 := NB526_517.out; have hcz62_0 : w60.cell? ⟨gb517, 0, none⟩ = some (.bool t528) := (blk_cell BK517.out 0).trans rfl; have hcz62_1 : w60.cell? ⟨gb517, 1, none⟩ = some (.slice Ao38 t529.length co38) := (blk_cell BK517.out 1).trans rfl; have hcz62_2 : w60.cell? ⟨gb517, 2, none⟩ = some (.slice Ao39 t532.length co39) := (blk_cell BK517.out 2).trans rfl; have hfz62_0 := blk_frozen BK517.out 0; have hfz62_1 := blk_frozen BK517.out 1; have hfz62_2 := blk_frozen BK517.out 2; have hcz63_0 : w60.cell? ⟨gb526, 0, none⟩ = some (.bool t537) := (blk_cell BK526.out 0).trans rfl; have hcz63_1 : w60.cell? ⟨gb526, 1, none⟩ = some (.slice Ao42 t538.length co42) := (blk_cell BK526.out 1).trans rfl; have hcz63_2 : w60.cell? ⟨gb526, 2, none⟩ = some (.slice Ao43 t541.length co43) := (blk_cell BK526.out 2).trans rfl; have hfz63_0 := blk_frozen BK526.out 0; have hfz63_1 := blk_frozen BK526.out 1; have hfz63_2 := blk_frozen BK526.out 2) | ((with_reducible refine gate_callee (f := 16) rfl ?_); refine goesL_ (some 80) rfl rfl Try.func16 (by kernel_rfl) rfl #[.agg #[.bool t528, .slice Ao38 t529.length co38, .slice Ao39 t532.length co39], .agg #[.bool t537, .slice Ao42 t538.length co42, .slice Ao43 t541.length co43], .int .i64 t545] rfl zw6 ?_; (with_reducible refine (morainelaw4_same.calls kj33 t528 _ _ t529 _ _ t532 t537 _ _ t538 _ _ t541 t545 t549 _ ?side1 ?side2 ?side3 ?side4 ?side5 ?side6 ?side7 ?side8 A59.out).mono ?_); (case side1 => exact zw9 HO_518001.out); (case side2 => exact (Kd.R_reads' HO_518001.out).2.1); (case side3 => exact zw9 HO_518002.out); (case side4 => exact (Kd.R_reads' HO_518002.out).2.1); (case side5 => exact zw9 HO_527001.out); (case side6 => exact (Kd.R_reads' HO_527001.out).2.1); (case side7 => exact zw9 HO_527002.out); (case side8 => exact (Kd.R_reads' HO_527002.out).2.1); rintro e w64 ⟨rfl, hb⟩; refine ⟨_, rfl, ?_⟩; have n0_ := Aside0.mk (Kd.R_below (zw1 HO_3.out) hb); have n1_ := Aside0.mk (Kd.R_below (zw1 HO_518001.out) hb); have n2_ := Aside0.mk (Kd.R_below (zw1 HO_518002.out) hb); have n3_ := Aside0.mk (Kd.R_below (zw1 HO_527001.out) hb); have n4_ := Aside0.mk (Kd.R_below (zw1 HO_527002.out) hb); have n5_ := Aside0.mk (blk_below (g := gb517) (o := .cells #[.bool t528, .slice Ao38 t529.length co38, .slice Ao39 t532.length co39] 25 (0, 0)) (zw0 BK517.out) hb); have n6_ := Aside0.mk (blk_below (g := gb526) (o := .cells #[.bool t537, .slice Ao42 t538.length co42, .slice Ao43 t541.length co43] 25 (0, 0)) (zw0 BK526.out) hb); have n7_ := Aside0.mk (below_step (zw5 HB.out GE517.out GE526.out) hb); clear HO_3; clear HO_518001; clear HO_518002; clear HO_527001; clear HO_527002; clear BK517; clear BK526; clear HB; have HO_3 := n0_; have HO_518001 := n1_; have HO_518002 := n2_; have HO_527001 := n3_; have HO_527002 := n4_; have BK517 := n5_; have BK526 := n6_; have HB := n7_; clear n0_ n1_ n2_ n3_ n4_ n5_ n6_ n7_; (try clear hb); (try clear hb2); (try clear hk); (try clear hi)))
                        go_ret
                        exact ⟨by first | rfl | (simp [errW_none, errW_some] <;> rfl) | (simp [*, errW_none, errW_some] <;> rfl), by repeat (first | (with_reducible first | exact HB.out | apply below_alloc | apply pw_below_drewN | apply below_drew1 | refine below_set ?_ GE517.out | refine below_set ?_ GE526.out) | exact HB.out)⟩
          · rw [if_neg c8] at H
            exact absurd H (by simp)
  · replace c3 := Bool.eq_false_iff.mpr c3
    subst c3
    have H1 : (some false) = some r := by rw [if_neg (show ¬ (false = true) by decide)] at H; exact H
    clear H
    have H := H1
    clear H1
    obtain rfl := Option.some.inj H
    go_enter Try.func4, Try.ntmps4
    go_wp2_with (first | ((with_reducible refine gate_callee (f := 9) rfl ?_); refine goesL_ (some 10) rfl rfl Try.func9 (by kernel_rfl) rfl #[] rfl zw6 ?_; (with_reducible refine (morainelaw4_known.calls k  false _ A2.out).mono ?_); rintro e w65 ⟨rfl, hb⟩; refine ⟨_, rfl, ?_⟩; have n0_ := Aside0.mk (below_step (zw2 HB.out) hb); clear HB; have HB := n0_; clear n0_; (try clear hb); (try clear hb2); (try clear hk); (try clear hi)))
    go_ret
    exact ⟨by first | rfl | (simp [errW_none, errW_some] <;> rfl) | (simp [*, errW_none, errW_some] <;> rfl), by repeat (first | (with_reducible first | exact HB.out | apply below_alloc | apply pw_below_drewN | apply below_drew1) | exact HB.out)⟩

/-- THE ONE PURE STATEMENT of morainelaw4_RlpDecodes: yours. -/
def morainelaw4_RlpDecodes.Pure : Prop := ∀ (l0 : List Int), l0.length ≤ maxLen → l0.length * 1 ≤ 140737488351232 → (∀ x ∈ l0, (Lit.int .u8 x).wf = true) → ∃ k, morainelaw4_RlpDecodes.f k l0 = some true
theorem morainelaw4_RlpDecodes.walk (P : morainelaw4_RlpDecodes.Pure) (a0 : Option Addr) (len0 cap0 : Nat) (z0 : List Int) (w : World) (w0 : (a0 = none ∧ len0 = 0 ∧ cap0 = 0 ∧ z0 = []) ∨ ∃ x, a0 = some x ∧ len0 ≤ cap0 ∧ cap0 ≤ maxLen ∧ z0.length = cap0 ∧ (∀ i, i < z0.length → w.cell? (x.add i) = some (.int .u8 (z0.getD i 0))) ∧ ∀ n ∈ z0, (Lit.int .u8 n).wf = true) (y0 : len0 * 1 ≤ 140737488351232) :
    Calls Try.prog 4 #[.slice a0 len0 cap0] w fun e w' => e = .returned (.bool true) ∧ Below w.heap.size w w' := by
  obtain ⟨l0, rfl, hr0, hm0, hw0, hc0⟩ := ReadsInt.ofRowC w0
  obtain ⟨k, h⟩ := P l0 hm0 y0 hw0
  refine (morainelaw4_RlpDecodes.calls k _ _ l0 true w (Kd.C_of_reads (d := (0 : Int)) (h1 := fun _ => rfl) hr0) hc0 h).mono ?_
  rintro e w' ⟨rfl, hd⟩
  exact ⟨rfl, hd⟩

end Go.Proofs.Ytbobnopnfjcajaa.P
