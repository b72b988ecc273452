-- Written by a program of this session out of the translation.
import Derived.Test.YteogjahkccmfaaaPx0
import Derived.Test.YteogjahkccmfaaaPx8
import Derived.Test.YteogjahkccmfaaaPx14
import Derived.Test.YteogjahkccmfaaaPx16
import Derived.Test.YteogjahkccmfaaaPx19
import Derived.Test.YteogjahkccmfaaaPx20
import Derived.Test.YteogjahkccmfaaaPx21
namespace Go.Proofs.Yteogjahkccmfaaa.P
open Go.RowKit Go.Proofs.YteogjahkccmfaaaW.PrintWords Go.Proofs.YteogjahkccmfaaaW.PrintLast Go.Proofs.YteogjahkccmfaaaW.PrintMore
attribute [local go_sem] max2_int min2_int max_two min_two max_three min_three max_four min_four   -- for this text's walks alone
set_option linter.unusedVariables false
set_option linter.unusedSimpArgs false

/-! ### morainelaw2_CodecTakes: function 5 -/
mutual
def morainelaw2_CodecTakes.j0 : Nat → List Int → Bool → Option (Bool)
  | 0, _, _ => none
  | k + 1, x0, x39 => if x39 = true then (some false) else ((codec_Unfixed8.f k x0).bind fun bt222 => ((codec_Unfixed4.f k x0).bind fun bt224 => (if (x0.length : Int) < 8 then (if bt222.2 = 20 then (if bt222.1 = 0 then (if (x0.length : Int) ≥ 8 then (if bt222.2 = 0 then ((moraineref2_Unfixed.f k x0 0 8).bind fun t226 => (morainelaw2_CodecTakes.j1 k x0 bt224.1 bt224.2 (bt222.1 != t226))) else (morainelaw2_CodecTakes.j1 k x0 bt224.1 bt224.2 true)) else (morainelaw2_CodecTakes.j1 k x0 bt224.1 bt224.2 false)) else (morainelaw2_CodecTakes.j1 k x0 bt224.1 bt224.2 true)) else (morainelaw2_CodecTakes.j1 k x0 bt224.1 bt224.2 true)) else (if (x0.length : Int) ≥ 8 then (if bt222.2 = 0 then ((moraineref2_Unfixed.f k x0 0 8).bind fun t227 => (morainelaw2_CodecTakes.j1 k x0 bt224.1 bt224.2 (bt222.1 != t227))) else (morainelaw2_CodecTakes.j1 k x0 bt224.1 bt224.2 true)) else (morainelaw2_CodecTakes.j1 k x0 bt224.1 bt224.2 false)))))
def morainelaw2_CodecTakes.j1 : Nat → List Int → Int → Int → Bool → Option (Bool)
  | 0, _, _, _, _ => none
  | k + 1, x0, x11, x12, x75 => if x75 = true then (some false) else (if (x0.length : Int) < 4 then (if x12 = 20 then (some (x11 == 0)) else (some false)) else (if x12 = 0 then ((moraineref2_Unfixed.f k x0 0 4).bind fun t228 => (some ((IntKind.u64.wrap (x11)) == t228))) else (some false)))
end
def morainelaw2_CodecTakes.f (k : Nat) (l0 : List Int) : Option (Bool) := (morainelaw2_known.f).bind fun t215 => (if t215 = true then ((codec_Take.f k l0).bind fun bt216 => ((moraineref2_Take.f k l0 0).bind fun bt219 => (if bt216.1 = bt219.1 then (if bt216.2.1 = bt219.2.1 then (morainelaw2_CodecTakes.j0 k l0 (bt216.2.2 != bt219.2.2)) else (morainelaw2_CodecTakes.j0 k l0 true)) else (morainelaw2_CodecTakes.j0 k l0 true)))) else (some false))
theorem morainelaw2_CodecTakes.mono_l : ∀ k, (∀ y0 y1, LeO (morainelaw2_CodecTakes.j0 k y0 y1) (morainelaw2_CodecTakes.j0 (k + 1) y0 y1)) ∧ (∀ y0 y1 y2 y3, LeO (morainelaw2_CodecTakes.j1 k y0 y1 y2 y3) (morainelaw2_CodecTakes.j1 (k + 1) y0 y1 y2 y3))
  | 0 => ⟨fun _ _ r h => by simp [morainelaw2_CodecTakes.j0] at h, fun _ _ _ _ r h => by simp [morainelaw2_CodecTakes.j1] at h⟩
  | k + 1 => by
    obtain ⟨ih0, ih1⟩ := morainelaw2_CodecTakes.mono_l k
    refine ⟨?_, ?_⟩
    · intro y0 y1
      unfold morainelaw2_CodecTakes.j0
      repeat' first
      | (with_reducible exact ih0 _ _)
      | (with_reducible exact ih1 _ _ _ _)
      | (with_reducible exact codec_Take.mono _ _)
      | (with_reducible exact codec_Unfixed4.mono _ _)
      | (with_reducible exact codec_Unfixed8.mono _ _)
      | (with_reducible exact moraineref2_Take.mono _ _ _)
      | (with_reducible exact moraineref2_Unfixed.mono _ _ _ _)
      | (with_reducible exact LeO.refl _)
      | (with_reducible exact LeO.none _)
      | (with_reducible refine LeO.ite ?_ ?_)
      | (with_reducible refine LeO.bind ?_ (fun _ => ?_))
      | exact ih0 _ _
      | exact ih1 _ _ _ _
      | exact codec_Take.mono _ _
      | exact codec_Unfixed4.mono _ _
      | exact codec_Unfixed8.mono _ _
      | exact moraineref2_Take.mono _ _ _
      | exact moraineref2_Unfixed.mono _ _ _ _
      | exact LeO.none _
      | refine LeO.ite ?_ ?_
      | refine LeO.bind ?_ (fun _ => ?_)
    · intro y0 y1 y2 y3
      unfold morainelaw2_CodecTakes.j1
      repeat' first
      | (with_reducible exact ih0 _ _)
      | (with_reducible exact ih1 _ _ _ _)
      | (with_reducible exact codec_Take.mono _ _)
      | (with_reducible exact codec_Unfixed4.mono _ _)
      | (with_reducible exact codec_Unfixed8.mono _ _)
      | (with_reducible exact moraineref2_Take.mono _ _ _)
      | (with_reducible exact moraineref2_Unfixed.mono _ _ _ _)
      | (with_reducible exact LeO.refl _)
      | (with_reducible exact LeO.none _)
      | (with_reducible refine LeO.ite ?_ ?_)
      | (with_reducible refine LeO.bind ?_ (fun _ => ?_))
      | exact ih0 _ _
      | exact ih1 _ _ _ _
      | exact codec_Take.mono _ _
      | exact codec_Unfixed4.mono _ _
      | exact codec_Unfixed8.mono _ _
      | exact moraineref2_Take.mono _ _ _
      | exact moraineref2_Unfixed.mono _ _ _ _
      | exact LeO.none _
      | refine LeO.ite ?_ ?_
      | refine LeO.bind ?_ (fun _ => ?_)
theorem morainelaw2_CodecTakes.mono : ∀ a0 k, LeO (morainelaw2_CodecTakes.f k a0) (morainelaw2_CodecTakes.f (k + 1) a0) := by
  intro a0 k
  obtain ⟨ih0, ih1⟩ := morainelaw2_CodecTakes.mono_l k
  unfold morainelaw2_CodecTakes.f
  repeat' first
      | (with_reducible exact ih0 _ _)
      | (with_reducible exact ih1 _ _ _ _)
      | (with_reducible exact codec_Take.mono _ _)
      | (with_reducible exact codec_Unfixed4.mono _ _)
      | (with_reducible exact codec_Unfixed8.mono _ _)
      | (with_reducible exact moraineref2_Take.mono _ _ _)
      | (with_reducible exact moraineref2_Unfixed.mono _ _ _ _)
      | (with_reducible exact LeO.refl _)
      | (with_reducible exact LeO.none _)
      | (with_reducible refine LeO.ite ?_ ?_)
      | (with_reducible refine LeO.bind ?_ (fun _ => ?_))
      | exact ih0 _ _
      | exact ih1 _ _ _ _
      | exact codec_Take.mono _ _
      | exact codec_Unfixed4.mono _ _
      | exact codec_Unfixed8.mono _ _
      | exact moraineref2_Take.mono _ _ _
      | exact moraineref2_Unfixed.mono _ _ _ _
      | exact LeO.none _
      | refine LeO.ite ?_ ?_
      | refine LeO.bind ?_ (fun _ => ?_)
set_option maxHeartbeats 8000000 in
set_option maxRecDepth 100000 in
theorem morainelaw2_CodecTakes.calls (k : Nat) (A0 : Option Addr) (c0 : Nat) (l0 : List Int) (r : Bool) (w : World) (hr0 : Kd.C (Kd.int .u8) w A0 l0.length l0) (hc0 : l0.length ≤ c0) (h : morainelaw2_CodecTakes.f k l0 = some r) :
    Calls Try.prog 5 #[.slice A0 l0.length c0] w fun e w' => e = .returned (.bool r) ∧ Below w.heap.size w w' := by
  have HR0 := Aside0.mk hr0
  have HC0 := Aside0.mk hc0
  clear hr0 hc0
  have HB := Aside0.mk (Below.refl w.heap.size w)
  have H : ((morainelaw2_known.f).bind fun t215 => (if t215 = true then ((codec_Take.f k l0).bind fun bt216 => ((moraineref2_Take.f k l0 0).bind fun bt219 => (if bt216.1 = bt219.1 then (if bt216.2.1 = bt219.2.1 then (morainelaw2_CodecTakes.j0 k l0 (bt216.2.2 != bt219.2.2)) else (morainelaw2_CodecTakes.j0 k l0 true)) else (morainelaw2_CodecTakes.j0 k l0 true)))) else (some false))) = some r := h
  clear h
  replace H := Option.bind_eq_some_iff.mp H
  obtain ⟨t215, A20, H⟩ := H
  replace H : (if t215 = true then ((codec_Take.f k l0).bind fun bt216 => ((moraineref2_Take.f k l0 0).bind fun bt219 => (if bt216.1 = bt219.1 then (if bt216.2.1 = bt219.2.1 then (morainelaw2_CodecTakes.j0 k l0 (bt216.2.2 != bt219.2.2)) else (morainelaw2_CodecTakes.j0 k l0 true)) else (morainelaw2_CodecTakes.j0 k l0 true)))) else (some false)) = some r := H
  have A2 := Aside0.mk A20
  clear A20
  by_cases c3 : t215 = true
  · subst c3
    have H1 : ((codec_Take.f k l0).bind fun bt216 => ((moraineref2_Take.f k l0 0).bind fun bt219 => (if bt216.1 = bt219.1 then (if bt216.2.1 = bt219.2.1 then (morainelaw2_CodecTakes.j0 k l0 (bt216.2.2 != bt219.2.2)) else (morainelaw2_CodecTakes.j0 k l0 true)) else (morainelaw2_CodecTakes.j0 k l0 true)))) = some r := by rw [if_pos rfl] at H; exact H
    clear H
    have H := H1
    clear H1
    replace H := Option.bind_eq_some_iff.mp H
    obtain ⟨⟨t216, t217, t218⟩, A40, H⟩ := H
    replace H : ((moraineref2_Take.f k l0 0).bind fun bt219 => (if t216 = bt219.1 then (if t217 = bt219.2.1 then (morainelaw2_CodecTakes.j0 k l0 (t218 != bt219.2.2)) else (morainelaw2_CodecTakes.j0 k l0 true)) else (morainelaw2_CodecTakes.j0 k l0 true))) = some r := H
    have A4 := Aside0.mk A40
    clear A40
    replace H := Option.bind_eq_some_iff.mp H
    obtain ⟨⟨t219, t220, t221⟩, A50, H⟩ := H
    replace H : (if t216 = t219 then (if t217 = t220 then (morainelaw2_CodecTakes.j0 k l0 (t218 != t221)) else (morainelaw2_CodecTakes.j0 k l0 true)) else (morainelaw2_CodecTakes.j0 k l0 true)) = some r := H
    have A5 := Aside0.mk A50
    clear A50
    have HC6 := Aside0.mk H
    clear H
    go_enter Try.func5, Try.ntmps5
    go_upto_region 5 with (first | ((with_reducible refine gate_callee (f := 12) rfl ?_); refine goesL_ (some 13) rfl rfl Try.func12 (by kernel_rfl) rfl #[] rfl (by (try simp only [List.map_toArray, List.map_cons, List.map_nil]); first | done | rfl | (simp only [List.length_drop, List.length_take]; rfl)) ?_; (with_reducible refine (morainelaw2_known.calls  true _ A2.out).mono ?_); rintro e w7 ⟨rfl, hb⟩; refine ⟨_, rfl, ?_⟩; have n0_ := Aside0.mk (below_step (by repeat (first | (with_reducible first | exact HB.out | apply below_alloc | apply pw_below_drewN | apply below_drew1) | exact HB.out)) hb); clear HB; have HB := n0_; clear n0_; (try clear hb); (try clear hb2); (try clear hk); (try clear hi)) | ((with_reducible refine gate_callee (f := 19) rfl ?_); refine goesL_ (some 17) rfl rfl Try.func19 (by kernel_rfl) rfl #[.slice A0 l0.length c0] rfl (by (try simp only [List.map_toArray, List.map_cons, List.map_nil]); first | done | rfl | (simp only [List.length_drop, List.length_take]; rfl)) ?_; (with_reducible refine (codec_Take.calls k _ _ l0 t216 t217 t218 _ ?side1 ?side2 A4.out).mono ?_); (case side1 => repeat (first | exact (Kd.C_below HR0.out HB.out) | (with_reducible refine Kd.C_alloc ?_ _) | (with_reducible refine Kd.C_drewN ?_ _) | (with_reducible refine Kd.C_drew ?_))); (case side2 => exact HC0.out); rintro e w' ⟨rfl, ⟨nd, rfl⟩⟩; refine ⟨_, rfl, ?_⟩) | ((with_reducible refine gate_callee (f := 20) rfl ?_); refine goesL_ (some 23) rfl rfl Try.func20 (by kernel_rfl) rfl #[.slice A0 l0.length c0, .int .i64 0] rfl (by (try simp only [List.map_toArray, List.map_cons, List.map_nil]); first | done | rfl | (simp only [List.length_drop, List.length_take]; rfl)) ?_; (with_reducible refine (moraineref2_Take.calls k _ _ l0 0 t219 t220 t221 _ ?side1 ?side2 A5.out).mono ?_); (case side1 => repeat (first | exact (Kd.C_below HR0.out (by repeat (first | (with_reducible first | exact HB.out | apply below_alloc | apply pw_below_drewN | apply below_drew1) | exact HB.out))) | (with_reducible refine Kd.C_alloc ?_ _) | (with_reducible refine Kd.C_drewN ?_ _) | (with_reducible refine Kd.C_drew ?_))); (case side2 => exact HC0.out); rintro e w' ⟨rfl, ⟨nd, rfl⟩⟩; refine ⟨_, rfl, ?_⟩))
    (try simp only [Act.put, List.setIfInBounds_toArray, List.set_cons_zero, List.set_cons_succ])
    go_cut [39] (fun v39 wc => ∃ (kq : Nat) (x39_5 : Bool), v39 = .bool x39_5 ∧ Aside0 (morainelaw2_CodecTakes.j0 kq l0 x39_5 = some r) ∧ Aside0 (kq ≤ k) ∧ Aside0 (Below w.heap.size w wc))
    case first =>
      have H := HC6.out
      clear HC6
      by_cases c8 : t216 = t219
      · rw [if_pos c8] at H
        have c8b0 : (t216 == t219) = true := beq_iff_eq.mpr c8
        have c8b1 : (t216 != t219) = false := bne_eq_false_iff_eq.mpr c8
        clear c8
        (first | rw [c8b0] | (simp only [i64_w, i32_w]; rw [c8b0]) | skip)
        by_cases c9 : t217 = t220
        · rw [if_pos c9] at H
          have c9b0 : (t217 == t220) = true := beq_iff_eq.mpr c9
          have c9b1 : (t217 != t220) = false := bne_eq_false_iff_eq.mpr c9
          clear c9
          have H' := Aside0.mk H
          clear H
          go_wp2
          go_meet
          case rel => exact ⟨_, ((t218 != t221)), (by first | rfl | (simp; done) | (simp [*]; done)), H', ⟨by first | omega | exact Nat.le_refl _⟩, ⟨by repeat (first | (with_reducible first | exact HB.out | apply below_alloc | apply pw_below_drewN | apply below_drew1) | exact HB.out)⟩⟩
        · rw [if_neg c9] at H
          have c9b0 : (t217 == t220) = false := beq_eq_false_iff_ne.mpr c9
          have c9b1 : (t217 != t220) = true := bne_iff_ne.mpr c9
          have H' := Aside0.mk H
          clear H
          go_wp2
          go_meet
          case rel => exact ⟨_, (true), (by first | rfl | (simp; done) | (simp [*]; done)), H', ⟨by first | omega | exact Nat.le_refl _⟩, ⟨by repeat (first | (with_reducible first | exact HB.out | apply below_alloc | apply pw_below_drewN | apply below_drew1) | exact HB.out)⟩⟩
      · rw [if_neg c8] at H
        have c8b0 : (t216 == t219) = false := beq_eq_false_iff_ne.mpr c8
        have c8b1 : (t216 != t219) = true := bne_iff_ne.mpr c8
        (first | rw [c8b0] | (simp only [i64_w, i32_w]; rw [c8b0]) | skip)
        have H' := Aside0.mk H
        clear H
        go_wp2
        go_meet
        case rel => exact ⟨_, (true), (by first | rfl | (simp; done) | (simp [*]; done)), H', ⟨by first | omega | exact Nat.le_refl _⟩, ⟨by repeat (first | (with_reducible first | exact HB.out | apply below_alloc | apply pw_below_drewN | apply below_drew1) | exact HB.out)⟩⟩
    case rest =>
      clear HC6
      try clear c1
      try clear c2
      try clear p2
      try clear c3
      try clear c5
      try clear c8
      try clear c8b0
      try clear c8b1
      try clear c9
      try clear c9b0
      try clear c9b1
      obtain ⟨kq, x39_5, rfl, HA, HJ5, HB⟩ := hcut
      cases kq with
      | zero => exact absurd HA.out (by simp [morainelaw2_CodecTakes.j0])
      | succ kj5 =>
        have H := HA.out
        clear HA
        simp only [morainelaw2_CodecTakes.j0] at H
        by_cases c10 : x39_5 = true
        · subst c10
          have H1 : (some false) = some r := by rw [if_pos rfl] at H; exact H
          clear H
          have H := H1
          clear H1
          obtain rfl := Option.some.inj H
          go_wp2
          go_ret
          exact ⟨by first | rfl | (simp [errW_none, errW_some] <;> rfl) | (simp [*, errW_none, errW_some] <;> rfl), by repeat (first | (with_reducible first | exact HB.out | apply below_alloc | apply pw_below_drewN | apply below_drew1) | exact HB.out)⟩
        · replace c10 := Bool.eq_false_iff.mpr c10
          subst c10
          have H1 : ((codec_Unfixed8.f kj5 l0).bind fun bt222 => ((codec_Unfixed4.f kj5 l0).bind fun bt224 => (if (l0.length : Int) < 8 then (if bt222.2 = 20 then (if bt222.1 = 0 then (if (l0.length : Int) ≥ 8 then (if bt222.2 = 0 then ((moraineref2_Unfixed.f kj5 l0 0 8).bind fun t226 => (morainelaw2_CodecTakes.j1 kj5 l0 bt224.1 bt224.2 (bt222.1 != t226))) else (morainelaw2_CodecTakes.j1 kj5 l0 bt224.1 bt224.2 true)) else (morainelaw2_CodecTakes.j1 kj5 l0 bt224.1 bt224.2 false)) else (morainelaw2_CodecTakes.j1 kj5 l0 bt224.1 bt224.2 true)) else (morainelaw2_CodecTakes.j1 kj5 l0 bt224.1 bt224.2 true)) else (if (l0.length : Int) ≥ 8 then (if bt222.2 = 0 then ((moraineref2_Unfixed.f kj5 l0 0 8).bind fun t227 => (morainelaw2_CodecTakes.j1 kj5 l0 bt224.1 bt224.2 (bt222.1 != t227))) else (morainelaw2_CodecTakes.j1 kj5 l0 bt224.1 bt224.2 true)) else (morainelaw2_CodecTakes.j1 kj5 l0 bt224.1 bt224.2 false))))) = some r := by rw [if_neg (show ¬ (false = true) by decide)] at H; exact H
          clear H
          have H := H1
          clear H1
          replace H := Option.bind_eq_some_iff.mp H
          obtain ⟨⟨t222, t223⟩, A110, H⟩ := H
          replace H : ((codec_Unfixed4.f kj5 l0).bind fun bt224 => (if (l0.length : Int) < 8 then (if t223 = 20 then (if t222 = 0 then (if (l0.length : Int) ≥ 8 then (if t223 = 0 then ((moraineref2_Unfixed.f kj5 l0 0 8).bind fun t226 => (morainelaw2_CodecTakes.j1 kj5 l0 bt224.1 bt224.2 (t222 != t226))) else (morainelaw2_CodecTakes.j1 kj5 l0 bt224.1 bt224.2 true)) else (morainelaw2_CodecTakes.j1 kj5 l0 bt224.1 bt224.2 false)) else (morainelaw2_CodecTakes.j1 kj5 l0 bt224.1 bt224.2 true)) else (morainelaw2_CodecTakes.j1 kj5 l0 bt224.1 bt224.2 true)) else (if (l0.length : Int) ≥ 8 then (if t223 = 0 then ((moraineref2_Unfixed.f kj5 l0 0 8).bind fun t227 => (morainelaw2_CodecTakes.j1 kj5 l0 bt224.1 bt224.2 (t222 != t227))) else (morainelaw2_CodecTakes.j1 kj5 l0 bt224.1 bt224.2 true)) else (morainelaw2_CodecTakes.j1 kj5 l0 bt224.1 bt224.2 false)))) = some r := H
          have A11 := Aside0.mk A110
          clear A110
          replace H := Option.bind_eq_some_iff.mp H
          obtain ⟨⟨t224, t225⟩, A120, H⟩ := H
          replace H : (if (l0.length : Int) < 8 then (if t223 = 20 then (if t222 = 0 then (if (l0.length : Int) ≥ 8 then (if t223 = 0 then ((moraineref2_Unfixed.f kj5 l0 0 8).bind fun t226 => (morainelaw2_CodecTakes.j1 kj5 l0 t224 t225 (t222 != t226))) else (morainelaw2_CodecTakes.j1 kj5 l0 t224 t225 true)) else (morainelaw2_CodecTakes.j1 kj5 l0 t224 t225 false)) else (morainelaw2_CodecTakes.j1 kj5 l0 t224 t225 true)) else (morainelaw2_CodecTakes.j1 kj5 l0 t224 t225 true)) else (if (l0.length : Int) ≥ 8 then (if t223 = 0 then ((moraineref2_Unfixed.f kj5 l0 0 8).bind fun t227 => (morainelaw2_CodecTakes.j1 kj5 l0 t224 t225 (t222 != t227))) else (morainelaw2_CodecTakes.j1 kj5 l0 t224 t225 true)) else (morainelaw2_CodecTakes.j1 kj5 l0 t224 t225 false))) = some r := H
          have A12 := Aside0.mk A120
          clear A120
          have HC13 := Aside0.mk H
          clear H
          go_upto_region 9 with (first | ((with_reducible refine gate_callee (f := 21) rfl ?_); refine goesL_ (some 42) rfl rfl Try.func21 (by kernel_rfl) rfl #[.slice A0 l0.length c0] rfl (by (try simp only [List.map_toArray, List.map_cons, List.map_nil]); first | done | rfl | (simp only [List.length_drop, List.length_take]; rfl)) ?_; (with_reducible refine (codec_Unfixed8.calls kj5 _ _ l0 t222 t223 _ ?side1 ?side2 A11.out).mono ?_); (case side1 => repeat (first | exact (Kd.C_below HR0.out HB.out) | (with_reducible refine Kd.C_alloc ?_ _) | (with_reducible refine Kd.C_drewN ?_ _) | (with_reducible refine Kd.C_drew ?_))); (case side2 => exact HC0.out); rintro e w' ⟨rfl, ⟨nd, rfl⟩⟩; refine ⟨_, rfl, ?_⟩) | ((with_reducible refine gate_callee (f := 22) rfl ?_); refine goesL_ (some 47) rfl rfl Try.func22 (by kernel_rfl) rfl #[.slice A0 l0.length c0] rfl (by (try simp only [List.map_toArray, List.map_cons, List.map_nil]); first | done | rfl | (simp only [List.length_drop, List.length_take]; rfl)) ?_; (with_reducible refine (codec_Unfixed4.calls kj5 _ _ l0 t224 t225 _ ?side1 ?side2 A12.out).mono ?_); (case side1 => repeat (first | exact (Kd.C_below HR0.out (by repeat (first | (with_reducible first | exact HB.out | apply below_alloc | apply pw_below_drewN | apply below_drew1) | exact HB.out))) | (with_reducible refine Kd.C_alloc ?_ _) | (with_reducible refine Kd.C_drewN ?_ _) | (with_reducible refine Kd.C_drew ?_))); (case side2 => exact HC0.out); rintro e w' ⟨rfl, ⟨nd, rfl⟩⟩; refine ⟨_, rfl, ?_⟩))
          (try simp only [Act.put, List.setIfInBounds_toArray, List.set_cons_zero, List.set_cons_succ])
          go_cut [75] (fun v75 wc => ∃ (kq : Nat) (x75_12 : Bool), v75 = .bool x75_12 ∧ Aside0 (morainelaw2_CodecTakes.j1 kq l0 t224 t225 x75_12 = some r) ∧ Aside0 (kq ≤ kj5) ∧ Aside0 (Below w.heap.size w wc))
          case first =>
            have H := HC13.out
            clear HC13
            by_cases c14 : (l0.length : Int) < 8
            · rw [if_pos c14] at H
              have c14b0 : decide ((l0.length : Int) < 8) = true := decide_eq_true c14
              have c14b1 : decide (l0.length < 8) = true := decide_eq_true (by omega)
              clear c14
              (first | rw [c14b0] | (simp only [i64_w, i32_w]; rw [c14b0]) | skip)
              by_cases c15 : t223 = 20
              · rw [if_pos c15] at H
                have c15b0 : (t223 == 20) = true := beq_iff_eq.mpr c15
                have c15b1 : (t223 != 20) = false := bne_eq_false_iff_eq.mpr c15
                clear c15
                by_cases c16 : t222 = 0
                · rw [if_pos c16] at H
                  have c16b0 : (t222 == 0) = true := beq_iff_eq.mpr c16
                  have c16b1 : (t222 != 0) = false := bne_eq_false_iff_eq.mpr c16
                  clear c16
                  by_cases c17 : (l0.length : Int) ≥ 8
                  · rw [if_pos c17] at H
                    have c17b0 : decide (8 ≤ (l0.length : Int)) = true := decide_eq_true c17
                    have c17b1 : decide (8 ≤ l0.length) = true := decide_eq_true (by omega)
                    clear c17
                    by_cases c18 : t223 = 0
                    · rw [if_pos c18] at H
                      have c18b0 : (t223 == 0) = true := beq_iff_eq.mpr c18
                      have c18b1 : (t223 != 0) = false := bne_eq_false_iff_eq.mpr c18
                      clear c18
                      replace H := Option.bind_eq_some_iff.mp H
                      obtain ⟨t226, A190, H⟩ := H
                      replace H : (morainelaw2_CodecTakes.j1 kj5 l0 t224 t225 (t222 != t226)) = some r := H
                      have A19 := Aside0.mk A190
                      clear A190
                      have H' := Aside0.mk H
                      clear H
                      go_wp2_with (first | (go_at_call 23; (with_reducible refine (moraineref2_Unfixed.calls kj5 _ _ l0 0 8 t226 _ ?side1 ?side2 A19.out).mono ?_); (case side1 => repeat (first | exact (Kd.C_below HR0.out HB.out) | (with_reducible refine Kd.C_alloc ?_ _) | (with_reducible refine Kd.C_drewN ?_ _) | (with_reducible refine Kd.C_drew ?_))); (case side2 => exact HC0.out); rintro e w' ⟨rfl, ⟨nd, rfl⟩⟩))
                      go_meet
                      case rel => exact ⟨_, ((t222 != t226)), (by first | rfl | (simp; done) | (simp [*]; done)), H', ⟨by have := HJ5.out; first | omega | exact Nat.le_refl _⟩, ⟨by repeat (first | (with_reducible first | exact HB.out | apply below_alloc | apply pw_below_drewN | apply below_drew1) | exact HB.out)⟩⟩
                    · rw [if_neg c18] at H
                      have c18b0 : (t223 == 0) = false := beq_eq_false_iff_ne.mpr c18
                      have c18b1 : (t223 != 0) = true := bne_iff_ne.mpr c18
                      have H' := Aside0.mk H
                      clear H
                      go_wp2
                      go_meet
                      case rel => exact ⟨_, (true), (by first | rfl | (simp; done) | (simp [*]; done)), H', ⟨by have := HJ5.out; first | omega | exact Nat.le_refl _⟩, ⟨by repeat (first | (with_reducible first | exact HB.out | apply below_alloc | apply pw_below_drewN | apply below_drew1) | exact HB.out)⟩⟩
                  · rw [if_neg c17] at H
                    have c17b0 : decide (8 ≤ (l0.length : Int)) = false := decide_eq_false c17
                    have c17b1 : decide (8 ≤ l0.length) = false := decide_eq_false (by omega)
                    clear c17
                    have H' := Aside0.mk H
                    clear H
                    go_wp2
                    go_meet
                    case rel => exact ⟨_, (false), (by first | rfl | (simp; done) | (simp [*]; done)), H', ⟨by have := HJ5.out; first | omega | exact Nat.le_refl _⟩, ⟨by repeat (first | (with_reducible first | exact HB.out | apply below_alloc | apply pw_below_drewN | apply below_drew1) | exact HB.out)⟩⟩
                · rw [if_neg c16] at H
                  have c16b0 : (t222 == 0) = false := beq_eq_false_iff_ne.mpr c16
                  have c16b1 : (t222 != 0) = true := bne_iff_ne.mpr c16
                  have H' := Aside0.mk H
                  clear H
                  go_wp2
                  go_meet
                  case rel => exact ⟨_, (true), (by first | rfl | (simp; done) | (simp [*]; done)), H', ⟨by have := HJ5.out; first | omega | exact Nat.le_refl _⟩, ⟨by repeat (first | (with_reducible first | exact HB.out | apply below_alloc | apply pw_below_drewN | apply below_drew1) | exact HB.out)⟩⟩
              · rw [if_neg c15] at H
                have c15b0 : (t223 == 20) = false := beq_eq_false_iff_ne.mpr c15
                have c15b1 : (t223 != 20) = true := bne_iff_ne.mpr c15
                have H' := Aside0.mk H
                clear H
                go_wp2
                go_meet
                case rel => exact ⟨_, (true), (by first | rfl | (simp; done) | (simp [*]; done)), H', ⟨by have := HJ5.out; first | omega | exact Nat.le_refl _⟩, ⟨by repeat (first | (with_reducible first | exact HB.out | apply below_alloc | apply pw_below_drewN | apply below_drew1) | exact HB.out)⟩⟩
            · rw [if_neg c14] at H
              have c14b0 : decide ((l0.length : Int) < 8) = false := decide_eq_false c14
              have c14b1 : decide (l0.length < 8) = false := decide_eq_false (by omega)
              clear c14
              (first | rw [c14b0] | (simp only [i64_w, i32_w]; rw [c14b0]) | skip)
              by_cases c20 : (l0.length : Int) ≥ 8
              · rw [if_pos c20] at H
                have c20b0 : decide (8 ≤ (l0.length : Int)) = true := decide_eq_true c20
                have c20b1 : decide (8 ≤ l0.length) = true := decide_eq_true (by omega)
                clear c20
                by_cases c21 : t223 = 0
                · rw [if_pos c21] at H
                  have c21b0 : (t223 == 0) = true := beq_iff_eq.mpr c21
                  have c21b1 : (t223 != 0) = false := bne_eq_false_iff_eq.mpr c21
                  clear c21
                  replace H := Option.bind_eq_some_iff.mp H
                  obtain ⟨t227, A220, H⟩ := H
                  replace H : (morainelaw2_CodecTakes.j1 kj5 l0 t224 t225 (t222 != t227)) = some r := H
                  have A22 := Aside0.mk A220
                  clear A220
                  have H' := Aside0.mk H
                  clear H
                  go_wp2_with (first | (go_at_call 23; (with_reducible refine (moraineref2_Unfixed.calls kj5 _ _ l0 0 8 t227 _ ?side1 ?side2 A22.out).mono ?_); (case side1 => repeat (first | exact (Kd.C_below HR0.out HB.out) | (with_reducible refine Kd.C_alloc ?_ _) | (with_reducible refine Kd.C_drewN ?_ _) | (with_reducible refine Kd.C_drew ?_))); (case side2 => exact HC0.out); rintro e w' ⟨rfl, ⟨nd, rfl⟩⟩))
                  go_meet
                  case rel => exact ⟨_, ((t222 != t227)), (by first | rfl | (simp; done) | (simp [*]; done)), H', ⟨by have := HJ5.out; first | omega | exact Nat.le_refl _⟩, ⟨by repeat (first | (with_reducible first | exact HB.out | apply below_alloc | apply pw_below_drewN | apply below_drew1) | exact HB.out)⟩⟩
                · rw [if_neg c21] at H
                  have c21b0 : (t223 == 0) = false := beq_eq_false_iff_ne.mpr c21
                  have c21b1 : (t223 != 0) = true := bne_iff_ne.mpr c21
                  have H' := Aside0.mk H
                  clear H
                  go_wp2
                  go_meet
                  case rel => exact ⟨_, (true), (by first | rfl | (simp; done) | (simp [*]; done)), H', ⟨by have := HJ5.out; first | omega | exact Nat.le_refl _⟩, ⟨by repeat (first | (with_reducible first | exact HB.out | apply below_alloc | apply pw_below_drewN | apply below_drew1) | exact HB.out)⟩⟩
              · rw [if_neg c20] at H
                have c20b0 : decide (8 ≤ (l0.length : Int)) = false := decide_eq_false c20
                have c20b1 : decide (8 ≤ l0.length) = false := decide_eq_false (by omega)
                clear c20
                have H' := Aside0.mk H
                clear H
                go_wp2
                go_meet
                case rel => exact ⟨_, (false), (by first | rfl | (simp; done) | (simp [*]; done)), H', ⟨by have := HJ5.out; first | omega | exact Nat.le_refl _⟩, ⟨by repeat (first | (with_reducible first | exact HB.out | apply below_alloc | apply pw_below_drewN | apply below_drew1) | exact HB.out)⟩⟩
          case rest =>
            clear HC13
            try clear c1
            try clear c2
            try clear p2
            try clear c3
            try clear c5
            try clear c8
            try clear c8b0
            try clear c8b1
            try clear c9
            try clear c9b0
            try clear c9b1
            try clear c10
            try clear c12
            try clear c14
            try clear c14b0
            try clear c14b1
            try clear c15
            try clear c15b0
            try clear c15b1
            try clear c16
            try clear c16b0
            try clear c16b1
            try clear c17
            try clear c17b0
            try clear c17b1
            try clear c18
            try clear c18b0
            try clear c18b1
            try clear c19
            try clear c20
            try clear c20b0
            try clear c20b1
            try clear c21
            try clear c21b0
            try clear c21b1
            try clear c22
            try clear p2
            obtain ⟨kq, x75_12, rfl, HA, HJ12, HB⟩ := hcut
            cases kq with
            | zero => exact absurd HA.out (by simp [morainelaw2_CodecTakes.j1])
            | succ kj12 =>
              have H := HA.out
              clear HA
              simp only [morainelaw2_CodecTakes.j1] at H
              by_cases c23 : x75_12 = true
              · subst c23
                have H1 : (some false) = some r := by rw [if_pos rfl] at H; exact H
                clear H
                have H := H1
                clear H1
                obtain rfl := Option.some.inj H
                go_wp2
                go_ret
                exact ⟨by first | rfl | (simp [errW_none, errW_some] <;> rfl) | (simp [*, errW_none, errW_some] <;> rfl), by repeat (first | (with_reducible first | exact HB.out | apply below_alloc | apply pw_below_drewN | apply below_drew1) | exact HB.out)⟩
              · replace c23 := Bool.eq_false_iff.mpr c23
                subst c23
                have H1 : (if (l0.length : Int) < 4 then (if t225 = 20 then (some (t224 == 0)) else (some false)) else (if t225 = 0 then ((moraineref2_Unfixed.f kj12 l0 0 4).bind fun t228 => (some ((IntKind.u64.wrap (t224)) == t228))) else (some false))) = some r := by rw [if_neg (show ¬ (false = true) by decide)] at H; exact H
                clear H
                have H := H1
                clear H1
                by_cases c24 : (l0.length : Int) < 4
                · rw [if_pos c24] at H
                  have c24b0 : decide ((l0.length : Int) < 4) = true := decide_eq_true c24
                  have c24b1 : decide (l0.length < 4) = true := decide_eq_true (by omega)
                  clear c24
                  by_cases c25 : t225 = 20
                  · rw [if_pos c25] at H
                    have c25b0 : (t225 == 20) = true := beq_iff_eq.mpr c25
                    have c25b1 : (t225 != 20) = false := bne_eq_false_iff_eq.mpr c25
                    clear c25
                    obtain rfl := Option.some.inj H
                    go_wp2
                    go_ret
                    exact ⟨by first | rfl | (simp [errW_none, errW_some] <;> rfl) | (simp [*, errW_none, errW_some] <;> rfl), by repeat (first | (with_reducible first | exact HB.out | apply below_alloc | apply pw_below_drewN | apply below_drew1) | exact HB.out)⟩
                  · rw [if_neg c25] at H
                    have c25b0 : (t225 == 20) = false := beq_eq_false_iff_ne.mpr c25
                    have c25b1 : (t225 != 20) = true := bne_iff_ne.mpr c25
                    obtain rfl := Option.some.inj H
                    go_wp2
                    go_ret
                    exact ⟨by first | rfl | (simp [errW_none, errW_some] <;> rfl) | (simp [*, errW_none, errW_some] <;> rfl), by repeat (first | (with_reducible first | exact HB.out | apply below_alloc | apply pw_below_drewN | apply below_drew1) | exact HB.out)⟩
                · rw [if_neg c24] at H
                  have c24b0 : decide ((l0.length : Int) < 4) = false := decide_eq_false c24
                  have c24b1 : decide (l0.length < 4) = false := decide_eq_false (by omega)
                  clear c24
                  by_cases c26 : t225 = 0
                  · rw [if_pos c26] at H
                    have c26b0 : (t225 == 0) = true := beq_iff_eq.mpr c26
                    have c26b1 : (t225 != 0) = false := bne_eq_false_iff_eq.mpr c26
                    clear c26
                    replace H := Option.bind_eq_some_iff.mp H
                    obtain ⟨t228, A270, H⟩ := H
                    replace H : (some ((IntKind.u64.wrap (t224)) == t228)) = some r := H
                    have A27 := Aside0.mk A270
                    clear A270
                    obtain rfl := Option.some.inj H
                    go_wp2_with (first | (go_at_call 23; (with_reducible refine (moraineref2_Unfixed.calls kj12 _ _ l0 0 4 t228 _ ?side1 ?side2 A27.out).mono ?_); (case side1 => repeat (first | exact (Kd.C_below HR0.out HB.out) | (with_reducible refine Kd.C_alloc ?_ _) | (with_reducible refine Kd.C_drewN ?_ _) | (with_reducible refine Kd.C_drew ?_))); (case side2 => exact HC0.out); rintro e w' ⟨rfl, ⟨nd, rfl⟩⟩))
                    go_ret
                    exact ⟨by first | rfl | (simp [errW_none, errW_some] <;> rfl) | (simp [*, errW_none, errW_some] <;> rfl), by repeat (first | (with_reducible first | exact HB.out | apply below_alloc | apply pw_below_drewN | apply below_drew1) | exact HB.out)⟩
                  · rw [if_neg c26] at H
                    have c26b0 : (t225 == 0) = false := beq_eq_false_iff_ne.mpr c26
                    have c26b1 : (t225 != 0) = true := bne_iff_ne.mpr c26
                    obtain rfl := Option.some.inj H
                    go_wp2
                    go_ret
                    exact ⟨by first | rfl | (simp [errW_none, errW_some] <;> rfl) | (simp [*, errW_none, errW_some] <;> rfl), by repeat (first | (with_reducible first | exact HB.out | apply below_alloc | apply pw_below_drewN | apply below_drew1) | exact HB.out)⟩
  · replace c3 := Bool.eq_false_iff.mpr c3
    subst c3
    have H1 : (some false) = some r := by rw [if_neg (show ¬ (false = true) by decide)] at H; exact H
    clear H
    have H := H1
    clear H1
    obtain rfl := Option.some.inj H
    go_enter Try.func5, Try.ntmps5
    go_wp2_with (first | ((with_reducible refine gate_callee (f := 12) rfl ?_); refine goesL_ (some 13) rfl rfl Try.func12 (by kernel_rfl) rfl #[] rfl (by (try simp only [List.map_toArray, List.map_cons, List.map_nil]); first | done | rfl | (simp only [List.length_drop, List.length_take]; rfl)) ?_; (with_reducible refine (morainelaw2_known.calls  false _ A2.out).mono ?_); rintro e w28 ⟨rfl, hb⟩; refine ⟨_, rfl, ?_⟩; have n0_ := Aside0.mk (below_step (by repeat (first | (with_reducible first | exact HB.out | apply below_alloc | apply pw_below_drewN | apply below_drew1) | exact HB.out)) hb); clear HB; have HB := n0_; clear n0_; (try clear hb); (try clear hb2); (try clear hk); (try clear hi)))
    go_ret
    exact ⟨by first | rfl | (simp [errW_none, errW_some] <;> rfl) | (simp [*, errW_none, errW_some] <;> rfl), by repeat (first | (with_reducible first | exact HB.out | apply below_alloc | apply pw_below_drewN | apply below_drew1) | exact HB.out)⟩

/-- THE ONE PURE STATEMENT of morainelaw2_CodecTakes: yours. -/
def morainelaw2_CodecTakes.Pure : Prop := ∀ (l0 : List Int), l0.length ≤ maxLen → l0.length * 1 ≤ 140737488351232 → (∀ x ∈ l0, (Lit.int .u8 x).wf = true) → ∃ k, morainelaw2_CodecTakes.f k l0 = some true
theorem morainelaw2_CodecTakes.walk (P : morainelaw2_CodecTakes.Pure) (a0 : Option Addr) (len0 cap0 : Nat) (z0 : List Int) (w : World) (w0 : (a0 = none ∧ len0 = 0 ∧ cap0 = 0 ∧ z0 = []) ∨ ∃ x, a0 = some x ∧ len0 ≤ cap0 ∧ cap0 ≤ maxLen ∧ z0.length = cap0 ∧ (∀ i, i < z0.length → w.cell? (x.add i) = some (.int .u8 (z0.getD i 0))) ∧ ∀ n ∈ z0, (Lit.int .u8 n).wf = true) (y0 : len0 * 1 ≤ 140737488351232) :
    Calls Try.prog 5 #[.slice a0 len0 cap0] w fun e w' => e = .returned (.bool true) ∧ Below w.heap.size w w' := by
  obtain ⟨l0, rfl, hr0, hm0, hw0, hc0⟩ := ReadsInt.ofRowC w0
  obtain ⟨k, h⟩ := P l0 hm0 y0 hw0
  refine (morainelaw2_CodecTakes.calls k _ _ l0 true w (Kd.C_of_reads (d := (0 : Int)) (h1 := fun _ => rfl) hr0) hc0 h).mono ?_
  rintro e w' ⟨rfl, hd⟩
  exact ⟨rfl, hd⟩

end Go.Proofs.Yteogjahkccmfaaa.P
