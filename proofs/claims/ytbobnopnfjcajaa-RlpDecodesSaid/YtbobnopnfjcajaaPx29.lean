-- Written by a program of this session out of the translation.
import Derived.Test.YtbobnopnfjcajaaPx0
import Derived.Test.YtbobnopnfjcajaaPz
import Derived.Test.YtbobnopnfjcajaaPx28
namespace Go.Proofs.Ytbobnopnfjcajaa.P
open Go.RowKit Go.Proofs.YtbobnopnfjcajaaW.PrintWords Go.Proofs.YtbobnopnfjcajaaW.PrintLast Go.Proofs.YtbobnopnfjcajaaW.PrintMore
attribute [local go_sem] max2_int min2_int max_two min_two max_three min_three max_four min_four   -- for this text's walks alone
set_option linter.unusedVariables false
set_option linter.unusedSimpArgs false

/-! ### moraineref4_reader_item: function 29 -/
mutual
def moraineref4_reader_item.j0 : Nat → Int → Int → Int → Bool → List Int → Int → Int → Option (Bool × List Int × (List (S25)) × Int × Int × Int)
  | 0, _, _, _, _, _, _, _ => none
  | k + 1, x1, x2, x3, x35, x1000, x1001, x1002 => if x35 = true then ((moraineref4_reader_fault.f x1000 x1001 x1002 43).bind fun bt377 => (some (bt377.1, bt377.2.1, bt377.2.2.1, bt377.2.2.2.1, bt377.2.2.2.2.1, bt377.2.2.2.2.2))) else (if 0 ≤ x1 then (if x1 < (x1000.length : Int) then (if (wrap64 (rd x1000 x1)) < 128 then (some (false, (([(wrap64 (rd x1000 x1)) % 256] : List Int)), ([] : List (S25)), wrap64 (x1 + 1), wrap64 (x1001 + 1), x1002)) else (if (wrap64 (rd x1000 x1)) ≥ 192 then (moraineref4_reader_item.j1 k x1 x2 x3 (wrap64 (rd x1000 x1)) 192 x1000 (wrap64 (x1001 + 1)) x1002) else (moraineref4_reader_item.j1 k x1 x2 x3 (wrap64 (rd x1000 x1)) 128 x1000 (wrap64 (x1001 + 1)) x1002))) else (none)) else (none))
def moraineref4_reader_item.j1 : Nat → Int → Int → Int → Int → Int → List Int → Int → Int → Option (Bool × List Int × (List (S25)) × Int × Int × Int)
  | 0, _, _, _, _, _, _, _, _ => none
  | k + 1, x1, x2, x3, x10, x11, x1000, x1001, x1002 => if (wrap64 (x10 - x11)) > 55 then (if (wrap64 ((wrap64 (x1 + 1)) + (wrap64 ((wrap64 (x10 - x11)) - 55)))) > x2 then ((moraineref4_reader_fault.f x1000 x1001 x1002 41).bind fun bt391 => (some (bt391.1, bt391.2.1, bt391.2.2.1, bt391.2.2.2.1, bt391.2.2.2.2.1, bt391.2.2.2.2.2))) else (moraineref4_reader_item.l0 k x2 x3 x11 0 (wrap64 (x1 + 1)) (wrap64 ((wrap64 (x10 - x11)) - 55)) 0 x1000 x1001 x1002)) else (moraineref4_reader_item.j3 k x2 x3 x11 (wrap64 (x10 - x11)) (wrap64 (x1 + 1)) x1000 x1001 x1002)
def moraineref4_reader_item.j3 : Nat → Int → Int → Int → Int → Int → List Int → Int → Int → Option (Bool × List Int × (List (S25)) × Int × Int × Int)
  | 0, _, _, _, _, _, _, _, _ => none
  | k + 1, x2, x3, x11, x12, x13, x1000, x1001, x1002 => if x12 > (wrap64 (x2 - x13)) then ((moraineref4_reader_fault.f x1000 x1001 x1002 41).bind fun bt433 => (some (bt433.1, bt433.2.1, bt433.2.2.1, bt433.2.2.2.1, bt433.2.2.2.2.1, bt433.2.2.2.2.2))) else (if x11 = 128 then (if x12 = 1 then (if 0 ≤ x13 then (if x13 < (x1000.length : Int) then (if (rd x1000 x13) < 128 then ((moraineref4_reader_fault.f x1000 x1001 x1002 40).bind fun bt444 => (some (bt444.1, bt444.2.1, bt444.2.2.1, bt444.2.2.2.1, bt444.2.2.2.2.1, bt444.2.2.2.2.2))) else (if x13 ≤ (wrap64 (x13 + x12)) then (if (wrap64 (x13 + x12)) ≤ (x1000.length : Int) then (if ([] : List Int).length + ((x1000.take ((wrap64 (x13 + x12)) : Int).toNat).drop (x13 : Int).toNat).length < 140737488355328 then (some (false, (([] : List Int) ++ ((x1000.take ((wrap64 (x13 + x12)) : Int).toNat).drop (x13 : Int).toNat)), ([] : List (S25)), wrap64 (x13 + x12), x1001, x1002)) else (none)) else (none)) else (none))) else (none)) else (none)) else (if 0 ≤ x13 then (if x13 ≤ (wrap64 (x13 + x12)) then (if (wrap64 (x13 + x12)) ≤ (x1000.length : Int) then (if ([] : List Int).length + ((x1000.take ((wrap64 (x13 + x12)) : Int).toNat).drop (x13 : Int).toNat).length < 140737488355328 then (some (false, (([] : List Int) ++ ((x1000.take ((wrap64 (x13 + x12)) : Int).toNat).drop (x13 : Int).toNat)), ([] : List (S25)), wrap64 (x13 + x12), x1001, x1002)) else (none)) else (none)) else (none)) else (none))) else (moraineref4_reader_item.l1 k x3 x13 (wrap64 (x13 + x12)) x1000 x1001 x1002 true ([] : List (S25))))
def moraineref4_reader_item.l1 : Nat → Int → Int → Int → List Int → Int → Int → Bool → List (S25) → Option (Bool × List Int × (List (S25)) × Int × Int × Int)
  | 0, _, _, _, _, _, _, _, _ => none
  | k + 1, x3, x13, x16, x1000, x1001, x1002, x463000, x463002 => if x13 < x16 then (if x1002 = 0 then ((moraineref4_reader_item.f k x1000 x1001 x1002 x13 x16 (wrap64 (x3 + 1))).bind fun bt463 => (if x463002.length < 2513169434916 then (moraineref4_reader_item.l1 k x3 bt463.2.2.2.1 x16 x1000 bt463.2.2.2.2.1 bt463.2.2.2.2.2 x463000 (x463002 ++ [(⟨bt463.1, bt463.2.1, bt463.2.2.1⟩ : S25)])) else (none))) else (some (false, ([] : List Int), ([] : List (S25)), 0, x1001, x1002))) else (if x1002 = 0 then (some (x463000, ([] : List Int), x463002, x16, x1001, x1002)) else (some (false, ([] : List Int), ([] : List (S25)), 0, x1001, x1002)))
def moraineref4_reader_item.l0 : Nat → Int → Int → Int → Int → Int → Int → Int → List Int → Int → Int → Option (Bool × List Int × (List (S25)) × Int × Int × Int)
  | 0, _, _, _, _, _, _, _, _, _, _ => none
  | k + 1, x2, x3, x11, x12, x13, x14, x15, x1000, x1001, x1002 => if x15 < x14 then (if x15 < 8 then (if x12 ≤ 2147483648 then (if 0 ≤ (wrap64 (x13 + x15)) then (if (wrap64 (x13 + x15)) < (x1000.length : Int) then (moraineref4_reader_item.l0 k x2 x3 x11 (wrap64 ((wrap64 (256 * x12)) + (wrap64 (rd x1000 (wrap64 (x13 + x15)))))) x13 x14 (wrap64 (x15 + 1)) x1000 x1001 x1002) else (none)) else (none)) else (moraineref4_reader_item.l0 k x2 x3 x11 x12 x13 x14 (wrap64 (x15 + 1)) x1000 x1001 x1002)) else (moraineref4_reader_item.l0 k x2 x3 x11 x12 x13 x14 (wrap64 (x15 + 1)) x1000 x1001 x1002)) else (if 0 ≤ x13 then (if x13 < (x1000.length : Int) then (if (rd x1000 x13) = 0 then ((moraineref4_reader_fault.f x1000 x1001 x1002 40).bind fun bt403 => (some (bt403.1, bt403.2.1, bt403.2.2.1, bt403.2.2.2.1, bt403.2.2.2.2.1, bt403.2.2.2.2.2))) else (if x12 < 56 then ((moraineref4_reader_fault.f x1000 x1001 x1002 40).bind fun bt413 => (some (bt413.1, bt413.2.1, bt413.2.2.1, bt413.2.2.2.1, bt413.2.2.2.2.1, bt413.2.2.2.2.2))) else (if x12 > 2147483648 then ((moraineref4_reader_fault.f x1000 x1001 x1002 40).bind fun bt423 => (some (bt423.1, bt423.2.1, bt423.2.2.1, bt423.2.2.2.1, bt423.2.2.2.2.1, bt423.2.2.2.2.2))) else (moraineref4_reader_item.j3 k x2 x3 x11 x12 (wrap64 (x13 + x14)) x1000 x1001 x1002)))) else (none)) else (none))
def moraineref4_reader_item.f : Nat → List Int → Int → Int → Int → Int → Int → Option (Bool × List Int × (List (S25)) × Int × Int × Int)
  | 0, _, _, _, _, _, _ => none
  | k + 1, s0_0, s0_1, s0_2, a1, a2, a3 => if a1 ≥ a2 then ((moraineref4_reader_fault.f s0_0 s0_1 s0_2 41).bind fun bt367 => (some (bt367.1, bt367.2.1, bt367.2.2.1, bt367.2.2.2.1, bt367.2.2.2.2.1, bt367.2.2.2.2.2))) else (if a3 > 16 then (moraineref4_reader_item.j0 k a1 a2 a3 true s0_0 s0_1 s0_2) else (moraineref4_reader_item.j0 k a1 a2 a3 (s0_1 == 4096) s0_0 s0_1 s0_2))
end
theorem moraineref4_reader_item.mono_l : ∀ k, (∀ y0 y1 y2 y3 y4 y5, LeO (moraineref4_reader_item.f k y0 y1 y2 y3 y4 y5) (moraineref4_reader_item.f (k + 1) y0 y1 y2 y3 y4 y5)) ∧ (∀ y0 y1 y2 y3 y4 y5 y6, LeO (moraineref4_reader_item.j0 k y0 y1 y2 y3 y4 y5 y6) (moraineref4_reader_item.j0 (k + 1) y0 y1 y2 y3 y4 y5 y6)) ∧ (∀ y0 y1 y2 y3 y4 y5 y6 y7, LeO (moraineref4_reader_item.j1 k y0 y1 y2 y3 y4 y5 y6 y7) (moraineref4_reader_item.j1 (k + 1) y0 y1 y2 y3 y4 y5 y6 y7)) ∧ (∀ y0 y1 y2 y3 y4 y5 y6 y7, LeO (moraineref4_reader_item.j3 k y0 y1 y2 y3 y4 y5 y6 y7) (moraineref4_reader_item.j3 (k + 1) y0 y1 y2 y3 y4 y5 y6 y7)) ∧ (∀ y0 y1 y2 y3 y4 y5 y6 y7, LeO (moraineref4_reader_item.l1 k y0 y1 y2 y3 y4 y5 y6 y7) (moraineref4_reader_item.l1 (k + 1) y0 y1 y2 y3 y4 y5 y6 y7)) ∧ (∀ y0 y1 y2 y3 y4 y5 y6 y7 y8 y9, LeO (moraineref4_reader_item.l0 k y0 y1 y2 y3 y4 y5 y6 y7 y8 y9) (moraineref4_reader_item.l0 (k + 1) y0 y1 y2 y3 y4 y5 y6 y7 y8 y9))
  | 0 => ⟨fun _ _ _ _ _ _ r h => by simp [moraineref4_reader_item.f] at h, fun _ _ _ _ _ _ _ r h => by simp [moraineref4_reader_item.j0] at h, fun _ _ _ _ _ _ _ _ r h => by simp [moraineref4_reader_item.j1] at h, fun _ _ _ _ _ _ _ _ r h => by simp [moraineref4_reader_item.j3] at h, fun _ _ _ _ _ _ _ _ r h => by simp [moraineref4_reader_item.l1] at h, fun _ _ _ _ _ _ _ _ _ _ r h => by simp [moraineref4_reader_item.l0] at h⟩
  | k + 1 => by
    obtain ⟨ih0, ih1, ih2, ih3, ih4, ih5⟩ := moraineref4_reader_item.mono_l k
    refine ⟨?_, ?_, ?_, ?_, ?_, ?_⟩
    · intro y0 y1 y2 y3 y4 y5
      unfold moraineref4_reader_item.f
      repeat' first
      | (with_reducible exact ih0 _ _ _ _ _ _)
      | (with_reducible exact ih1 _ _ _ _ _ _ _)
      | (with_reducible exact ih2 _ _ _ _ _ _ _ _)
      | (with_reducible exact ih3 _ _ _ _ _ _ _ _)
      | (with_reducible exact ih4 _ _ _ _ _ _ _ _)
      | (with_reducible exact ih5 _ _ _ _ _ _ _ _ _ _)
      | (with_reducible exact LeO.refl _)
      | (with_reducible exact LeO.none _)
      | (with_reducible refine LeO.ite ?_ ?_)
      | (with_reducible refine LeO.bind ?_ (fun _ => ?_))
      | exact ih0 _ _ _ _ _ _
      | exact ih1 _ _ _ _ _ _ _
      | exact ih2 _ _ _ _ _ _ _ _
      | exact ih3 _ _ _ _ _ _ _ _
      | exact ih4 _ _ _ _ _ _ _ _
      | exact ih5 _ _ _ _ _ _ _ _ _ _
      | exact LeO.none _
      | refine LeO.ite ?_ ?_
      | refine LeO.bind ?_ (fun _ => ?_)
    · intro y0 y1 y2 y3 y4 y5 y6
      unfold moraineref4_reader_item.j0
      repeat' first
      | (with_reducible exact ih0 _ _ _ _ _ _)
      | (with_reducible exact ih1 _ _ _ _ _ _ _)
      | (with_reducible exact ih2 _ _ _ _ _ _ _ _)
      | (with_reducible exact ih3 _ _ _ _ _ _ _ _)
      | (with_reducible exact ih4 _ _ _ _ _ _ _ _)
      | (with_reducible exact ih5 _ _ _ _ _ _ _ _ _ _)
      | (with_reducible exact LeO.refl _)
      | (with_reducible exact LeO.none _)
      | (with_reducible refine LeO.ite ?_ ?_)
      | (with_reducible refine LeO.bind ?_ (fun _ => ?_))
      | exact ih0 _ _ _ _ _ _
      | exact ih1 _ _ _ _ _ _ _
      | exact ih2 _ _ _ _ _ _ _ _
      | exact ih3 _ _ _ _ _ _ _ _
      | exact ih4 _ _ _ _ _ _ _ _
      | exact ih5 _ _ _ _ _ _ _ _ _ _
      | exact LeO.none _
      | refine LeO.ite ?_ ?_
      | refine LeO.bind ?_ (fun _ => ?_)
    · intro y0 y1 y2 y3 y4 y5 y6 y7
      unfold moraineref4_reader_item.j1
      repeat' first
      | (with_reducible exact ih0 _ _ _ _ _ _)
      | (with_reducible exact ih1 _ _ _ _ _ _ _)
      | (with_reducible exact ih2 _ _ _ _ _ _ _ _)
      | (with_reducible exact ih3 _ _ _ _ _ _ _ _)
      | (with_reducible exact ih4 _ _ _ _ _ _ _ _)
      | (with_reducible exact ih5 _ _ _ _ _ _ _ _ _ _)
      | (with_reducible exact LeO.refl _)
      | (with_reducible exact LeO.none _)
      | (with_reducible refine LeO.ite ?_ ?_)
      | (with_reducible refine LeO.bind ?_ (fun _ => ?_))
      | exact ih0 _ _ _ _ _ _
      | exact ih1 _ _ _ _ _ _ _
      | exact ih2 _ _ _ _ _ _ _ _
      | exact ih3 _ _ _ _ _ _ _ _
      | exact ih4 _ _ _ _ _ _ _ _
      | exact ih5 _ _ _ _ _ _ _ _ _ _
      | exact LeO.none _
      | refine LeO.ite ?_ ?_
      | refine LeO.bind ?_ (fun _ => ?_)
    · intro y0 y1 y2 y3 y4 y5 y6 y7
      unfold moraineref4_reader_item.j3
      repeat' first
      | (with_reducible exact ih0 _ _ _ _ _ _)
      | (with_reducible exact ih1 _ _ _ _ _ _ _)
      | (with_reducible exact ih2 _ _ _ _ _ _ _ _)
      | (with_reducible exact ih3 _ _ _ _ _ _ _ _)
      | (with_reducible exact ih4 _ _ _ _ _ _ _ _)
      | (with_reducible exact ih5 _ _ _ _ _ _ _ _ _ _)
      | (with_reducible exact LeO.refl _)
      | (with_reducible exact LeO.none _)
      | (with_reducible refine LeO.ite ?_ ?_)
      | (with_reducible refine LeO.bind ?_ (fun _ => ?_))
      | exact ih0 _ _ _ _ _ _
      | exact ih1 _ _ _ _ _ _ _
      | exact ih2 _ _ _ _ _ _ _ _
      | exact ih3 _ _ _ _ _ _ _ _
      | exact ih4 _ _ _ _ _ _ _ _
      | exact ih5 _ _ _ _ _ _ _ _ _ _
      | exact LeO.none _
      | refine LeO.ite ?_ ?_
      | refine LeO.bind ?_ (fun _ => ?_)
    · intro y0 y1 y2 y3 y4 y5 y6 y7
      unfold moraineref4_reader_item.l1
      repeat' first
      | (with_reducible exact ih0 _ _ _ _ _ _)
      | (with_reducible exact ih1 _ _ _ _ _ _ _)
      | (with_reducible exact ih2 _ _ _ _ _ _ _ _)
      | (with_reducible exact ih3 _ _ _ _ _ _ _ _)
      | (with_reducible exact ih4 _ _ _ _ _ _ _ _)
      | (with_reducible exact ih5 _ _ _ _ _ _ _ _ _ _)
      | (with_reducible exact LeO.refl _)
      | (with_reducible exact LeO.none _)
      | (with_reducible refine LeO.ite ?_ ?_)
      | (with_reducible refine LeO.bind ?_ (fun _ => ?_))
      | exact ih0 _ _ _ _ _ _
      | exact ih1 _ _ _ _ _ _ _
      | exact ih2 _ _ _ _ _ _ _ _
      | exact ih3 _ _ _ _ _ _ _ _
      | exact ih4 _ _ _ _ _ _ _ _
      | exact ih5 _ _ _ _ _ _ _ _ _ _
      | exact LeO.none _
      | refine LeO.ite ?_ ?_
      | refine LeO.bind ?_ (fun _ => ?_)
    · intro y0 y1 y2 y3 y4 y5 y6 y7 y8 y9
      unfold moraineref4_reader_item.l0
      repeat' first
      | (with_reducible exact ih0 _ _ _ _ _ _)
      | (with_reducible exact ih1 _ _ _ _ _ _ _)
      | (with_reducible exact ih2 _ _ _ _ _ _ _ _)
      | (with_reducible exact ih3 _ _ _ _ _ _ _ _)
      | (with_reducible exact ih4 _ _ _ _ _ _ _ _)
      | (with_reducible exact ih5 _ _ _ _ _ _ _ _ _ _)
      | (with_reducible exact LeO.refl _)
      | (with_reducible exact LeO.none _)
      | (with_reducible refine LeO.ite ?_ ?_)
      | (with_reducible refine LeO.bind ?_ (fun _ => ?_))
      | exact ih0 _ _ _ _ _ _
      | exact ih1 _ _ _ _ _ _ _
      | exact ih2 _ _ _ _ _ _ _ _
      | exact ih3 _ _ _ _ _ _ _ _
      | exact ih4 _ _ _ _ _ _ _ _
      | exact ih5 _ _ _ _ _ _ _ _ _ _
      | exact LeO.none _
      | refine LeO.ite ?_ ?_
      | refine LeO.bind ?_ (fun _ => ?_)
theorem moraineref4_reader_item.mono : ∀ a0 a1 a2 a3 a4 a5 k, LeO (moraineref4_reader_item.f k a0 a1 a2 a3 a4 a5) (moraineref4_reader_item.f (k + 1) a0 a1 a2 a3 a4 a5) := by
  intro a0 a1 a2 a3 a4 a5 k
  obtain ⟨ih0, ih1, ih2, ih3, ih4, ih5⟩ := moraineref4_reader_item.mono_l k
  exact ih0 a0 a1 a2 a3 a4 a5
set_option maxHeartbeats 8000000 in
set_option maxRecDepth 100000 in
theorem moraineref4_reader_item.calls (k : Nat) : ∀ (g : Nat) (s0_0 : List Int) (s0_1 : Int) (s0_2 : Int) (a1 : Int) (a2 : Int) (a3 : Int) (r1 : Bool) (r2 : List Int) (r3 : List (S25)) (r4 : Int) (r5 : Int) (r6 : Int) (w0 w : World) (hI : IsS65 w0 w g s0_0 s0_1 s0_2) (hB : Below w0.heap.size w0 w) (h : moraineref4_reader_item.f k s0_0 s0_1 s0_2 a1 a2 a3 = some (r1, r2, r3, r4, r5, r6)),
    Calls Try.prog 29 #[.pointer (some ⟨g, 0, none⟩), .int .i64 a1, .int .i64 a2, .int .i64 a3] w fun e w' => ∃ v1_ v2_ : Value, e = .returned (.tuple #[.agg #[.bool r1, v1_, v2_], .int .i64 r4]) ∧ Kd.R (Kd.int .u8) 5 w' w.heap.size (fun _ => True) v1_ r2 ∧ Kd.R k25 25 w' w.heap.size (fun k_ => some k_ ≠ (v1_ : Value).ownBlock) v2_ r3 ∧ IsS65 w0 w' g s0_0 r5 r6 ∧ Below w0.heap.size w0 w' ∧ KeepBut w w' g none := by
  induction k using Nat.strongRecOn with
  | _ k ih =>
  intro g s0_0 s0_1 s0_2 a1 a2 a3 r1 r2 r3 r4 r5 r6 w0 w hI hB h
  cases k with
  | zero => exact absurd h (by simp [moraineref4_reader_item.f])
  | succ k =>
  simp only [moraineref4_reader_item.f] at h
  have hu25 := Try.underlying25
  have HI0 := Aside0.mk hI
  have HK := Aside0.mk (KeepBut.refl w g none)
  have HL := Aside0.mk hB.size
  clear hI
  have HW0 := Aside0.mk hB.size
  have HB := Aside0.mk hB
  clear hB
  have H : (if a1 ≥ a2 then ((moraineref4_reader_fault.f s0_0 s0_1 s0_2 41).bind fun bt367 => (some (bt367.1, bt367.2.1, bt367.2.2.1, bt367.2.2.2.1, bt367.2.2.2.2.1, bt367.2.2.2.2.2))) else (if a3 > 16 then (moraineref4_reader_item.j0 k a1 a2 a3 true s0_0 s0_1 s0_2) else (moraineref4_reader_item.j0 k a1 a2 a3 (s0_1 == 4096) s0_0 s0_1 s0_2))) = some (r1, r2, r3, r4, r5, r6) := h
  clear h
  by_cases c5 : a1 ≥ a2
  · rw [if_pos c5] at H
    have c5b0 : decide (a2 ≤ a1) = true := decide_eq_true c5
    clear c5
    replace H := Option.bind_eq_some_iff.mp H
    obtain ⟨⟨t367, t368, t371, t374, t375, t376⟩, A60, H⟩ := H
    replace H : (some (t367, t368, t371, t374, t375, t376)) = some (r1, r2, r3, r4, r5, r6) := H
    have A6 := Aside0.mk A60
    clear A60
    simp only [Option.some.injEq, Prod.mk.injEq] at H
    obtain ⟨rfl, rfl, rfl, rfl, rfl, rfl⟩ := H
    go_enter Try.func29, Try.ntmps29
    go_wp2_with (first | ((with_reducible refine gate_dst (N := 8) rfl ?_); refine box_event ?hg (N := 8) ?hd (cs := #[.bool false, .slice none 0 0, .slice none 0 0]) (t := 25) ?hr ?_; (case hd => rfl); (case hg => rfl); (case hr => first | (go_simp; done) | (go_simp; rfl)); intro gb366 hg w7 hbox hb; have n0_ := Aside0.mk (IsS65.below (zw36 HI0.out) hb); have n1_ := Aside0.mk (KeepBut.trans (zw10 HK.out) (KeepBut.of_below hb g none) (.inl rfl)); have n2_ := Aside0.mk (below_step (zw37 HB.out HI0.out) hb); have n3_ := Aside0.mk (hbox); have n4_ := Aside0.mk ((by rw [hg]; exact (keep_size (w := w) (g := g) (row := none) (zw10 HK.out)) : w.heap.size ≤ gb366)); have n5_ := Aside0.mk ((Nat.le_trans HW0.out (by rw [hg]; exact (keep_size (w := w) (g := g) (row := none) (zw10 HK.out)) : w.heap.size ≤ gb366) : w0.heap.size ≤ gb366)); have n6_ := Aside0.mk ((by rw [hg]; exact Nat.ne_of_lt (IsS65.lt (show IsS65 w0 _ g s0_0 s0_1 s0_2 from by repeat (first | (with_reducible first | exact HI0.out | apply IsS65.alloc | apply IsS65.drewN | apply IsS65.drew | apply IsS65.set_1 | apply IsS65.set_2) | exact HI0.out))) : g ≠ gb366)); have n7_ := Aside0.mk ((by rw [hg]; exact Nat.ne_of_gt (IsS65.lt (show IsS65 w0 _ g s0_0 s0_1 s0_2 from by repeat (first | (with_reducible first | exact HI0.out | apply IsS65.alloc | apply IsS65.drewN | apply IsS65.drew | apply IsS65.set_1 | apply IsS65.set_2) | exact HI0.out))) : gb366 ≠ g)); clear HI0; clear HK; clear HB; have HI0 := n0_; have HK := n1_; have HB := n2_; have BK366 := n3_; have GW366 := n4_; have GE366 := n5_; have NB0_366 := n6_; have NB366_0 := n7_; clear n0_ n1_ n2_ n3_ n4_ n5_ n6_ n7_; clear hb hbox hg) | ((with_reducible refine gate_callee (f := 38) rfl ?_); refine goesL_ (some 24) rfl rfl Try.func38 (by kernel_rfl) rfl #[.pointer (some ⟨g, 0, none⟩), .int .i64 41] rfl zw6 ?_; (with_reducible refine (moraineref4_reader_fault.calls g s0_0 s0_1 s0_2 41 t367 t368 t371 t374 t375 t376 w0 _ ?side1 ?side2 A6.out).mono ?_); (case side1 => exact zw24 HI0.out NB0_366.out); (case side2 => exact zw18 HB.out HI0.out GE366.out); rintro e w8 ⟨v369, v372, rfl, ho0, ho1, hi, hb, hk⟩; refine ⟨_, rfl, ?_⟩; have n0_ := Aside0.mk (KeepBut.blk hk (g' := gb366) (o := .cells #[.bool false, .slice none 0 0, .slice none 0 0] 25 (0, 0)) (zw0 BK366.out) NB366_0.out (by simp)); have n1_ := Aside0.mk (Kd.R_lower ho0 (keep_size (w := w) (g := g) (row := none) (zw8 HK.out GW366.out))); have n2_ := Aside0.mk (Kd.R_lower (Kd.R_newB ho1 (g := gb366) (o := .cells #[.bool false, .slice none 0 0, .slice none 0 0] 25 (0, 0)) (zw0 BK366.out)) (keep_size (w := w) (g := g) (row := none) (zw8 HK.out GW366.out))); have n3_ := Aside0.mk (KeepBut.trans (zw8 HK.out GW366.out) hk (.inl rfl)); have n4_ := Aside0.mk (hb); have n5_ := Aside0.mk (hi); clear BK366; clear HK; clear HB; clear HI0; have BK366 := n0_; have HO370 := n1_; have HO373 := n2_; have HK := n3_; have HB := n4_; have HI0 := n5_; clear n0_ n1_ n2_ n3_ n4_ n5_; (try clear hb); (try clear hb2); (try clear hk); (try clear hi); (try clear ho0); (try clear ho1); have hnb9 := NB366_0.out; have hnc9 := NB0_366.out; have hcz10_0 : w8.cell? ⟨gb366, 0, none⟩ = some (.bool false) := (blk_cell BK366.out 0).trans rfl; have hcz10_1 : w8.cell? ⟨gb366, 1, none⟩ = some (.slice none 0 0) := (blk_cell BK366.out 1).trans rfl; have hcz10_2 : w8.cell? ⟨gb366, 2, none⟩ = some (.slice none 0 0) := (blk_cell BK366.out 2).trans rfl; have hfz10_0 := blk_frozen BK366.out 0; have hfz10_1 := blk_frozen BK366.out 1; have hfz10_2 := blk_frozen BK366.out 2; obtain ⟨Ao11, co11, eo11⟩ := Kd.R_slice HO370.out; subst eo11; obtain ⟨Ao12, co12, eo12⟩ := Kd.R_slice HO373.out; subst eo12))
    refine bodyPost_ret (results_ct rfl _ _ gb366 25 #[.bool t367, .slice Ao11 t368.length co11, .slice Ao12 t371.length co12] (0, 0) _ rfl (by (with_reducible repeat (first | refine blk_drewN ?_ _ | refine blk_drew ?_ | refine blk_alloc ?_ _)); refine blk_put (cs := #[.bool t367, .slice Ao11 t368.length co11, .slice none 0 0]) ?_ 2 _ rfl; (with_reducible repeat (first | refine blk_drewN ?_ _ | refine blk_drew ?_ | refine blk_alloc ?_ _)); refine blk_put (cs := #[.bool t367, .slice none 0 0, .slice none 0 0]) ?_ 1 _ rfl; (with_reducible repeat (first | refine blk_drewN ?_ _ | refine blk_drew ?_ | refine blk_alloc ?_ _)); refine blk_put (cs := #[.bool false, .slice none 0 0, .slice none 0 0]) ?_ 0 _ rfl; (with_reducible repeat (first | refine blk_drewN ?_ _ | refine blk_drew ?_ | refine blk_alloc ?_ _)); exact BK366.out) Try.underlying25 rfl (by kernel_rfl)) rfl ?_
    exact ⟨_, _, by first | rfl | (simp [errW_none, errW_some] <;> rfl) | (simp [*, errW_none, errW_some] <;> rfl), by (with_reducible repeat (first | apply Kd.R_alloc | apply Kd.R_drewN | apply Kd.R_drew)); exact Kd.R_mono (Kd.R_far (p := ⟨gb366, 2, none⟩) (Kd.R_far (p := ⟨gb366, 1, none⟩) (Kd.R_far (p := ⟨gb366, 0, none⟩) (Kd.R_types HO370.out BK366.out (by decide)) (fun _ hk => hk.2) (.bool t367)) (fun _ hk => hk.2) (.slice Ao11 t368.length co11)) (fun _ hk => hk.2) (.slice Ao12 t371.length co12)) (fun _ hk => trivial), by (with_reducible repeat (first | apply Kd.R_alloc | apply Kd.R_drewN | apply Kd.R_drew)); exact Kd.R_mono (Kd.R_far (p := ⟨gb366, 2, none⟩) (Kd.R_far (p := ⟨gb366, 1, none⟩) (Kd.R_far (p := ⟨gb366, 0, none⟩) (Kd.R_mono HO373.out (fun k_ hk => (⟨hk, hk.2⟩ : _ ∧ k_ ≠ gb366))) (fun _ hk => hk.2) (.bool t367)) (fun _ hk => hk.2) (.slice Ao11 t368.length co11)) (fun _ hk => hk.2) (.slice Ao12 t371.length co12)) (fun _ hk => hk.1.1), by repeat (first | (with_reducible first | exact HI0.out | apply IsS65.alloc | apply IsS65.drewN | apply IsS65.drew | apply IsS65.set_1 | apply IsS65.set_2 | refine IsS65.far ?_ NB0_366.out _) | exact HI0.out), by repeat (first | (with_reducible first | exact HB.out | apply below_alloc | apply pw_below_drewN | apply below_drew1 | refine below_set ?_ (IsS65.ge HI0.out) | refine below_set ?_ GE366.out) | exact HB.out), by repeat (first | (with_reducible first | exact HK.out | apply KeepBut.set_ | apply keep_drewN | apply keep_drew | apply keep_alloc | refine keep_far ?_ GW366.out _) | exact HK.out)⟩
  · rw [if_neg c5] at H
    have c5b0 : decide (a2 ≤ a1) = false := decide_eq_false c5
    clear c5
    have HC13 := Aside0.mk H
    clear H
    go_enter Try.func29, Try.ntmps29
    go_upto_region 3 with (first | ((with_reducible refine gate_dst (N := 8) rfl ?_); refine box_event ?hg (N := 8) ?hd (cs := #[.bool false, .slice none 0 0, .slice none 0 0]) (t := 25) ?hr ?_; (case hd => rfl); (case hg => rfl); (case hr => first | (go_simp; done) | (go_simp; rfl)); intro gb366 hg w14 hbox hb; have n0_ := Aside0.mk (IsS65.below (zw36 HI0.out) hb); have n1_ := Aside0.mk (KeepBut.trans (zw10 HK.out) (KeepBut.of_below hb g none) (.inl rfl)); have n2_ := Aside0.mk (below_step (zw37 HB.out HI0.out) hb); have n3_ := Aside0.mk (hbox); have n4_ := Aside0.mk ((by rw [hg]; exact (keep_size (w := w) (g := g) (row := none) (zw10 HK.out)) : w.heap.size ≤ gb366)); have n5_ := Aside0.mk ((Nat.le_trans HW0.out (by rw [hg]; exact (keep_size (w := w) (g := g) (row := none) (zw10 HK.out)) : w.heap.size ≤ gb366) : w0.heap.size ≤ gb366)); have n6_ := Aside0.mk ((by rw [hg]; exact Nat.ne_of_lt (IsS65.lt (show IsS65 w0 _ g s0_0 s0_1 s0_2 from by repeat (first | (with_reducible first | exact HI0.out | apply IsS65.alloc | apply IsS65.drewN | apply IsS65.drew | apply IsS65.set_1 | apply IsS65.set_2) | exact HI0.out))) : g ≠ gb366)); have n7_ := Aside0.mk ((by rw [hg]; exact Nat.ne_of_gt (IsS65.lt (show IsS65 w0 _ g s0_0 s0_1 s0_2 from by repeat (first | (with_reducible first | exact HI0.out | apply IsS65.alloc | apply IsS65.drewN | apply IsS65.drew | apply IsS65.set_1 | apply IsS65.set_2) | exact HI0.out))) : gb366 ≠ g)); clear HI0; clear HK; clear HB; have HI0 := n0_; have HK := n1_; have HB := n2_; have BK366 := n3_; have GW366 := n4_; have GE366 := n5_; have NB0_366 := n6_; have NB366_0 := n7_; clear n0_ n1_ n2_ n3_ n4_ n5_ n6_ n7_; clear hb hbox hg))
    (try simp only [Act.put, List.setIfInBounds_toArray, List.set_cons_zero, List.set_cons_succ])
    go_cut [35] (fun v35 wc => ∃ (kq : Nat) (x35_12 : Bool), v35 = .bool x35_12 ∧ Aside0 (moraineref4_reader_item.j0 kq a1 a2 a3 x35_12 s0_0 s0_1 s0_2 = some (r1, r2, r3, r4, r5, r6)) ∧ Aside0 (kq ≤ k) ∧ Aside0 (wc.heap[gb366]? = some (.cells #[.bool false, (.slice none 0 0), (.slice none 0 0)] 25 (0, 0))) ∧ Aside0 (IsS65 w0 wc g s0_0 s0_1 s0_2) ∧ Aside0 (KeepBut w wc g none) ∧ Aside0 (Below w0.heap.size w0 wc))
    case first =>
      have H := HC13.out
      clear HC13
      by_cases c15 : a3 > 16
      · rw [if_pos c15] at H
        have c15b0 : decide (16 < a3) = true := decide_eq_true c15
        clear c15
        (first | rw [c15b0] | (simp only [i64_w, i32_w]; rw [c15b0]) | skip)
        have H' := Aside0.mk H
        clear H
        go_wp2
        go_meet
        case rel => exact ⟨_, (true), zw7, H', ⟨by first | omega | exact Nat.le_refl _⟩, ⟨by (with_reducible repeat (first | refine blk_drewN ?_ _ | refine blk_drew ?_ | refine blk_alloc ?_ _)); exact BK366.out⟩, ⟨by repeat (first | (with_reducible first | exact HI0.out | apply IsS65.alloc | apply IsS65.drewN | apply IsS65.drew | apply IsS65.set_1 | apply IsS65.set_2 | refine IsS65.far ?_ NB0_366.out _) | exact HI0.out)⟩, ⟨by repeat (first | (with_reducible first | exact HK.out | apply KeepBut.set_ | apply keep_drewN | apply keep_drew | apply keep_alloc | refine keep_far ?_ GW366.out _) | exact HK.out)⟩, ⟨by repeat (first | (with_reducible first | exact HB.out | apply below_alloc | apply pw_below_drewN | apply below_drew1 | refine below_set ?_ (IsS65.ge HI0.out) | refine below_set ?_ GE366.out) | exact HB.out)⟩⟩
      · rw [if_neg c15] at H
        have c15b0 : decide (16 < a3) = false := decide_eq_false c15
        clear c15
        (first | rw [c15b0] | (simp only [i64_w, i32_w]; rw [c15b0]) | skip)
        have H' := Aside0.mk H
        clear H
        obtain ⟨ASz16_0, cSz16_0, HGz16, hgz16, ⟨HSz16_0, HCSz16_0⟩⟩ := HI0.out
        have hcz16_0 := cellS65_0 HGz16
        have hcz16_1 := cellS65_1 HGz16
        have hcz16_2 := cellS65_2 HGz16
        have hfz16_1 := blk_frozen HGz16 1
        have hfz16_2 := blk_frozen HGz16 2
        clear HGz16 hgz16
        go_wp2
        go_meet
        case rel => exact ⟨_, ((s0_1 == 4096)), zw7, H', ⟨by first | omega | exact Nat.le_refl _⟩, ⟨by (with_reducible repeat (first | refine blk_drewN ?_ _ | refine blk_drew ?_ | refine blk_alloc ?_ _)); exact BK366.out⟩, ⟨by repeat (first | (with_reducible first | exact HI0.out | apply IsS65.alloc | apply IsS65.drewN | apply IsS65.drew | apply IsS65.set_1 | apply IsS65.set_2 | refine IsS65.far ?_ NB0_366.out _) | exact HI0.out)⟩, ⟨by repeat (first | (with_reducible first | exact HK.out | apply KeepBut.set_ | apply keep_drewN | apply keep_drew | apply keep_alloc | refine keep_far ?_ GW366.out _) | exact HK.out)⟩, ⟨by repeat (first | (with_reducible first | exact HB.out | apply below_alloc | apply pw_below_drewN | apply below_drew1 | refine below_set ?_ (IsS65.ge HI0.out) | refine below_set ?_ GE366.out) | exact HB.out)⟩⟩
    case rest =>
      clear HC13
      try clear c1
      try clear c2
      try clear p2
      try clear c3
      try clear c5
      try clear c5b0
      try clear c9
      try clear c15
      try clear c15b0
      try clear hcz10_0
      try clear hcz10_1
      try clear hcz10_2
      try clear hcz16_0
      try clear hcz16_1
      try clear hcz16_2
      try clear hfz10_0
      try clear hfz10_1
      try clear hfz10_2
      try clear hfz16_1
      try clear hfz16_2
      obtain ⟨kq, x35_12, rfl, HA, HJ12, BK366, HI0, HK, HB⟩ := hcut
      cases kq with
      | zero => exact absurd HA.out (by simp [moraineref4_reader_item.j0])
      | succ kj12 =>
        have H := HA.out
        clear HA
        simp only [moraineref4_reader_item.j0] at H
        by_cases c17 : x35_12 = true
        · subst c17
          have H1 : ((moraineref4_reader_fault.f s0_0 s0_1 s0_2 43).bind fun bt377 => (some (bt377.1, bt377.2.1, bt377.2.2.1, bt377.2.2.2.1, bt377.2.2.2.2.1, bt377.2.2.2.2.2))) = some (r1, r2, r3, r4, r5, r6) := by rw [if_pos rfl] at H; exact H
          clear H
          have H := H1
          clear H1
          replace H := Option.bind_eq_some_iff.mp H
          obtain ⟨⟨t377, t378, t381, t384, t385, t386⟩, A180, H⟩ := H
          replace H : (some (t377, t378, t381, t384, t385, t386)) = some (r1, r2, r3, r4, r5, r6) := H
          have A18 := Aside0.mk A180
          clear A180
          simp only [Option.some.injEq, Prod.mk.injEq] at H
          obtain ⟨rfl, rfl, rfl, rfl, rfl, rfl⟩ := H
          go_wp2_with (first | ((with_reducible refine gate_callee (f := 38) rfl ?_); refine goesL_ (some 37) rfl rfl Try.func38 (by kernel_rfl) rfl #[.pointer (some ⟨g, 0, none⟩), .int .i64 43] rfl zw6 ?_; (with_reducible refine (moraineref4_reader_fault.calls g s0_0 s0_1 s0_2 43 t377 t378 t381 t384 t385 t386 w0 _ ?side1 ?side2 A18.out).mono ?_); (case side1 => exact zw24 HI0.out NB0_366.out); (case side2 => exact zw18 HB.out HI0.out GE366.out); rintro e w19 ⟨v379, v382, rfl, ho0, ho1, hi, hb, hk⟩; refine ⟨_, rfl, ?_⟩; have n0_ := Aside0.mk (KeepBut.blk hk (g' := gb366) (o := .cells #[.bool false, .slice none 0 0, .slice none 0 0] 25 (0, 0)) (zw0 BK366.out) NB366_0.out (by simp)); have n1_ := Aside0.mk (Kd.R_lower ho0 (keep_size (w := w) (g := g) (row := none) (zw8 HK.out GW366.out))); have n2_ := Aside0.mk (Kd.R_lower (Kd.R_newB ho1 (g := gb366) (o := .cells #[.bool false, .slice none 0 0, .slice none 0 0] 25 (0, 0)) (zw0 BK366.out)) (keep_size (w := w) (g := g) (row := none) (zw8 HK.out GW366.out))); have n3_ := Aside0.mk (KeepBut.trans (zw8 HK.out GW366.out) hk (.inl rfl)); have n4_ := Aside0.mk (hb); have n5_ := Aside0.mk (hi); clear BK366; clear HK; clear HB; clear HI0; have BK366 := n0_; have HO380 := n1_; have HO383 := n2_; have HK := n3_; have HB := n4_; have HI0 := n5_; clear n0_ n1_ n2_ n3_ n4_ n5_; (try clear hb); (try clear hb2); (try clear hk); (try clear hi); (try clear ho0); (try clear ho1); have hnb20 := NB366_0.out; have hnc20 := NB0_366.out; have hcz21_0 : w19.cell? ⟨gb366, 0, none⟩ = some (.bool false) := (blk_cell BK366.out 0).trans rfl; have hcz21_1 : w19.cell? ⟨gb366, 1, none⟩ = some (.slice none 0 0) := (blk_cell BK366.out 1).trans rfl; have hcz21_2 : w19.cell? ⟨gb366, 2, none⟩ = some (.slice none 0 0) := (blk_cell BK366.out 2).trans rfl; have hfz21_0 := blk_frozen BK366.out 0; have hfz21_1 := blk_frozen BK366.out 1; have hfz21_2 := blk_frozen BK366.out 2; obtain ⟨Ao22, co22, eo22⟩ := Kd.R_slice HO380.out; subst eo22; obtain ⟨Ao23, co23, eo23⟩ := Kd.R_slice HO383.out; subst eo23))
          refine bodyPost_ret (results_ct rfl _ _ gb366 25 #[.bool t377, .slice Ao22 t378.length co22, .slice Ao23 t381.length co23] (0, 0) _ rfl (by (with_reducible repeat (first | refine blk_drewN ?_ _ | refine blk_drew ?_ | refine blk_alloc ?_ _)); refine blk_put (cs := #[.bool t377, .slice Ao22 t378.length co22, .slice none 0 0]) ?_ 2 _ rfl; (with_reducible repeat (first | refine blk_drewN ?_ _ | refine blk_drew ?_ | refine blk_alloc ?_ _)); refine blk_put (cs := #[.bool t377, .slice none 0 0, .slice none 0 0]) ?_ 1 _ rfl; (with_reducible repeat (first | refine blk_drewN ?_ _ | refine blk_drew ?_ | refine blk_alloc ?_ _)); refine blk_put (cs := #[.bool false, .slice none 0 0, .slice none 0 0]) ?_ 0 _ rfl; (with_reducible repeat (first | refine blk_drewN ?_ _ | refine blk_drew ?_ | refine blk_alloc ?_ _)); exact BK366.out) Try.underlying25 rfl (by kernel_rfl)) rfl ?_
          exact ⟨_, _, by first | rfl | (simp [errW_none, errW_some] <;> rfl) | (simp [*, errW_none, errW_some] <;> rfl), by (with_reducible repeat (first | apply Kd.R_alloc | apply Kd.R_drewN | apply Kd.R_drew)); exact Kd.R_mono (Kd.R_far (p := ⟨gb366, 2, none⟩) (Kd.R_far (p := ⟨gb366, 1, none⟩) (Kd.R_far (p := ⟨gb366, 0, none⟩) (Kd.R_types HO380.out BK366.out (by decide)) (fun _ hk => hk.2) (.bool t377)) (fun _ hk => hk.2) (.slice Ao22 t378.length co22)) (fun _ hk => hk.2) (.slice Ao23 t381.length co23)) (fun _ hk => trivial), by (with_reducible repeat (first | apply Kd.R_alloc | apply Kd.R_drewN | apply Kd.R_drew)); exact Kd.R_mono (Kd.R_far (p := ⟨gb366, 2, none⟩) (Kd.R_far (p := ⟨gb366, 1, none⟩) (Kd.R_far (p := ⟨gb366, 0, none⟩) (Kd.R_mono HO383.out (fun k_ hk => (⟨hk, hk.2⟩ : _ ∧ k_ ≠ gb366))) (fun _ hk => hk.2) (.bool t377)) (fun _ hk => hk.2) (.slice Ao22 t378.length co22)) (fun _ hk => hk.2) (.slice Ao23 t381.length co23)) (fun _ hk => hk.1.1), by repeat (first | (with_reducible first | exact HI0.out | apply IsS65.alloc | apply IsS65.drewN | apply IsS65.drew | apply IsS65.set_1 | apply IsS65.set_2 | refine IsS65.far ?_ NB0_366.out _) | exact HI0.out), by repeat (first | (with_reducible first | exact HB.out | apply below_alloc | apply pw_below_drewN | apply below_drew1 | refine below_set ?_ (IsS65.ge HI0.out) | refine below_set ?_ GE366.out) | exact HB.out), by repeat (first | (with_reducible first | exact HK.out | apply KeepBut.set_ | apply keep_drewN | apply keep_drew | apply keep_alloc | refine keep_far ?_ GW366.out _) | exact HK.out)⟩
        · replace c17 := Bool.eq_false_iff.mpr c17
          subst c17
          have H1 : (if 0 ≤ a1 then (if a1 < (s0_0.length : Int) then (if (wrap64 (rd s0_0 a1)) < 128 then (some (false, (([(wrap64 (rd s0_0 a1)) % 256] : List Int)), ([] : List (S25)), wrap64 (a1 + 1), wrap64 (s0_1 + 1), s0_2)) else (if (wrap64 (rd s0_0 a1)) ≥ 192 then (moraineref4_reader_item.j1 kj12 a1 a2 a3 (wrap64 (rd s0_0 a1)) 192 s0_0 (wrap64 (s0_1 + 1)) s0_2) else (moraineref4_reader_item.j1 kj12 a1 a2 a3 (wrap64 (rd s0_0 a1)) 128 s0_0 (wrap64 (s0_1 + 1)) s0_2))) else (none)) else (none)) = some (r1, r2, r3, r4, r5, r6) := by rw [if_neg (show ¬ (false = true) by decide)] at H; exact H
          clear H
          have H := H1
          clear H1
          by_cases c24 : 0 ≤ a1
          · rw [if_pos c24] at H
            have c24b0 : decide (0 ≤ a1) = true := decide_eq_true c24
            clear c24
            by_cases c25 : a1 < (s0_0.length : Int)
            · rw [if_pos c25] at H
              have c25b0 : decide (a1 < (s0_0.length : Int)) = true := decide_eq_true c25
              clear c25
              by_cases c26 : (wrap64 (rd s0_0 a1)) < 128
              · rw [if_pos c26] at H
                have c26b0 : decide ((wrap64 (rd s0_0 a1)) < 128) = true := decide_eq_true c26
                clear c26
                obtain ⟨y388, hy388⟩ : ∃ y_ : List Int, y_ = (([(wrap64 (rd s0_0 a1)) % 256] : List Int)) := ⟨_, rfl⟩
                replace H : (some (false, y388, ([] : List (S25)), wrap64 (a1 + 1), wrap64 (s0_1 + 1), s0_2)) = some (r1, r2, r3, r4, r5, r6) := by first | (rw [hy388]; with_reducible exact H) | (have H2_ := (Option.bind_some _ _).symm.trans H; rw [hy388]; with_reducible exact H2_) | (have H2_ := (Option.bind_some _ _).symm.trans H; with_reducible exact H2_) | with_reducible exact H | (rw [hy388]; exact H) | exact H
                have Ny388 := Aside0.mk hy388
                clear hy388
                simp only [Option.some.injEq, Prod.mk.injEq] at H
                obtain ⟨rfl, rfl, rfl, rfl, rfl, rfl⟩ := H
                obtain ⟨ASz27_0, cSz27_0, HGz27, hgz27, ⟨HSz27_0, HCSz27_0⟩⟩ := HI0.out
                have hcz27_0 := cellS65_0 HGz27
                have hcz27_1 := cellS65_1 HGz27
                have hcz27_2 := cellS65_2 HGz27
                have hfz27_1 := blk_frozen HGz27 1
                have hfz27_2 := blk_frozen HGz27 2
                clear HGz27 hgz27
                have p387 : 0 ≤ (a1 : Int) := of_decide_eq_true (by first | (with_reducible assumption) | assumption)
                have q387 : a1 < (s0_0.length : Int) := of_decide_eq_true (by first | (with_reducible assumption) | assumption)
                obtain ⟨ad387, e387, hx387_0⟩ := Kd.at_int HSz27_0 a1 p387 q387
                cases e387
                have hn387_0 : ad387.block ≠ g := Nat.ne_of_lt (Nat.lt_of_lt_of_le (by have := World.block_lt_of_cell? _ _ hx387_0; first | rwa [add_block] at this | exact this) (IsS65.ge HI0.out))
                replace hx387_0 := pw_cell_below HB.out hx387_0
                replace hx387_0 := (cell_far (p := ⟨g, 1, none⟩) (by first | (rw [add_block]; exact hn387_0) | (show (Addr.add _ _).block ≠ _; rw [add_block]; exact hn387_0) | exact hn387_0) (.int .i64 (wrap64 (s0_1 + 1)))).trans hx387_0
                clear hn387_0
                replace p387 := eq_true p387
                replace q387 := eq_true q387
                go_wp2_with (first | ((with_reducible refine gate_dst (N := 59) rfl ?_); refine Kd.R_lit (Kd.int .u8) _ 5 ?hg (N := 59) ?hd (xs := ([(wrap64 (rd s0_0 a1)) % 256] : List Int)) (inner := [.int .u8 ((wrap64 (rd s0_0 a1)) % 256)]) (ok := fun _ => True) (okp := fun _ => True) ?hr ?hp (fun _ hk => hk) trivial (Below.refl _ _) (Nat.le_refl _) (by simp) ?_; (case hd => rfl); (case hg => rfl); (case hr => first | (go_simp; done) | (go_simp; rfl)); (case hp => exact (Reps.one (show Kd.M (Kd.int .u8) _ _ _ ((wrap64 (rd s0_0 a1)) % 256) [.int .u8 ((wrap64 (rd s0_0 a1)) % 256)] from rfl) (Reps.none _ _))); intro v389 w28 ho29 hb hg_ hnew_; clear hg_ hnew_; (first | rw [← Ny388.out] at ho29 | (simp only [Int.reduceToNat] at ho29; rw [← Ny388.out] at ho29)); have n0_ := Aside0.mk (Kd.R_lower ho29 (keep_size (w := w) (g := g) (row := none) (zw8 HK.out GW366.out))); have n1_ := Aside0.mk (blk_below (g := gb366) (o := .cells #[.bool false, .slice none 0 0, .slice none 0 0] 25 (0, 0)) (by (with_reducible repeat (first | refine blk_drewN ?_ _ | refine blk_drew ?_ | refine blk_alloc ?_ _)); refine blk_far ?_ NB366_0.out _; (with_reducible repeat (first | refine blk_drewN ?_ _ | refine blk_drew ?_ | refine blk_alloc ?_ _)); exact BK366.out) hb); have n2_ := Aside0.mk (IsS65.below (show IsS65 w0 (wc.setCell ⟨g, 1, none⟩ (.int .i64 (wrap64 (s0_1 + 1)))) g s0_0 (wrap64 (s0_1 + 1)) s0_2 from by repeat (first | (with_reducible first | exact HI0.out | apply IsS65.alloc | apply IsS65.drewN | apply IsS65.drew | apply IsS65.set_1 | apply IsS65.set_2 | refine IsS65.far ?_ NB0_366.out _) | exact HI0.out)) hb); have n3_ := Aside0.mk (KeepBut.trans (zw8 HK.out GW366.out) (KeepBut.of_below hb g none) (.inl rfl)); have n4_ := Aside0.mk (below_step (zw18 HB.out HI0.out GE366.out) hb); clear BK366; clear HI0; clear HK; clear HB; have HO390 := n0_; have BK366 := n1_; have HI0 := n2_; have HK := n3_; have HB := n4_; clear n0_ n1_ n2_ n3_ n4_; clear hb ho29; obtain ⟨Ao30, co30, eo30⟩ := Kd.R_slice HO390.out; subst eo30; have hnb31 := NB366_0.out; have hnc31 := NB0_366.out; have hcz32_0 : w28.cell? ⟨gb366, 0, none⟩ = some (.bool false) := (blk_cell BK366.out 0).trans rfl; have hcz32_1 : w28.cell? ⟨gb366, 1, none⟩ = some (.slice none 0 0) := (blk_cell BK366.out 1).trans rfl; have hcz32_2 : w28.cell? ⟨gb366, 2, none⟩ = some (.slice none 0 0) := (blk_cell BK366.out 2).trans rfl; have hfz32_0 := blk_frozen BK366.out 0; have hfz32_1 := blk_frozen BK366.out 1; have hfz32_2 := blk_frozen BK366.out 2))
                refine bodyPost_ret (results_ct rfl _ _ gb366 25 #[.bool false, .slice Ao30 y388.length co30, .slice none 0 0] (0, 0) _ rfl (by (with_reducible repeat (first | refine blk_drewN ?_ _ | refine blk_drew ?_ | refine blk_alloc ?_ _)); refine blk_put (cs := #[.bool false, .slice Ao30 y388.length co30, .slice none 0 0]) ?_ 2 _ rfl; (with_reducible repeat (first | refine blk_drewN ?_ _ | refine blk_drew ?_ | refine blk_alloc ?_ _)); refine blk_put (cs := #[.bool false, .slice none 0 0, .slice none 0 0]) ?_ 1 _ rfl; (with_reducible repeat (first | refine blk_drewN ?_ _ | refine blk_drew ?_ | refine blk_alloc ?_ _)); refine blk_put (cs := #[.bool false, .slice none 0 0, .slice none 0 0]) ?_ 0 _ rfl; (with_reducible repeat (first | refine blk_drewN ?_ _ | refine blk_drew ?_ | refine blk_alloc ?_ _)); exact BK366.out) Try.underlying25 rfl (by kernel_rfl)) rfl ?_
                exact ⟨_, _, by first | rfl | (simp [errW_none, errW_some] <;> rfl) | (simp [*, errW_none, errW_some] <;> rfl), by (with_reducible repeat (first | apply Kd.R_alloc | apply Kd.R_drewN | apply Kd.R_drew)); exact Kd.R_mono (Kd.R_far (p := ⟨gb366, 2, none⟩) (Kd.R_far (p := ⟨gb366, 1, none⟩) (Kd.R_far (p := ⟨gb366, 0, none⟩) (Kd.R_types HO390.out BK366.out (by decide)) (fun _ hk => hk.2) (.bool false)) (fun _ hk => hk.2) (.slice Ao30 y388.length co30)) (fun _ hk => hk.2) (.slice none 0 0)) (fun _ hk => trivial), by first | exact Kd.R_nil _ _ _ _ _ | exact Kd.N_nil _ _ _ _ _ | exact Kd.V_nil _ _ _ _ _ | exact Kd.Q_nil _ _ _ _ _ | exact Kd.S_nil _ _ _ _ _, by repeat (first | (with_reducible first | exact HI0.out | apply IsS65.alloc | apply IsS65.drewN | apply IsS65.drew | apply IsS65.set_1 | apply IsS65.set_2 | refine IsS65.far ?_ NB0_366.out _) | exact HI0.out), by repeat (first | (with_reducible first | exact HB.out | apply below_alloc | apply pw_below_drewN | apply below_drew1 | refine below_set ?_ (IsS65.ge HI0.out) | refine below_set ?_ GE366.out) | exact HB.out), by repeat (first | (with_reducible first | exact HK.out | apply KeepBut.set_ | apply keep_drewN | apply keep_drew | apply keep_alloc | refine keep_far ?_ GW366.out _) | exact HK.out)⟩
              · rw [if_neg c26] at H
                have c26b0 : decide ((wrap64 (rd s0_0 a1)) < 128) = false := decide_eq_false c26
                clear c26
                have HC33 := Aside0.mk H
                clear H
                obtain ⟨ASz34_0, cSz34_0, HGz34, hgz34, ⟨HSz34_0, HCSz34_0⟩⟩ := HI0.out
                have hcz34_0 := cellS65_0 HGz34
                have hcz34_1 := cellS65_1 HGz34
                have hcz34_2 := cellS65_2 HGz34
                have hfz34_1 := blk_frozen HGz34 1
                have hfz34_2 := blk_frozen HGz34 2
                clear HGz34 hgz34
                have p387 : 0 ≤ (a1 : Int) := of_decide_eq_true (by first | (with_reducible assumption) | assumption)
                have q387 : a1 < (s0_0.length : Int) := of_decide_eq_true (by first | (with_reducible assumption) | assumption)
                obtain ⟨ad387, e387, hx387_0⟩ := Kd.at_int HSz34_0 a1 p387 q387
                cases e387
                have hn387_0 : ad387.block ≠ g := Nat.ne_of_lt (Nat.lt_of_lt_of_le (by have := World.block_lt_of_cell? _ _ hx387_0; first | rwa [add_block] at this | exact this) (IsS65.ge HI0.out))
                replace hx387_0 := pw_cell_below HB.out hx387_0
                replace hx387_0 := (cell_far (p := ⟨g, 1, none⟩) (by first | (rw [add_block]; exact hn387_0) | (show (Addr.add _ _).block ≠ _; rw [add_block]; exact hn387_0) | exact hn387_0) (.int .i64 (wrap64 (s0_1 + 1)))).trans hx387_0
                clear hn387_0
                replace p387 := eq_true p387
                replace q387 := eq_true q387
                go_upto_if 64 with (fail)
                go_cut [11] (fun v11 wc => ∃ (kq : Nat) (x11_32 : Int), v11 = .int .i64 x11_32 ∧ Aside0 (moraineref4_reader_item.j1 kq a1 a2 a3 (wrap64 (rd s0_0 a1)) x11_32 s0_0 (wrap64 (s0_1 + 1)) s0_2 = some (r1, r2, r3, r4, r5, r6)) ∧ Aside0 (kq ≤ kj12) ∧ Aside0 (wc.heap[gb366]? = some (.cells #[.bool false, (.slice none 0 0), (.slice none 0 0)] 25 (0, 0))) ∧ Aside0 (IsS65 w0 wc g s0_0 (wrap64 (s0_1 + 1)) s0_2) ∧ Aside0 (KeepBut w wc g none) ∧ Aside0 (Below w0.heap.size w0 wc))
                case first =>
                  have H := HC33.out
                  clear HC33
                  by_cases c35 : (wrap64 (rd s0_0 a1)) ≥ 192
                  · rw [if_pos c35] at H
                    have c35b0 : decide (192 ≤ (wrap64 (rd s0_0 a1))) = true := decide_eq_true c35
                    clear c35
                    (first | rw [c35b0] | (simp only [i64_w, i32_w]; rw [c35b0]) | skip)
                    have H' := Aside0.mk H
                    clear H
                    go_wp2
                    go_meet
                    case rel => exact ⟨_, (192), zw7, H', ⟨by have := HJ12.out; first | omega | exact Nat.le_refl _⟩, ⟨by (with_reducible repeat (first | refine blk_drewN ?_ _ | refine blk_drew ?_ | refine blk_alloc ?_ _)); refine blk_far ?_ NB366_0.out _; (with_reducible repeat (first | refine blk_drewN ?_ _ | refine blk_drew ?_ | refine blk_alloc ?_ _)); exact BK366.out⟩, ⟨by repeat (first | (with_reducible first | exact HI0.out | apply IsS65.alloc | apply IsS65.drewN | apply IsS65.drew | apply IsS65.set_1 | apply IsS65.set_2 | refine IsS65.far ?_ NB0_366.out _) | exact HI0.out)⟩, ⟨by repeat (first | (with_reducible first | exact HK.out | apply KeepBut.set_ | apply keep_drewN | apply keep_drew | apply keep_alloc | refine keep_far ?_ GW366.out _) | exact HK.out)⟩, ⟨by repeat (first | (with_reducible first | exact HB.out | apply below_alloc | apply pw_below_drewN | apply below_drew1 | refine below_set ?_ (IsS65.ge HI0.out) | refine below_set ?_ GE366.out) | exact HB.out)⟩⟩
                  · rw [if_neg c35] at H
                    have c35b0 : decide (192 ≤ (wrap64 (rd s0_0 a1))) = false := decide_eq_false c35
                    clear c35
                    (first | rw [c35b0] | (simp only [i64_w, i32_w]; rw [c35b0]) | skip)
                    have H' := Aside0.mk H
                    clear H
                    go_wp2
                    go_meet
                    case rel => exact ⟨_, (128), zw7, H', ⟨by have := HJ12.out; first | omega | exact Nat.le_refl _⟩, ⟨by (with_reducible repeat (first | refine blk_drewN ?_ _ | refine blk_drew ?_ | refine blk_alloc ?_ _)); refine blk_far ?_ NB366_0.out _; (with_reducible repeat (first | refine blk_drewN ?_ _ | refine blk_drew ?_ | refine blk_alloc ?_ _)); exact BK366.out⟩, ⟨by repeat (first | (with_reducible first | exact HI0.out | apply IsS65.alloc | apply IsS65.drewN | apply IsS65.drew | apply IsS65.set_1 | apply IsS65.set_2 | refine IsS65.far ?_ NB0_366.out _) | exact HI0.out)⟩, ⟨by repeat (first | (with_reducible first | exact HK.out | apply KeepBut.set_ | apply keep_drewN | apply keep_drew | apply keep_alloc | refine keep_far ?_ GW366.out _) | exact HK.out)⟩, ⟨by repeat (first | (with_reducible first | exact HB.out | apply below_alloc | apply pw_below_drewN | apply below_drew1 | refine below_set ?_ (IsS65.ge HI0.out) | refine below_set ?_ GE366.out) | exact HB.out)⟩⟩
                case rest =>
                  clear HC33
                  try clear c1
                  try clear c2
                  try clear p2
                  try clear c3
                  try clear p3
                  try clear q3
                  try clear hx3
                  try clear c5
                  try clear c5b0
                  try clear p6
                  try clear c9
                  try clear c15
                  try clear c15b0
                  try clear c17
                  try clear c20
                  try clear c24
                  try clear c24b0
                  try clear c25
                  try clear c25b0
                  try clear c26
                  try clear c26b0
                  try clear c29
                  try clear c31
                  try clear c35
                  try clear c35b0
                  try clear hcz10_0
                  try clear hcz10_1
                  try clear hcz10_2
                  try clear hcz16_0
                  try clear hcz16_1
                  try clear hcz16_2
                  try clear hcz21_0
                  try clear hcz21_1
                  try clear hcz21_2
                  try clear hcz27_0
                  try clear hcz27_1
                  try clear hcz27_2
                  try clear hcz32_0
                  try clear hcz32_1
                  try clear hcz32_2
                  try clear hcz34_0
                  try clear hcz34_1
                  try clear hcz34_2
                  try clear hfz10_0
                  try clear hfz10_1
                  try clear hfz10_2
                  try clear hfz16_1
                  try clear hfz16_2
                  try clear hfz21_0
                  try clear hfz21_1
                  try clear hfz21_2
                  try clear hfz27_1
                  try clear hfz27_2
                  try clear hfz32_0
                  try clear hfz32_1
                  try clear hfz32_2
                  try clear hfz34_1
                  try clear hfz34_2
                  try clear hx387_0
                  try clear p2
                  try clear p387
                  try clear q387
                  obtain ⟨kq, x11_32, rfl, HA, HJ32, BK366, HI0, HK, HB⟩ := hcut
                  cases kq with
                  | zero => exact absurd HA.out (by simp [moraineref4_reader_item.j1])
                  | succ kj32 =>
                    have H := HA.out
                    clear HA
                    simp only [moraineref4_reader_item.j1] at H
                    have HC36 := Aside0.mk H
                    clear H
                    go_upto_if 71 with (fail)
                    go_cut [12, 13] (fun v12 v13 wc => ∃ (kq : Nat) (x12_35 : Int) (x13_35 : Int) (x1001_35 : Int) (x1002_35 : Int) (x367000_35 : Bool), v12 = .int .i64 x12_35 ∧ v13 = .int .i64 x13_35 ∧ Aside0 (moraineref4_reader_item.j3 kq a2 a3 x11_32 x12_35 x13_35 s0_0 x1001_35 x1002_35 = some (r1, r2, r3, r4, r5, r6)) ∧ Aside0 (kq ≤ kj32) ∧ Aside0 (wc.heap[gb366]? = some (.cells #[.bool x367000_35, (.slice none 0 0), (.slice none 0 0)] 25 (0, 0))) ∧ Aside0 (IsS65 w0 wc g s0_0 x1001_35 x1002_35) ∧ Aside0 (KeepBut w wc g none) ∧ Aside0 (Below w0.heap.size w0 wc))
                    case first =>
                      have H := HC36.out
                      clear HC36
                      by_cases c37 : (wrap64 ((wrap64 (rd s0_0 a1)) - x11_32)) > 55
                      · rw [if_pos c37] at H
                        have c37b0 : decide (55 < (wrap64 ((wrap64 (rd s0_0 a1)) - x11_32))) = true := decide_eq_true c37
                        clear c37
                        (first | rw [c37b0] | (simp only [i64_w, i32_w]; rw [c37b0]) | skip)
                        by_cases c38 : (wrap64 ((wrap64 (a1 + 1)) + (wrap64 ((wrap64 ((wrap64 (rd s0_0 a1)) - x11_32)) - 55)))) > a2
                        · rw [if_pos c38] at H
                          have c38b0 : decide (a2 < (wrap64 ((wrap64 (a1 + 1)) + (wrap64 ((wrap64 ((wrap64 (rd s0_0 a1)) - x11_32)) - 55))))) = true := decide_eq_true c38
                          clear c38
                          replace H := Option.bind_eq_some_iff.mp H
                          obtain ⟨⟨t391, t392, t395, t398, t399, t400⟩, A390, H⟩ := H
                          replace H : (some (t391, t392, t395, t398, t399, t400)) = some (r1, r2, r3, r4, r5, r6) := H
                          have A39 := Aside0.mk A390
                          clear A390
                          simp only [Option.some.injEq, Prod.mk.injEq] at H
                          obtain ⟨rfl, rfl, rfl, rfl, rfl, rfl⟩ := H
                          go_wp2_with (first | ((with_reducible refine gate_callee (f := 38) rfl ?_); refine goesL_ (some 80) rfl rfl Try.func38 (by kernel_rfl) rfl #[.pointer (some ⟨g, 0, none⟩), .int .i64 41] rfl zw6 ?_; (with_reducible refine (moraineref4_reader_fault.calls g s0_0 (wrap64 (s0_1 + 1)) s0_2 41 t391 t392 t395 t398 t399 t400 w0 _ ?side1 ?side2 A39.out).mono ?_); (case side1 => exact zw24 HI0.out NB0_366.out); (case side2 => exact zw18 HB.out HI0.out GE366.out); rintro e w40 ⟨v393, v396, rfl, ho0, ho1, hi, hb, hk⟩; refine ⟨_, rfl, ?_⟩; have n0_ := Aside0.mk (KeepBut.blk hk (g' := gb366) (o := .cells #[.bool false, .slice none 0 0, .slice none 0 0] 25 (0, 0)) (zw0 BK366.out) NB366_0.out (by simp)); have n1_ := Aside0.mk (Kd.R_lower ho0 (keep_size (w := w) (g := g) (row := none) (zw8 HK.out GW366.out))); have n2_ := Aside0.mk (Kd.R_lower (Kd.R_newB ho1 (g := gb366) (o := .cells #[.bool false, .slice none 0 0, .slice none 0 0] 25 (0, 0)) (zw0 BK366.out)) (keep_size (w := w) (g := g) (row := none) (zw8 HK.out GW366.out))); have n3_ := Aside0.mk (KeepBut.trans (zw8 HK.out GW366.out) hk (.inl rfl)); have n4_ := Aside0.mk (hb); have n5_ := Aside0.mk (hi); clear BK366; clear HK; clear HB; clear HI0; have BK366 := n0_; have HO394 := n1_; have HO397 := n2_; have HK := n3_; have HB := n4_; have HI0 := n5_; clear n0_ n1_ n2_ n3_ n4_ n5_; (try clear hb); (try clear hb2); (try clear hk); (try clear hi); (try clear ho0); (try clear ho1); have hnb41 := NB366_0.out; have hnc41 := NB0_366.out; have hcz42_0 : w40.cell? ⟨gb366, 0, none⟩ = some (.bool false) := (blk_cell BK366.out 0).trans rfl; have hcz42_1 : w40.cell? ⟨gb366, 1, none⟩ = some (.slice none 0 0) := (blk_cell BK366.out 1).trans rfl; have hcz42_2 : w40.cell? ⟨gb366, 2, none⟩ = some (.slice none 0 0) := (blk_cell BK366.out 2).trans rfl; have hfz42_0 := blk_frozen BK366.out 0; have hfz42_1 := blk_frozen BK366.out 1; have hfz42_2 := blk_frozen BK366.out 2; obtain ⟨Ao43, co43, eo43⟩ := Kd.R_slice HO394.out; subst eo43; obtain ⟨Ao44, co44, eo44⟩ := Kd.R_slice HO397.out; subst eo44))
                          refine bodyPost_ret (results_ct rfl _ _ gb366 25 #[.bool t391, .slice Ao43 t392.length co43, .slice Ao44 t395.length co44] (0, 0) _ rfl (by (with_reducible repeat (first | refine blk_drewN ?_ _ | refine blk_drew ?_ | refine blk_alloc ?_ _)); refine blk_put (cs := #[.bool t391, .slice Ao43 t392.length co43, .slice none 0 0]) ?_ 2 _ rfl; (with_reducible repeat (first | refine blk_drewN ?_ _ | refine blk_drew ?_ | refine blk_alloc ?_ _)); refine blk_put (cs := #[.bool t391, .slice none 0 0, .slice none 0 0]) ?_ 1 _ rfl; (with_reducible repeat (first | refine blk_drewN ?_ _ | refine blk_drew ?_ | refine blk_alloc ?_ _)); refine blk_put (cs := #[.bool false, .slice none 0 0, .slice none 0 0]) ?_ 0 _ rfl; (with_reducible repeat (first | refine blk_drewN ?_ _ | refine blk_drew ?_ | refine blk_alloc ?_ _)); exact BK366.out) Try.underlying25 rfl (by kernel_rfl)) rfl ?_
                          exact ⟨_, _, by first | rfl | (simp [errW_none, errW_some] <;> rfl) | (simp [*, errW_none, errW_some] <;> rfl), by (with_reducible repeat (first | apply Kd.R_alloc | apply Kd.R_drewN | apply Kd.R_drew)); exact Kd.R_mono (Kd.R_far (p := ⟨gb366, 2, none⟩) (Kd.R_far (p := ⟨gb366, 1, none⟩) (Kd.R_far (p := ⟨gb366, 0, none⟩) (Kd.R_types HO394.out BK366.out (by decide)) (fun _ hk => hk.2) (.bool t391)) (fun _ hk => hk.2) (.slice Ao43 t392.length co43)) (fun _ hk => hk.2) (.slice Ao44 t395.length co44)) (fun _ hk => trivial), by (with_reducible repeat (first | apply Kd.R_alloc | apply Kd.R_drewN | apply Kd.R_drew)); exact Kd.R_mono (Kd.R_far (p := ⟨gb366, 2, none⟩) (Kd.R_far (p := ⟨gb366, 1, none⟩) (Kd.R_far (p := ⟨gb366, 0, none⟩) (Kd.R_mono HO397.out (fun k_ hk => (⟨hk, hk.2⟩ : _ ∧ k_ ≠ gb366))) (fun _ hk => hk.2) (.bool t391)) (fun _ hk => hk.2) (.slice Ao43 t392.length co43)) (fun _ hk => hk.2) (.slice Ao44 t395.length co44)) (fun _ hk => hk.1.1), by repeat (first | (with_reducible first | exact HI0.out | apply IsS65.alloc | apply IsS65.drewN | apply IsS65.drew | apply IsS65.set_1 | apply IsS65.set_2 | refine IsS65.far ?_ NB0_366.out _) | exact HI0.out), by repeat (first | (with_reducible first | exact HB.out | apply below_alloc | apply pw_below_drewN | apply below_drew1 | refine below_set ?_ (IsS65.ge HI0.out) | refine below_set ?_ GE366.out) | exact HB.out), by repeat (first | (with_reducible first | exact HK.out | apply KeepBut.set_ | apply keep_drewN | apply keep_drew | apply keep_alloc | refine keep_far ?_ GW366.out _) | exact HK.out)⟩
                        · rw [if_neg c38] at H
                          have c38b0 : decide (a2 < (wrap64 ((wrap64 (a1 + 1)) + (wrap64 ((wrap64 ((wrap64 (rd s0_0 a1)) - x11_32)) - 55))))) = false := decide_eq_false c38
                          clear c38
                          have H' := Aside0.mk H
                          clear H
                          go_wp2
                          go_loopg [12, 15] kj32 (fun kq v12 v15 w' => ∃ (x12_3 : Int) (x15_3 : Int), v12 = .int .i64 x12_3 ∧ v15 = .int .i64 x15_3 ∧ Aside0 (moraineref4_reader_item.l0 kq a2 a3 x11_32 x12_3 (wrap64 (a1 + 1)) (wrap64 ((wrap64 ((wrap64 (rd s0_0 a1)) - x11_32)) - 55)) x15_3 s0_0 (wrap64 (s0_1 + 1)) s0_2 = some (r1, r2, r3, r4, r5, r6)) ∧ Aside0 (kq ≤ kj32) ∧ Aside0 (w'.heap[gb366]? = some (.cells #[.bool false, (.slice none 0 0), (.slice none 0 0)] 25 (0, 0))) ∧ Aside0 (IsS65 w0 w' g s0_0 (wrap64 (s0_1 + 1)) s0_2) ∧ Aside0 (KeepBut w w' g none) ∧ Aside0 (Below w0.heap.size w0 w'))
                          case atStart => exact ⟨(0), (0), zw7, zw7, H', ⟨Nat.le_refl _⟩, ⟨by (with_reducible repeat (first | refine blk_drewN ?_ _ | refine blk_drew ?_ | refine blk_alloc ?_ _)); exact BK366.out⟩, ⟨by repeat (first | (with_reducible first | exact HI0.out | apply IsS65.alloc | apply IsS65.drewN | apply IsS65.drew | apply IsS65.set_1 | apply IsS65.set_2 | refine IsS65.far ?_ NB0_366.out _) | exact HI0.out)⟩, ⟨by repeat (first | (with_reducible first | exact HK.out | apply KeepBut.set_ | apply keep_drewN | apply keep_drew | apply keep_alloc | refine keep_far ?_ GW366.out _) | exact HK.out)⟩, ⟨by repeat (first | (with_reducible first | exact HB.out | apply below_alloc | apply pw_below_drewN | apply below_drew1 | refine below_set ?_ (IsS65.ge HI0.out) | refine below_set ?_ GE366.out) | exact HB.out)⟩⟩
                          case round =>
                            clear H'
                            try clear c1
                            try clear c2
                            try clear p2
                            try clear c3
                            try clear p3
                            try clear q3
                            try clear hx3
                            try clear c4
                            try clear c5
                            try clear c5b0
                            try clear p6
                            try clear c9
                            try clear c15
                            try clear c15b0
                            try clear c17
                            try clear c20
                            try clear c24
                            try clear c24b0
                            try clear c25
                            try clear c25b0
                            try clear c26
                            try clear c26b0
                            try clear c29
                            try clear c31
                            try clear c35
                            try clear c35b0
                            try clear c37
                            try clear c37b0
                            try clear c38
                            try clear c38b0
                            try clear p38
                            try clear q38
                            try clear hx38
                            try clear c41
                            try clear hcz10_0
                            try clear hcz10_1
                            try clear hcz10_2
                            try clear hcz16_0
                            try clear hcz16_1
                            try clear hcz16_2
                            try clear hcz21_0
                            try clear hcz21_1
                            try clear hcz21_2
                            try clear hcz27_0
                            try clear hcz27_1
                            try clear hcz27_2
                            try clear hcz32_0
                            try clear hcz32_1
                            try clear hcz32_2
                            try clear hcz34_0
                            try clear hcz34_1
                            try clear hcz34_2
                            try clear hcz42_0
                            try clear hcz42_1
                            try clear hcz42_2
                            try clear hfz10_0
                            try clear hfz10_1
                            try clear hfz10_2
                            try clear hfz16_1
                            try clear hfz16_2
                            try clear hfz21_0
                            try clear hfz21_1
                            try clear hfz21_2
                            try clear hfz27_1
                            try clear hfz27_2
                            try clear hfz32_0
                            try clear hfz32_1
                            try clear hfz32_2
                            try clear hfz34_1
                            try clear hfz34_2
                            try clear hfz42_0
                            try clear hfz42_1
                            try clear hfz42_2
                            try clear hx387_0
                            try clear p2
                            try clear p3
                            try clear p387
                            try clear p6
                            try clear q3
                            try clear q387
                            obtain ⟨x12_3, x15_3, rfl, rfl, HA, HK3, BK366, HI0, HK, HB⟩ := hrel
                            cases gk with
                            | zero => exact absurd HA.out (by simp [moraineref4_reader_item.l0])
                            | succ k3 =>
                              have H := HA.out
                              clear HA
                              simp only [moraineref4_reader_item.l0] at H
                              by_cases c45 : x15_3 < (wrap64 ((wrap64 ((wrap64 (rd s0_0 a1)) - x11_32)) - 55))
                              · rw [if_pos c45] at H
                                have c45b0 : decide (x15_3 < (wrap64 ((wrap64 ((wrap64 (rd s0_0 a1)) - x11_32)) - 55))) = true := decide_eq_true c45
                                clear c45
                                by_cases c46 : x15_3 < 8
                                · rw [if_pos c46] at H
                                  have c46b0 : decide (x15_3 < 8) = true := decide_eq_true c46
                                  clear c46
                                  by_cases c47 : x12_3 ≤ 2147483648
                                  · rw [if_pos c47] at H
                                    have c47b0 : decide (x12_3 ≤ 2147483648) = true := decide_eq_true c47
                                    clear c47
                                    obtain ⟨ji48, hji48⟩ : ∃ j_ : Int, (wrap64 ((wrap64 (a1 + 1)) + x15_3)) = j_ := ⟨_, rfl⟩
                                    replace H : (if 0 ≤ (ji48) then (if (ji48) < (s0_0.length : Int) then (moraineref4_reader_item.l0 k3 a2 a3 x11_32 (wrap64 ((wrap64 (256 * x12_3)) + (wrap64 (rd s0_0 (ji48))))) (wrap64 (a1 + 1)) (wrap64 ((wrap64 ((wrap64 (rd s0_0 a1)) - x11_32)) - 55)) (wrap64 (x15_3 + 1)) s0_0 (wrap64 (s0_1 + 1)) s0_2) else (none)) else (none)) = some (r1, r2, r3, r4, r5, r6) := by first | (rw [hji48] at H; exact H) | (simp only [hji48] at H ⊢; exact H)
                                    have hji48w : (IntKind.i64.wrap ((wrap64 (a1 + 1)) + x15_3)) = ji48 := (i64_w _).trans hji48
                                    by_cases c49 : 0 ≤ (ji48)
                                    · rw [if_pos c49] at H
                                      have c49b0 : decide (0 ≤ (ji48)) = true := decide_eq_true c49
                                      clear c49
                                      by_cases c50 : (ji48) < (s0_0.length : Int)
                                      · rw [if_pos c50] at H
                                        have c50b0 : decide ((ji48) < (s0_0.length : Int)) = true := decide_eq_true c50
                                        clear c50
                                        have H' := Aside0.mk H
                                        clear H
                                        obtain ⟨ASz51_0, cSz51_0, HGz51, hgz51, ⟨HSz51_0, HCSz51_0⟩⟩ := HI0.out
                                        have hcz51_0 := cellS65_0 HGz51
                                        have hcz51_1 := cellS65_1 HGz51
                                        have hcz51_2 := cellS65_2 HGz51
                                        have hfz51_1 := blk_frozen HGz51 1
                                        have hfz51_2 := blk_frozen HGz51 2
                                        clear HGz51 hgz51
                                        have p401 : 0 ≤ ((ji48) : Int) := of_decide_eq_true (by first | (with_reducible assumption) | assumption)
                                        have q401 : (ji48) < (s0_0.length : Int) := of_decide_eq_true (by first | (with_reducible assumption) | assumption)
                                        obtain ⟨ad401, e401, hx401_0⟩ := Kd.at_int HSz51_0 (ji48) p401 q401
                                        cases e401
                                        replace hx401_0 := pw_cell_below HB.out hx401_0
                                        replace p401 := eq_true p401
                                        replace q401 := eq_true q401
                                        go_wp2
                                        go_roundg k3
                                        case measure => have := HJ12.out; have := HJ32.out; have := HK3.out; omega
                                        case rel => exact ⟨(wrap64 ((wrap64 (256 * x12_3)) + (wrap64 (rd s0_0 (ji48))))), (wrap64 (x15_3 + 1)), (by first | rfl | (simp; done) | (simp only [← hji48] <;> (first | rfl | simp)) | (simp [*]; done)), zw7, H', ⟨by have := HJ12.out; have := HJ32.out; have := HK3.out; omega⟩, ⟨by (with_reducible repeat (first | refine blk_drewN ?_ _ | refine blk_drew ?_ | refine blk_alloc ?_ _)); exact BK366.out⟩, ⟨by repeat (first | (with_reducible first | exact HI0.out | apply IsS65.alloc | apply IsS65.drewN | apply IsS65.drew | apply IsS65.set_1 | apply IsS65.set_2 | refine IsS65.far ?_ NB0_366.out _) | exact HI0.out)⟩, ⟨by repeat (first | (with_reducible first | exact HK.out | apply KeepBut.set_ | apply keep_drewN | apply keep_drew | apply keep_alloc | refine keep_far ?_ GW366.out _) | exact HK.out)⟩, ⟨by repeat (first | (with_reducible first | exact HB.out | apply below_alloc | apply pw_below_drewN | apply below_drew1 | refine below_set ?_ (IsS65.ge HI0.out) | refine below_set ?_ GE366.out) | exact HB.out)⟩⟩
                                      · rw [if_neg c50] at H
                                        exact absurd H (by simp)
                                    · rw [if_neg c49] at H
                                      exact absurd H (by simp)
                                  · rw [if_neg c47] at H
                                    have c47b0 : decide (x12_3 ≤ 2147483648) = false := decide_eq_false c47
                                    clear c47
                                    have H' := Aside0.mk H
                                    clear H
                                    go_wp2
                                    go_roundg k3
                                    case measure => have := HJ12.out; have := HJ32.out; have := HK3.out; omega
                                    case rel => exact ⟨(x12_3), (wrap64 (x15_3 + 1)), zw7, zw7, H', ⟨by have := HJ12.out; have := HJ32.out; have := HK3.out; omega⟩, ⟨by (with_reducible repeat (first | refine blk_drewN ?_ _ | refine blk_drew ?_ | refine blk_alloc ?_ _)); exact BK366.out⟩, ⟨by repeat (first | (with_reducible first | exact HI0.out | apply IsS65.alloc | apply IsS65.drewN | apply IsS65.drew | apply IsS65.set_1 | apply IsS65.set_2 | refine IsS65.far ?_ NB0_366.out _) | exact HI0.out)⟩, ⟨by repeat (first | (with_reducible first | exact HK.out | apply KeepBut.set_ | apply keep_drewN | apply keep_drew | apply keep_alloc | refine keep_far ?_ GW366.out _) | exact HK.out)⟩, ⟨by repeat (first | (with_reducible first | exact HB.out | apply below_alloc | apply pw_below_drewN | apply below_drew1 | refine below_set ?_ (IsS65.ge HI0.out) | refine below_set ?_ GE366.out) | exact HB.out)⟩⟩
                                · rw [if_neg c46] at H
                                  have c46b0 : decide (x15_3 < 8) = false := decide_eq_false c46
                                  clear c46
                                  have H' := Aside0.mk H
                                  clear H
                                  go_wp2
                                  go_roundg k3
                                  case measure => have := HJ12.out; have := HJ32.out; have := HK3.out; omega
                                  case rel => exact ⟨(x12_3), (wrap64 (x15_3 + 1)), zw7, zw7, H', ⟨by have := HJ12.out; have := HJ32.out; have := HK3.out; omega⟩, ⟨by (with_reducible repeat (first | refine blk_drewN ?_ _ | refine blk_drew ?_ | refine blk_alloc ?_ _)); exact BK366.out⟩, ⟨by repeat (first | (with_reducible first | exact HI0.out | apply IsS65.alloc | apply IsS65.drewN | apply IsS65.drew | apply IsS65.set_1 | apply IsS65.set_2 | refine IsS65.far ?_ NB0_366.out _) | exact HI0.out)⟩, ⟨by repeat (first | (with_reducible first | exact HK.out | apply KeepBut.set_ | apply keep_drewN | apply keep_drew | apply keep_alloc | refine keep_far ?_ GW366.out _) | exact HK.out)⟩, ⟨by repeat (first | (with_reducible first | exact HB.out | apply below_alloc | apply pw_below_drewN | apply below_drew1 | refine below_set ?_ (IsS65.ge HI0.out) | refine below_set ?_ GE366.out) | exact HB.out)⟩⟩
                              · rw [if_neg c45] at H
                                have c45b0 : decide (x15_3 < (wrap64 ((wrap64 ((wrap64 (rd s0_0 a1)) - x11_32)) - 55))) = false := decide_eq_false c45
                                clear c45
                                obtain ⟨ji52, hji52⟩ : ∃ j_ : Int, (wrap64 (a1 + 1)) = j_ := ⟨_, rfl⟩
                                replace H : (if 0 ≤ (ji52) then (if (ji52) < (s0_0.length : Int) then (if (rd s0_0 (ji52)) = 0 then ((moraineref4_reader_fault.f s0_0 (wrap64 (s0_1 + 1)) s0_2 40).bind fun bt403 => (some (bt403.1, bt403.2.1, bt403.2.2.1, bt403.2.2.2.1, bt403.2.2.2.2.1, bt403.2.2.2.2.2))) else (if x12_3 < 56 then ((moraineref4_reader_fault.f s0_0 (wrap64 (s0_1 + 1)) s0_2 40).bind fun bt413 => (some (bt413.1, bt413.2.1, bt413.2.2.1, bt413.2.2.2.1, bt413.2.2.2.2.1, bt413.2.2.2.2.2))) else (if x12_3 > 2147483648 then ((moraineref4_reader_fault.f s0_0 (wrap64 (s0_1 + 1)) s0_2 40).bind fun bt423 => (some (bt423.1, bt423.2.1, bt423.2.2.1, bt423.2.2.2.1, bt423.2.2.2.2.1, bt423.2.2.2.2.2))) else (moraineref4_reader_item.j3 k3 a2 a3 x11_32 x12_3 (wrap64 ((ji52) + (wrap64 ((wrap64 ((wrap64 (rd s0_0 a1)) - x11_32)) - 55)))) s0_0 (wrap64 (s0_1 + 1)) s0_2)))) else (none)) else (none)) = some (r1, r2, r3, r4, r5, r6) := by first | (rw [hji52] at H; exact H) | (simp only [hji52] at H ⊢; exact H)
                                (try rw [hji52] at c38b0)
                                have hji52w : (IntKind.i64.wrap (a1 + 1)) = ji52 := (i64_w _).trans hji52
                                by_cases c53 : 0 ≤ (ji52)
                                · rw [if_pos c53] at H
                                  have c53b0 : decide (0 ≤ (ji52)) = true := decide_eq_true c53
                                  clear c53
                                  by_cases c54 : (ji52) < (s0_0.length : Int)
                                  · rw [if_pos c54] at H
                                    have c54b0 : decide ((ji52) < (s0_0.length : Int)) = true := decide_eq_true c54
                                    clear c54
                                    by_cases c55 : (rd s0_0 (ji52)) = 0
                                    · rw [if_pos c55] at H
                                      have c55b0 : ((rd s0_0 (ji52)) == 0) = true := beq_iff_eq.mpr c55
                                      have c55b1 : ((rd s0_0 (ji52)) != 0) = false := bne_eq_false_iff_eq.mpr c55
                                      clear c55
                                      replace H := Option.bind_eq_some_iff.mp H
                                      obtain ⟨⟨t403, t404, t407, t410, t411, t412⟩, A560, H⟩ := H
                                      replace H : (some (t403, t404, t407, t410, t411, t412)) = some (r1, r2, r3, r4, r5, r6) := H
                                      have A56 := Aside0.mk A560
                                      clear A560
                                      simp only [Option.some.injEq, Prod.mk.injEq] at H
                                      obtain ⟨rfl, rfl, rfl, rfl, rfl, rfl⟩ := H
                                      obtain ⟨ASz57_0, cSz57_0, HGz57, hgz57, ⟨HSz57_0, HCSz57_0⟩⟩ := HI0.out
                                      have hcz57_0 := cellS65_0 HGz57
                                      have hcz57_1 := cellS65_1 HGz57
                                      have hcz57_2 := cellS65_2 HGz57
                                      have hfz57_1 := blk_frozen HGz57 1
                                      have hfz57_2 := blk_frozen HGz57 2
                                      clear HGz57 hgz57
                                      have p402 : 0 ≤ ((ji52) : Int) := of_decide_eq_true (by first | (with_reducible assumption) | assumption)
                                      have q402 : (ji52) < (s0_0.length : Int) := of_decide_eq_true (by first | (with_reducible assumption) | assumption)
                                      obtain ⟨ad402, e402, hx402_0⟩ := Kd.at_int HSz57_0 (ji52) p402 q402
                                      cases e402
                                      replace hx402_0 := pw_cell_below HB.out hx402_0
                                      replace p402 := eq_true p402
                                      replace q402 := eq_true q402
                                      go_wp2_with (first | ((with_reducible refine gate_callee (f := 38) rfl ?_); refine goesL_ (some 124) rfl rfl Try.func38 (by kernel_rfl) rfl #[.pointer (some ⟨g, 0, none⟩), .int .i64 40] rfl zw6 ?_; (with_reducible refine (moraineref4_reader_fault.calls g s0_0 (wrap64 (s0_1 + 1)) s0_2 40 t403 t404 t407 t410 t411 t412 w0 _ ?side1 ?side2 A56.out).mono ?_); (case side1 => exact zw24 HI0.out NB0_366.out); (case side2 => exact zw18 HB.out HI0.out GE366.out); rintro e w58 ⟨v405, v408, rfl, ho0, ho1, hi, hb, hk⟩; refine ⟨_, rfl, ?_⟩; have n0_ := Aside0.mk (KeepBut.blk hk (g' := gb366) (o := .cells #[.bool false, .slice none 0 0, .slice none 0 0] 25 (0, 0)) (zw0 BK366.out) NB366_0.out (by simp)); have n1_ := Aside0.mk (Kd.R_lower ho0 (keep_size (w := w) (g := g) (row := none) (zw8 HK.out GW366.out))); have n2_ := Aside0.mk (Kd.R_lower (Kd.R_newB ho1 (g := gb366) (o := .cells #[.bool false, .slice none 0 0, .slice none 0 0] 25 (0, 0)) (zw0 BK366.out)) (keep_size (w := w) (g := g) (row := none) (zw8 HK.out GW366.out))); have n3_ := Aside0.mk (KeepBut.trans (zw8 HK.out GW366.out) hk (.inl rfl)); have n4_ := Aside0.mk (hb); have n5_ := Aside0.mk (hi); clear BK366; clear HK; clear HB; clear HI0; have BK366 := n0_; have HO406 := n1_; have HO409 := n2_; have HK := n3_; have HB := n4_; have HI0 := n5_; clear n0_ n1_ n2_ n3_ n4_ n5_; (try clear hb); (try clear hb2); (try clear hk); (try clear hi); (try clear ho0); (try clear ho1); have hnb59 := NB366_0.out; have hnc59 := NB0_366.out; have hcz60_0 : w58.cell? ⟨gb366, 0, none⟩ = some (.bool false) := (blk_cell BK366.out 0).trans rfl; have hcz60_1 : w58.cell? ⟨gb366, 1, none⟩ = some (.slice none 0 0) := (blk_cell BK366.out 1).trans rfl; have hcz60_2 : w58.cell? ⟨gb366, 2, none⟩ = some (.slice none 0 0) := (blk_cell BK366.out 2).trans rfl; have hfz60_0 := blk_frozen BK366.out 0; have hfz60_1 := blk_frozen BK366.out 1; have hfz60_2 := blk_frozen BK366.out 2; obtain ⟨Ao61, co61, eo61⟩ := Kd.R_slice HO406.out; subst eo61; obtain ⟨Ao62, co62, eo62⟩ := Kd.R_slice HO409.out; subst eo62))
                                      refine bodyPost_ret (results_ct rfl _ _ gb366 25 #[.bool t403, .slice Ao61 t404.length co61, .slice Ao62 t407.length co62] (0, 0) _ rfl (by (with_reducible repeat (first | refine blk_drewN ?_ _ | refine blk_drew ?_ | refine blk_alloc ?_ _)); refine blk_put (cs := #[.bool t403, .slice Ao61 t404.length co61, .slice none 0 0]) ?_ 2 _ rfl; (with_reducible repeat (first | refine blk_drewN ?_ _ | refine blk_drew ?_ | refine blk_alloc ?_ _)); refine blk_put (cs := #[.bool t403, .slice none 0 0, .slice none 0 0]) ?_ 1 _ rfl; (with_reducible repeat (first | refine blk_drewN ?_ _ | refine blk_drew ?_ | refine blk_alloc ?_ _)); refine blk_put (cs := #[.bool false, .slice none 0 0, .slice none 0 0]) ?_ 0 _ rfl; (with_reducible repeat (first | refine blk_drewN ?_ _ | refine blk_drew ?_ | refine blk_alloc ?_ _)); exact BK366.out) Try.underlying25 rfl (by kernel_rfl)) rfl ?_
                                      exact ⟨_, _, by first | rfl | (simp [errW_none, errW_some] <;> rfl) | (simp only [← hji52]; first | rfl | (simp [errW_none, errW_some] <;> rfl)) | (simp [*, errW_none, errW_some] <;> rfl), by (with_reducible repeat (first | apply Kd.R_alloc | apply Kd.R_drewN | apply Kd.R_drew)); exact Kd.R_mono (Kd.R_far (p := ⟨gb366, 2, none⟩) (Kd.R_far (p := ⟨gb366, 1, none⟩) (Kd.R_far (p := ⟨gb366, 0, none⟩) (Kd.R_types HO406.out BK366.out (by decide)) (fun _ hk => hk.2) (.bool t403)) (fun _ hk => hk.2) (.slice Ao61 t404.length co61)) (fun _ hk => hk.2) (.slice Ao62 t407.length co62)) (fun _ hk => trivial), by (with_reducible repeat (first | apply Kd.R_alloc | apply Kd.R_drewN | apply Kd.R_drew)); exact Kd.R_mono (Kd.R_far (p := ⟨gb366, 2, none⟩) (Kd.R_far (p := ⟨gb366, 1, none⟩) (Kd.R_far (p := ⟨gb366, 0, none⟩) (Kd.R_mono HO409.out (fun k_ hk => (⟨hk, hk.2⟩ : _ ∧ k_ ≠ gb366))) (fun _ hk => hk.2) (.bool t403)) (fun _ hk => hk.2) (.slice Ao61 t404.length co61)) (fun _ hk => hk.2) (.slice Ao62 t407.length co62)) (fun _ hk => hk.1.1), by repeat (first | (with_reducible first | exact HI0.out | apply IsS65.alloc | apply IsS65.drewN | apply IsS65.drew | apply IsS65.set_1 | apply IsS65.set_2 | refine IsS65.far ?_ NB0_366.out _) | exact HI0.out), by repeat (first | (with_reducible first | exact HB.out | apply below_alloc | apply pw_below_drewN | apply below_drew1 | refine below_set ?_ (IsS65.ge HI0.out) | refine below_set ?_ GE366.out) | exact HB.out), by repeat (first | (with_reducible first | exact HK.out | apply KeepBut.set_ | apply keep_drewN | apply keep_drew | apply keep_alloc | refine keep_far ?_ GW366.out _) | exact HK.out)⟩
                                    · rw [if_neg c55] at H
                                      have c55b0 : ((rd s0_0 (ji52)) == 0) = false := beq_eq_false_iff_ne.mpr c55
                                      have c55b1 : ((rd s0_0 (ji52)) != 0) = true := bne_iff_ne.mpr c55
                                      by_cases c63 : x12_3 < 56
                                      · rw [if_pos c63] at H
                                        have c63b0 : decide (x12_3 < 56) = true := decide_eq_true c63
                                        clear c63
                                        replace H := Option.bind_eq_some_iff.mp H
                                        obtain ⟨⟨t413, t414, t417, t420, t421, t422⟩, A640, H⟩ := H
                                        replace H : (some (t413, t414, t417, t420, t421, t422)) = some (r1, r2, r3, r4, r5, r6) := H
                                        have A64 := Aside0.mk A640
                                        clear A640
                                        simp only [Option.some.injEq, Prod.mk.injEq] at H
                                        obtain ⟨rfl, rfl, rfl, rfl, rfl, rfl⟩ := H
                                        obtain ⟨ASz65_0, cSz65_0, HGz65, hgz65, ⟨HSz65_0, HCSz65_0⟩⟩ := HI0.out
                                        have hcz65_0 := cellS65_0 HGz65
                                        have hcz65_1 := cellS65_1 HGz65
                                        have hcz65_2 := cellS65_2 HGz65
                                        have hfz65_1 := blk_frozen HGz65 1
                                        have hfz65_2 := blk_frozen HGz65 2
                                        clear HGz65 hgz65
                                        have p402 : 0 ≤ ((ji52) : Int) := of_decide_eq_true (by first | (with_reducible assumption) | assumption)
                                        have q402 : (ji52) < (s0_0.length : Int) := of_decide_eq_true (by first | (with_reducible assumption) | assumption)
                                        obtain ⟨ad402, e402, hx402_0⟩ := Kd.at_int HSz65_0 (ji52) p402 q402
                                        cases e402
                                        replace hx402_0 := pw_cell_below HB.out hx402_0
                                        replace p402 := eq_true p402
                                        replace q402 := eq_true q402
                                        go_wp2_with (first | ((with_reducible refine gate_callee (f := 38) rfl ?_); refine goesL_ (some 124) rfl rfl Try.func38 (by kernel_rfl) rfl #[.pointer (some ⟨g, 0, none⟩), .int .i64 40] rfl zw6 ?_; (with_reducible refine (moraineref4_reader_fault.calls g s0_0 (wrap64 (s0_1 + 1)) s0_2 40 t413 t414 t417 t420 t421 t422 w0 _ ?side1 ?side2 A64.out).mono ?_); (case side1 => exact zw24 HI0.out NB0_366.out); (case side2 => exact zw18 HB.out HI0.out GE366.out); rintro e w66 ⟨v415, v418, rfl, ho0, ho1, hi, hb, hk⟩; refine ⟨_, rfl, ?_⟩; have n0_ := Aside0.mk (KeepBut.blk hk (g' := gb366) (o := .cells #[.bool false, .slice none 0 0, .slice none 0 0] 25 (0, 0)) (zw0 BK366.out) NB366_0.out (by simp)); have n1_ := Aside0.mk (Kd.R_lower ho0 (keep_size (w := w) (g := g) (row := none) (zw8 HK.out GW366.out))); have n2_ := Aside0.mk (Kd.R_lower (Kd.R_newB ho1 (g := gb366) (o := .cells #[.bool false, .slice none 0 0, .slice none 0 0] 25 (0, 0)) (zw0 BK366.out)) (keep_size (w := w) (g := g) (row := none) (zw8 HK.out GW366.out))); have n3_ := Aside0.mk (KeepBut.trans (zw8 HK.out GW366.out) hk (.inl rfl)); have n4_ := Aside0.mk (hb); have n5_ := Aside0.mk (hi); clear BK366; clear HK; clear HB; clear HI0; have BK366 := n0_; have HO416 := n1_; have HO419 := n2_; have HK := n3_; have HB := n4_; have HI0 := n5_; clear n0_ n1_ n2_ n3_ n4_ n5_; (try clear hb); (try clear hb2); (try clear hk); (try clear hi); (try clear ho0); (try clear ho1); have hnb67 := NB366_0.out; have hnc67 := NB0_366.out; have hcz68_0 : w66.cell? ⟨gb366, 0, none⟩ = some (.bool false) := (blk_cell BK366.out 0).trans rfl; have hcz68_1 : w66.cell? ⟨gb366, 1, none⟩ = some (.slice none 0 0) := (blk_cell BK366.out 1).trans rfl; have hcz68_2 : w66.cell? ⟨gb366, 2, none⟩ = some (.slice none 0 0) := (blk_cell BK366.out 2).trans rfl; have hfz68_0 := blk_frozen BK366.out 0; have hfz68_1 := blk_frozen BK366.out 1; have hfz68_2 := blk_frozen BK366.out 2; obtain ⟨Ao69, co69, eo69⟩ := Kd.R_slice HO416.out; subst eo69; obtain ⟨Ao70, co70, eo70⟩ := Kd.R_slice HO419.out; subst eo70))
                                        refine bodyPost_ret (results_ct rfl _ _ gb366 25 #[.bool t413, .slice Ao69 t414.length co69, .slice Ao70 t417.length co70] (0, 0) _ rfl (by (with_reducible repeat (first | refine blk_drewN ?_ _ | refine blk_drew ?_ | refine blk_alloc ?_ _)); refine blk_put (cs := #[.bool t413, .slice Ao69 t414.length co69, .slice none 0 0]) ?_ 2 _ rfl; (with_reducible repeat (first | refine blk_drewN ?_ _ | refine blk_drew ?_ | refine blk_alloc ?_ _)); refine blk_put (cs := #[.bool t413, .slice none 0 0, .slice none 0 0]) ?_ 1 _ rfl; (with_reducible repeat (first | refine blk_drewN ?_ _ | refine blk_drew ?_ | refine blk_alloc ?_ _)); refine blk_put (cs := #[.bool false, .slice none 0 0, .slice none 0 0]) ?_ 0 _ rfl; (with_reducible repeat (first | refine blk_drewN ?_ _ | refine blk_drew ?_ | refine blk_alloc ?_ _)); exact BK366.out) Try.underlying25 rfl (by kernel_rfl)) rfl ?_
                                        exact ⟨_, _, by first | rfl | (simp [errW_none, errW_some] <;> rfl) | (simp only [← hji52]; first | rfl | (simp [errW_none, errW_some] <;> rfl)) | (simp [*, errW_none, errW_some] <;> rfl), by (with_reducible repeat (first | apply Kd.R_alloc | apply Kd.R_drewN | apply Kd.R_drew)); exact Kd.R_mono (Kd.R_far (p := ⟨gb366, 2, none⟩) (Kd.R_far (p := ⟨gb366, 1, none⟩) (Kd.R_far (p := ⟨gb366, 0, none⟩) (Kd.R_types HO416.out BK366.out (by decide)) (fun _ hk => hk.2) (.bool t413)) (fun _ hk => hk.2) (.slice Ao69 t414.length co69)) (fun _ hk => hk.2) (.slice Ao70 t417.length co70)) (fun _ hk => trivial), by (with_reducible repeat (first | apply Kd.R_alloc | apply Kd.R_drewN | apply Kd.R_drew)); exact Kd.R_mono (Kd.R_far (p := ⟨gb366, 2, none⟩) (Kd.R_far (p := ⟨gb366, 1, none⟩) (Kd.R_far (p := ⟨gb366, 0, none⟩) (Kd.R_mono HO419.out (fun k_ hk => (⟨hk, hk.2⟩ : _ ∧ k_ ≠ gb366))) (fun _ hk => hk.2) (.bool t413)) (fun _ hk => hk.2) (.slice Ao69 t414.length co69)) (fun _ hk => hk.2) (.slice Ao70 t417.length co70)) (fun _ hk => hk.1.1), by repeat (first | (with_reducible first | exact HI0.out | apply IsS65.alloc | apply IsS65.drewN | apply IsS65.drew | apply IsS65.set_1 | apply IsS65.set_2 | refine IsS65.far ?_ NB0_366.out _) | exact HI0.out), by repeat (first | (with_reducible first | exact HB.out | apply below_alloc | apply pw_below_drewN | apply below_drew1 | refine below_set ?_ (IsS65.ge HI0.out) | refine below_set ?_ GE366.out) | exact HB.out), by repeat (first | (with_reducible first | exact HK.out | apply KeepBut.set_ | apply keep_drewN | apply keep_drew | apply keep_alloc | refine keep_far ?_ GW366.out _) | exact HK.out)⟩
                                      · rw [if_neg c63] at H
                                        have c63b0 : decide (x12_3 < 56) = false := decide_eq_false c63
                                        clear c63
                                        by_cases c71 : x12_3 > 2147483648
                                        · rw [if_pos c71] at H
                                          have c71b0 : decide (2147483648 < x12_3) = true := decide_eq_true c71
                                          clear c71
                                          replace H := Option.bind_eq_some_iff.mp H
                                          obtain ⟨⟨t423, t424, t427, t430, t431, t432⟩, A720, H⟩ := H
                                          replace H : (some (t423, t424, t427, t430, t431, t432)) = some (r1, r2, r3, r4, r5, r6) := H
                                          have A72 := Aside0.mk A720
                                          clear A720
                                          simp only [Option.some.injEq, Prod.mk.injEq] at H
                                          obtain ⟨rfl, rfl, rfl, rfl, rfl, rfl⟩ := H
                                          obtain ⟨ASz73_0, cSz73_0, HGz73, hgz73, ⟨HSz73_0, HCSz73_0⟩⟩ := HI0.out
                                          have hcz73_0 := cellS65_0 HGz73
                                          have hcz73_1 := cellS65_1 HGz73
                                          have hcz73_2 := cellS65_2 HGz73
                                          have hfz73_1 := blk_frozen HGz73 1
                                          have hfz73_2 := blk_frozen HGz73 2
                                          clear HGz73 hgz73
                                          have p402 : 0 ≤ ((ji52) : Int) := of_decide_eq_true (by first | (with_reducible assumption) | assumption)
                                          have q402 : (ji52) < (s0_0.length : Int) := of_decide_eq_true (by first | (with_reducible assumption) | assumption)
                                          obtain ⟨ad402, e402, hx402_0⟩ := Kd.at_int HSz73_0 (ji52) p402 q402
                                          cases e402
                                          replace hx402_0 := pw_cell_below HB.out hx402_0
                                          replace p402 := eq_true p402
                                          replace q402 := eq_true q402
                                          go_wp2_with (first | ((with_reducible refine gate_callee (f := 38) rfl ?_); refine goesL_ (some 124) rfl rfl Try.func38 (by kernel_rfl) rfl #[.pointer (some ⟨g, 0, none⟩), .int .i64 40] rfl zw6 ?_; (with_reducible refine (moraineref4_reader_fault.calls g s0_0 (wrap64 (s0_1 + 1)) s0_2 40 t423 t424 t427 t430 t431 t432 w0 _ ?side1 ?side2 A72.out).mono ?_); (case side1 => exact zw24 HI0.out NB0_366.out); (case side2 => exact zw18 HB.out HI0.out GE366.out); rintro e w74 ⟨v425, v428, rfl, ho0, ho1, hi, hb, hk⟩; refine ⟨_, rfl, ?_⟩; have n0_ := Aside0.mk (KeepBut.blk hk (g' := gb366) (o := .cells #[.bool false, .slice none 0 0, .slice none 0 0] 25 (0, 0)) (zw0 BK366.out) NB366_0.out (by simp)); have n1_ := Aside0.mk (Kd.R_lower ho0 (keep_size (w := w) (g := g) (row := none) (zw8 HK.out GW366.out))); have n2_ := Aside0.mk (Kd.R_lower (Kd.R_newB ho1 (g := gb366) (o := .cells #[.bool false, .slice none 0 0, .slice none 0 0] 25 (0, 0)) (zw0 BK366.out)) (keep_size (w := w) (g := g) (row := none) (zw8 HK.out GW366.out))); have n3_ := Aside0.mk (KeepBut.trans (zw8 HK.out GW366.out) hk (.inl rfl)); have n4_ := Aside0.mk (hb); have n5_ := Aside0.mk (hi); clear BK366; clear HK; clear HB; clear HI0; have BK366 := n0_; have HO426 := n1_; have HO429 := n2_; have HK := n3_; have HB := n4_; have HI0 := n5_; clear n0_ n1_ n2_ n3_ n4_ n5_; (try clear hb); (try clear hb2); (try clear hk); (try clear hi); (try clear ho0); (try clear ho1); have hnb75 := NB366_0.out; have hnc75 := NB0_366.out; have hcz76_0 : w74.cell? ⟨gb366, 0, none⟩ = some (.bool false) := (blk_cell BK366.out 0).trans rfl; have hcz76_1 : w74.cell? ⟨gb366, 1, none⟩ = some (.slice none 0 0) := (blk_cell BK366.out 1).trans rfl; have hcz76_2 : w74.cell? ⟨gb366, 2, none⟩ = some (.slice none 0 0) := (blk_cell BK366.out 2).trans rfl; have hfz76_0 := blk_frozen BK366.out 0; have hfz76_1 := blk_frozen BK366.out 1; have hfz76_2 := blk_frozen BK366.out 2; obtain ⟨Ao77, co77, eo77⟩ := Kd.R_slice HO426.out; subst eo77; obtain ⟨Ao78, co78, eo78⟩ := Kd.R_slice HO429.out; subst eo78))
                                          refine bodyPost_ret (results_ct rfl _ _ gb366 25 #[.bool t423, .slice Ao77 t424.length co77, .slice Ao78 t427.length co78] (0, 0) _ rfl (by (with_reducible repeat (first | refine blk_drewN ?_ _ | refine blk_drew ?_ | refine blk_alloc ?_ _)); refine blk_put (cs := #[.bool t423, .slice Ao77 t424.length co77, .slice none 0 0]) ?_ 2 _ rfl; (with_reducible repeat (first | refine blk_drewN ?_ _ | refine blk_drew ?_ | refine blk_alloc ?_ _)); refine blk_put (cs := #[.bool t423, .slice none 0 0, .slice none 0 0]) ?_ 1 _ rfl; (with_reducible repeat (first | refine blk_drewN ?_ _ | refine blk_drew ?_ | refine blk_alloc ?_ _)); refine blk_put (cs := #[.bool false, .slice none 0 0, .slice none 0 0]) ?_ 0 _ rfl; (with_reducible repeat (first | refine blk_drewN ?_ _ | refine blk_drew ?_ | refine blk_alloc ?_ _)); exact BK366.out) Try.underlying25 rfl (by kernel_rfl)) rfl ?_
                                          exact ⟨_, _, by first | rfl | (simp [errW_none, errW_some] <;> rfl) | (simp only [← hji52]; first | rfl | (simp [errW_none, errW_some] <;> rfl)) | (simp [*, errW_none, errW_some] <;> rfl), by (with_reducible repeat (first | apply Kd.R_alloc | apply Kd.R_drewN | apply Kd.R_drew)); exact Kd.R_mono (Kd.R_far (p := ⟨gb366, 2, none⟩) (Kd.R_far (p := ⟨gb366, 1, none⟩) (Kd.R_far (p := ⟨gb366, 0, none⟩) (Kd.R_types HO426.out BK366.out (by decide)) (fun _ hk => hk.2) (.bool t423)) (fun _ hk => hk.2) (.slice Ao77 t424.length co77)) (fun _ hk => hk.2) (.slice Ao78 t427.length co78)) (fun _ hk => trivial), by (with_reducible repeat (first | apply Kd.R_alloc | apply Kd.R_drewN | apply Kd.R_drew)); exact Kd.R_mono (Kd.R_far (p := ⟨gb366, 2, none⟩) (Kd.R_far (p := ⟨gb366, 1, none⟩) (Kd.R_far (p := ⟨gb366, 0, none⟩) (Kd.R_mono HO429.out (fun k_ hk => (⟨hk, hk.2⟩ : _ ∧ k_ ≠ gb366))) (fun _ hk => hk.2) (.bool t423)) (fun _ hk => hk.2) (.slice Ao77 t424.length co77)) (fun _ hk => hk.2) (.slice Ao78 t427.length co78)) (fun _ hk => hk.1.1), by repeat (first | (with_reducible first | exact HI0.out | apply IsS65.alloc | apply IsS65.drewN | apply IsS65.drew | apply IsS65.set_1 | apply IsS65.set_2 | refine IsS65.far ?_ NB0_366.out _) | exact HI0.out), by repeat (first | (with_reducible first | exact HB.out | apply below_alloc | apply pw_below_drewN | apply below_drew1 | refine below_set ?_ (IsS65.ge HI0.out) | refine below_set ?_ GE366.out) | exact HB.out), by repeat (first | (with_reducible first | exact HK.out | apply KeepBut.set_ | apply keep_drewN | apply keep_drew | apply keep_alloc | refine keep_far ?_ GW366.out _) | exact HK.out)⟩
                                        · rw [if_neg c71] at H
                                          have c71b0 : decide (2147483648 < x12_3) = false := decide_eq_false c71
                                          clear c71
                                          have H' := Aside0.mk H
                                          clear H
                                          obtain ⟨ASz79_0, cSz79_0, HGz79, hgz79, ⟨HSz79_0, HCSz79_0⟩⟩ := HI0.out
                                          have hcz79_0 := cellS65_0 HGz79
                                          have hcz79_1 := cellS65_1 HGz79
                                          have hcz79_2 := cellS65_2 HGz79
                                          have hfz79_1 := blk_frozen HGz79 1
                                          have hfz79_2 := blk_frozen HGz79 2
                                          clear HGz79 hgz79
                                          have p402 : 0 ≤ ((ji52) : Int) := of_decide_eq_true (by first | (with_reducible assumption) | assumption)
                                          have q402 : (ji52) < (s0_0.length : Int) := of_decide_eq_true (by first | (with_reducible assumption) | assumption)
                                          obtain ⟨ad402, e402, hx402_0⟩ := Kd.at_int HSz79_0 (ji52) p402 q402
                                          cases e402
                                          replace hx402_0 := pw_cell_below HB.out hx402_0
                                          replace p402 := eq_true p402
                                          replace q402 := eq_true q402
                                          go_wp2
                                          go_meet
                                          case rel => exact ⟨_, (x12_3), (wrap64 ((ji52) + (wrap64 ((wrap64 ((wrap64 (rd s0_0 a1)) - x11_32)) - 55)))), ((wrap64 (s0_1 + 1))), (s0_2), (false), zw7, (by first | rfl | (simp; done) | (simp only [← hji52] <;> (first | rfl | simp)) | (simp [*]; done)), H', ⟨by have := HJ12.out; have := HJ32.out; have := HK3.out; first | omega | exact Nat.le_refl _⟩, ⟨by (with_reducible repeat (first | refine blk_drewN ?_ _ | refine blk_drew ?_ | refine blk_alloc ?_ _)); exact BK366.out⟩, ⟨by repeat (first | (with_reducible first | exact HI0.out | apply IsS65.alloc | apply IsS65.drewN | apply IsS65.drew | apply IsS65.set_1 | apply IsS65.set_2 | refine IsS65.far ?_ NB0_366.out _) | exact HI0.out)⟩, ⟨by repeat (first | (with_reducible first | exact HK.out | apply KeepBut.set_ | apply keep_drewN | apply keep_drew | apply keep_alloc | refine keep_far ?_ GW366.out _) | exact HK.out)⟩, ⟨by repeat (first | (with_reducible first | exact HB.out | apply below_alloc | apply pw_below_drewN | apply below_drew1 | refine below_set ?_ (IsS65.ge HI0.out) | refine below_set ?_ GE366.out) | exact HB.out)⟩⟩
                                  · rw [if_neg c54] at H
                                    exact absurd H (by simp)
                                · rw [if_neg c53] at H
                                  exact absurd H (by simp)
                      · rw [if_neg c37] at H
                        have c37b0 : decide (55 < (wrap64 ((wrap64 (rd s0_0 a1)) - x11_32))) = false := decide_eq_false c37
                        clear c37
                        (first | rw [c37b0] | (simp only [i64_w, i32_w]; rw [c37b0]) | skip)
                        have H' := Aside0.mk H
                        clear H
                        go_wp2
                        go_meet
                        case rel => exact ⟨_, (wrap64 ((wrap64 (rd s0_0 a1)) - x11_32)), (wrap64 (a1 + 1)), ((wrap64 (s0_1 + 1))), (s0_2), (false), zw7, zw7, H', ⟨by have := HJ12.out; have := HJ32.out; first | omega | exact Nat.le_refl _⟩, ⟨by (with_reducible repeat (first | refine blk_drewN ?_ _ | refine blk_drew ?_ | refine blk_alloc ?_ _)); exact BK366.out⟩, ⟨by repeat (first | (with_reducible first | exact HI0.out | apply IsS65.alloc | apply IsS65.drewN | apply IsS65.drew | apply IsS65.set_1 | apply IsS65.set_2 | refine IsS65.far ?_ NB0_366.out _) | exact HI0.out)⟩, ⟨by repeat (first | (with_reducible first | exact HK.out | apply KeepBut.set_ | apply keep_drewN | apply keep_drew | apply keep_alloc | refine keep_far ?_ GW366.out _) | exact HK.out)⟩, ⟨by repeat (first | (with_reducible first | exact HB.out | apply below_alloc | apply pw_below_drewN | apply below_drew1 | refine below_set ?_ (IsS65.ge HI0.out) | refine below_set ?_ GE366.out) | exact HB.out)⟩⟩
                    case rest =>
                      clear HC36
                      try clear c1
                      try clear c2
                      try clear p2
                      try clear c3
                      try clear p3
                      try clear q3
                      try clear hx3
                      try clear c4
                      try clear p4
                      try clear q4
                      try clear hx4
                      try clear c5
                      try clear c5b0
                      try clear c6
                      try clear p6
                      try clear c7
                      try clear c9
                      try clear c15
                      try clear c15b0
                      try clear c17
                      try clear c20
                      try clear c24
                      try clear c24b0
                      try clear c25
                      try clear c25b0
                      try clear c26
                      try clear c26b0
                      try clear c29
                      try clear c31
                      try clear c35
                      try clear c35b0
                      try clear c37
                      try clear c37b0
                      try clear c38
                      try clear c38b0
                      try clear p38
                      try clear q38
                      try clear hx38
                      try clear p40
                      try clear q40
                      try clear hx40
                      try clear c41
                      try clear c45
                      try clear c45b0
                      try clear c46
                      try clear c46b0
                      try clear c47
                      try clear c47b0
                      try clear c49
                      try clear c49b0
                      try clear c50
                      try clear c50b0
                      try clear c53
                      try clear c53b0
                      try clear c54
                      try clear c54b0
                      try clear c55
                      try clear c55b0
                      try clear c55b1
                      try clear c59
                      try clear c63
                      try clear c63b0
                      try clear p64
                      try clear c67
                      try clear c71
                      try clear c71b0
                      try clear c75
                      try clear hcz10_0
                      try clear hcz10_1
                      try clear hcz10_2
                      try clear hcz16_0
                      try clear hcz16_1
                      try clear hcz16_2
                      try clear hcz21_0
                      try clear hcz21_1
                      try clear hcz21_2
                      try clear hcz27_0
                      try clear hcz27_1
                      try clear hcz27_2
                      try clear hcz32_0
                      try clear hcz32_1
                      try clear hcz32_2
                      try clear hcz34_0
                      try clear hcz34_1
                      try clear hcz34_2
                      try clear hcz42_0
                      try clear hcz42_1
                      try clear hcz42_2
                      try clear hcz51_0
                      try clear hcz51_1
                      try clear hcz51_2
                      try clear hcz57_0
                      try clear hcz57_1
                      try clear hcz57_2
                      try clear hcz60_0
                      try clear hcz60_1
                      try clear hcz60_2
                      try clear hcz65_0
                      try clear hcz65_1
                      try clear hcz65_2
                      try clear hcz68_0
                      try clear hcz68_1
                      try clear hcz68_2
                      try clear hcz73_0
                      try clear hcz73_1
                      try clear hcz73_2
                      try clear hcz76_0
                      try clear hcz76_1
                      try clear hcz76_2
                      try clear hcz79_0
                      try clear hcz79_1
                      try clear hcz79_2
                      try clear hfz10_0
                      try clear hfz10_1
                      try clear hfz10_2
                      try clear hfz16_1
                      try clear hfz16_2
                      try clear hfz21_0
                      try clear hfz21_1
                      try clear hfz21_2
                      try clear hfz27_1
                      try clear hfz27_2
                      try clear hfz32_0
                      try clear hfz32_1
                      try clear hfz32_2
                      try clear hfz34_1
                      try clear hfz34_2
                      try clear hfz42_0
                      try clear hfz42_1
                      try clear hfz42_2
                      try clear hfz51_1
                      try clear hfz51_2
                      try clear hfz57_1
                      try clear hfz57_2
                      try clear hfz60_0
                      try clear hfz60_1
                      try clear hfz60_2
                      try clear hfz65_1
                      try clear hfz65_2
                      try clear hfz68_0
                      try clear hfz68_1
                      try clear hfz68_2
                      try clear hfz73_1
                      try clear hfz73_2
                      try clear hfz76_0
                      try clear hfz76_1
                      try clear hfz76_2
                      try clear hfz79_1
                      try clear hfz79_2
                      try clear hx387_0
                      try clear hx401_0
                      try clear hx402_0
                      try clear p2
                      try clear p3
                      try clear p38
                      try clear p387
                      try clear p401
                      try clear p402
                      try clear p6
                      try clear q3
                      try clear q38
                      try clear q387
                      try clear q401
                      try clear q402
                      obtain ⟨kq, x12_35, x13_35, x1001_35, x1002_35, x367000_35, rfl, rfl, HA, HJ35, BK366, HI0, HK, HB⟩ := hcut
                      cases kq with
                      | zero => exact absurd HA.out (by simp [moraineref4_reader_item.j3])
                      | succ kj35 =>
                        have H := HA.out
                        clear HA
                        simp only [moraineref4_reader_item.j3] at H
                        by_cases c80 : x12_35 > (wrap64 (a2 - x13_35))
                        · rw [if_pos c80] at H
                          have c80b0 : decide ((wrap64 (a2 - x13_35)) < x12_35) = true := decide_eq_true c80
                          clear c80
                          replace H := Option.bind_eq_some_iff.mp H
                          obtain ⟨⟨t433, t434, t437, t440, t441, t442⟩, A810, H⟩ := H
                          replace H : (some (t433, t434, t437, t440, t441, t442)) = some (r1, r2, r3, r4, r5, r6) := H
                          have A81 := Aside0.mk A810
                          clear A810
                          simp only [Option.some.injEq, Prod.mk.injEq] at H
                          obtain ⟨rfl, rfl, rfl, rfl, rfl, rfl⟩ := H
                          go_wp2_with (first | ((with_reducible refine gate_callee (f := 38) rfl ?_); refine goesL_ (some 136) rfl rfl Try.func38 (by kernel_rfl) rfl #[.pointer (some ⟨g, 0, none⟩), .int .i64 41] rfl zw6 ?_; (with_reducible refine (moraineref4_reader_fault.calls g s0_0 x1001_35 x1002_35 41 t433 t434 t437 t440 t441 t442 w0 _ ?side1 ?side2 A81.out).mono ?_); (case side1 => exact zw24 HI0.out NB0_366.out); (case side2 => exact zw18 HB.out HI0.out GE366.out); rintro e w82 ⟨v435, v438, rfl, ho0, ho1, hi, hb, hk⟩; refine ⟨_, rfl, ?_⟩; have n0_ := Aside0.mk (KeepBut.blk hk (g' := gb366) (o := .cells #[.bool x367000_35, .slice none 0 0, .slice none 0 0] 25 (0, 0)) (zw0 BK366.out) NB366_0.out (by simp)); have n1_ := Aside0.mk (Kd.R_lower ho0 (keep_size (w := w) (g := g) (row := none) (zw8 HK.out GW366.out))); have n2_ := Aside0.mk (Kd.R_lower (Kd.R_newB ho1 (g := gb366) (o := .cells #[.bool x367000_35, .slice none 0 0, .slice none 0 0] 25 (0, 0)) (zw0 BK366.out)) (keep_size (w := w) (g := g) (row := none) (zw8 HK.out GW366.out))); have n3_ := Aside0.mk (KeepBut.trans (zw8 HK.out GW366.out) hk (.inl rfl)); have n4_ := Aside0.mk (hb); have n5_ := Aside0.mk (hi); clear BK366; clear HK; clear HB; clear HI0; have BK366 := n0_; have HO436 := n1_; have HO439 := n2_; have HK := n3_; have HB := n4_; have HI0 := n5_; clear n0_ n1_ n2_ n3_ n4_ n5_; (try clear hb); (try clear hb2); (try clear hk); (try clear hi); (try clear ho0); (try clear ho1); have hnb83 := NB366_0.out; have hnc83 := NB0_366.out; have hcz84_0 : w82.cell? ⟨gb366, 0, none⟩ = some (.bool x367000_35) := (blk_cell BK366.out 0).trans rfl; have hcz84_1 : w82.cell? ⟨gb366, 1, none⟩ = some (.slice none 0 0) := (blk_cell BK366.out 1).trans rfl; have hcz84_2 : w82.cell? ⟨gb366, 2, none⟩ = some (.slice none 0 0) := (blk_cell BK366.out 2).trans rfl; have hfz84_0 := blk_frozen BK366.out 0; have hfz84_1 := blk_frozen BK366.out 1; have hfz84_2 := blk_frozen BK366.out 2; obtain ⟨Ao85, co85, eo85⟩ := Kd.R_slice HO436.out; subst eo85; obtain ⟨Ao86, co86, eo86⟩ := Kd.R_slice HO439.out; subst eo86))
                          refine bodyPost_ret (results_ct rfl _ _ gb366 25 #[.bool t433, .slice Ao85 t434.length co85, .slice Ao86 t437.length co86] (0, 0) _ rfl (by (with_reducible repeat (first | refine blk_drewN ?_ _ | refine blk_drew ?_ | refine blk_alloc ?_ _)); refine blk_put (cs := #[.bool t433, .slice Ao85 t434.length co85, .slice none 0 0]) ?_ 2 _ rfl; (with_reducible repeat (first | refine blk_drewN ?_ _ | refine blk_drew ?_ | refine blk_alloc ?_ _)); refine blk_put (cs := #[.bool t433, .slice none 0 0, .slice none 0 0]) ?_ 1 _ rfl; (with_reducible repeat (first | refine blk_drewN ?_ _ | refine blk_drew ?_ | refine blk_alloc ?_ _)); refine blk_put (cs := #[.bool x367000_35, .slice none 0 0, .slice none 0 0]) ?_ 0 _ rfl; (with_reducible repeat (first | refine blk_drewN ?_ _ | refine blk_drew ?_ | refine blk_alloc ?_ _)); exact BK366.out) Try.underlying25 rfl (by kernel_rfl)) rfl ?_
                          exact ⟨_, _, by first | rfl | (simp [errW_none, errW_some] <;> rfl) | (simp [*, errW_none, errW_some] <;> rfl), by (with_reducible repeat (first | apply Kd.R_alloc | apply Kd.R_drewN | apply Kd.R_drew)); exact Kd.R_mono (Kd.R_far (p := ⟨gb366, 2, none⟩) (Kd.R_far (p := ⟨gb366, 1, none⟩) (Kd.R_far (p := ⟨gb366, 0, none⟩) (Kd.R_types HO436.out BK366.out (by decide)) (fun _ hk => hk.2) (.bool t433)) (fun _ hk => hk.2) (.slice Ao85 t434.length co85)) (fun _ hk => hk.2) (.slice Ao86 t437.length co86)) (fun _ hk => trivial), by (with_reducible repeat (first | apply Kd.R_alloc | apply Kd.R_drewN | apply Kd.R_drew)); exact Kd.R_mono (Kd.R_far (p := ⟨gb366, 2, none⟩) (Kd.R_far (p := ⟨gb366, 1, none⟩) (Kd.R_far (p := ⟨gb366, 0, none⟩) (Kd.R_mono HO439.out (fun k_ hk => (⟨hk, hk.2⟩ : _ ∧ k_ ≠ gb366))) (fun _ hk => hk.2) (.bool t433)) (fun _ hk => hk.2) (.slice Ao85 t434.length co85)) (fun _ hk => hk.2) (.slice Ao86 t437.length co86)) (fun _ hk => hk.1.1), by repeat (first | (with_reducible first | exact HI0.out | apply IsS65.alloc | apply IsS65.drewN | apply IsS65.drew | apply IsS65.set_1 | apply IsS65.set_2 | refine IsS65.far ?_ NB0_366.out _) | exact HI0.out), by repeat (first | (with_reducible first | exact HB.out | apply below_alloc | apply pw_below_drewN | apply below_drew1 | refine below_set ?_ (IsS65.ge HI0.out) | refine below_set ?_ GE366.out) | exact HB.out), by repeat (first | (with_reducible first | exact HK.out | apply KeepBut.set_ | apply keep_drewN | apply keep_drew | apply keep_alloc | refine keep_far ?_ GW366.out _) | exact HK.out)⟩
                        · rw [if_neg c80] at H
                          have c80b0 : decide ((wrap64 (a2 - x13_35)) < x12_35) = false := decide_eq_false c80
                          clear c80
                          by_cases c87 : x11_32 = 128
                          · rw [if_pos c87] at H
                            have c87b0 : (x11_32 == 128) = true := beq_iff_eq.mpr c87
                            have c87b1 : (x11_32 != 128) = false := bne_eq_false_iff_eq.mpr c87
                            clear c87
                            by_cases c88 : x12_35 = 1
                            · rw [if_pos c88] at H
                              have c88b0 : (x12_35 == 1) = true := beq_iff_eq.mpr c88
                              have c88b1 : (x12_35 != 1) = false := bne_eq_false_iff_eq.mpr c88
                              clear c88
                              by_cases c89 : 0 ≤ x13_35
                              · rw [if_pos c89] at H
                                have c89b0 : decide (0 ≤ x13_35) = true := decide_eq_true c89
                                clear c89
                                by_cases c90 : x13_35 < (s0_0.length : Int)
                                · rw [if_pos c90] at H
                                  have c90b0 : decide (x13_35 < (s0_0.length : Int)) = true := decide_eq_true c90
                                  clear c90
                                  by_cases c91 : (rd s0_0 x13_35) < 128
                                  · rw [if_pos c91] at H
                                    have c91b0 : decide ((rd s0_0 x13_35) < 128) = true := decide_eq_true c91
                                    clear c91
                                    replace H := Option.bind_eq_some_iff.mp H
                                    obtain ⟨⟨t444, t445, t448, t451, t452, t453⟩, A920, H⟩ := H
                                    replace H : (some (t444, t445, t448, t451, t452, t453)) = some (r1, r2, r3, r4, r5, r6) := H
                                    have A92 := Aside0.mk A920
                                    clear A920
                                    simp only [Option.some.injEq, Prod.mk.injEq] at H
                                    obtain ⟨rfl, rfl, rfl, rfl, rfl, rfl⟩ := H
                                    obtain ⟨ASz93_0, cSz93_0, HGz93, hgz93, ⟨HSz93_0, HCSz93_0⟩⟩ := HI0.out
                                    have hcz93_0 := cellS65_0 HGz93
                                    have hcz93_1 := cellS65_1 HGz93
                                    have hcz93_2 := cellS65_2 HGz93
                                    have hfz93_1 := blk_frozen HGz93 1
                                    have hfz93_2 := blk_frozen HGz93 2
                                    clear HGz93 hgz93
                                    have p443 : 0 ≤ (x13_35 : Int) := of_decide_eq_true (by first | (with_reducible assumption) | assumption)
                                    have q443 : x13_35 < (s0_0.length : Int) := of_decide_eq_true (by first | (with_reducible assumption) | assumption)
                                    obtain ⟨ad443, e443, hx443_0⟩ := Kd.at_int HSz93_0 x13_35 p443 q443
                                    cases e443
                                    replace hx443_0 := pw_cell_below HB.out hx443_0
                                    replace p443 := eq_true p443
                                    replace q443 := eq_true q443
                                    go_wp2_with (first | ((with_reducible refine gate_callee (f := 38) rfl ?_); refine goesL_ (some 157) rfl rfl Try.func38 (by kernel_rfl) rfl #[.pointer (some ⟨g, 0, none⟩), .int .i64 40] rfl zw6 ?_; (with_reducible refine (moraineref4_reader_fault.calls g s0_0 x1001_35 x1002_35 40 t444 t445 t448 t451 t452 t453 w0 _ ?side1 ?side2 A92.out).mono ?_); (case side1 => exact zw24 HI0.out NB0_366.out); (case side2 => exact zw18 HB.out HI0.out GE366.out); rintro e w94 ⟨v446, v449, rfl, ho0, ho1, hi, hb, hk⟩; refine ⟨_, rfl, ?_⟩; have n0_ := Aside0.mk (KeepBut.blk hk (g' := gb366) (o := .cells #[.bool x367000_35, .slice none 0 0, .slice none 0 0] 25 (0, 0)) (zw0 BK366.out) NB366_0.out (by simp)); have n1_ := Aside0.mk (Kd.R_lower ho0 (keep_size (w := w) (g := g) (row := none) (zw8 HK.out GW366.out))); have n2_ := Aside0.mk (Kd.R_lower (Kd.R_newB ho1 (g := gb366) (o := .cells #[.bool x367000_35, .slice none 0 0, .slice none 0 0] 25 (0, 0)) (zw0 BK366.out)) (keep_size (w := w) (g := g) (row := none) (zw8 HK.out GW366.out))); have n3_ := Aside0.mk (KeepBut.trans (zw8 HK.out GW366.out) hk (.inl rfl)); have n4_ := Aside0.mk (hb); have n5_ := Aside0.mk (hi); clear BK366; clear HK; clear HB; clear HI0; have BK366 := n0_; have HO447 := n1_; have HO450 := n2_; have HK := n3_; have HB := n4_; have HI0 := n5_; clear n0_ n1_ n2_ n3_ n4_ n5_; (try clear hb); (try clear hb2); (try clear hk); (try clear hi); (try clear ho0); (try clear ho1); have hnb95 := NB366_0.out; have hnc95 := NB0_366.out; have hcz96_0 : w94.cell? ⟨gb366, 0, none⟩ = some (.bool x367000_35) := (blk_cell BK366.out 0).trans rfl; have hcz96_1 : w94.cell? ⟨gb366, 1, none⟩ = some (.slice none 0 0) := (blk_cell BK366.out 1).trans rfl; have hcz96_2 : w94.cell? ⟨gb366, 2, none⟩ = some (.slice none 0 0) := (blk_cell BK366.out 2).trans rfl; have hfz96_0 := blk_frozen BK366.out 0; have hfz96_1 := blk_frozen BK366.out 1; have hfz96_2 := blk_frozen BK366.out 2; obtain ⟨Ao97, co97, eo97⟩ := Kd.R_slice HO447.out; subst eo97; obtain ⟨Ao98, co98, eo98⟩ := Kd.R_slice HO450.out; subst eo98))
                                    refine bodyPost_ret (results_ct rfl _ _ gb366 25 #[.bool t444, .slice Ao97 t445.length co97, .slice Ao98 t448.length co98] (0, 0) _ rfl (by (with_reducible repeat (first | refine blk_drewN ?_ _ | refine blk_drew ?_ | refine blk_alloc ?_ _)); refine blk_put (cs := #[.bool t444, .slice Ao97 t445.length co97, .slice none 0 0]) ?_ 2 _ rfl; (with_reducible repeat (first | refine blk_drewN ?_ _ | refine blk_drew ?_ | refine blk_alloc ?_ _)); refine blk_put (cs := #[.bool t444, .slice none 0 0, .slice none 0 0]) ?_ 1 _ rfl; (with_reducible repeat (first | refine blk_drewN ?_ _ | refine blk_drew ?_ | refine blk_alloc ?_ _)); refine blk_put (cs := #[.bool x367000_35, .slice none 0 0, .slice none 0 0]) ?_ 0 _ rfl; (with_reducible repeat (first | refine blk_drewN ?_ _ | refine blk_drew ?_ | refine blk_alloc ?_ _)); exact BK366.out) Try.underlying25 rfl (by kernel_rfl)) rfl ?_
                                    exact ⟨_, _, by first | rfl | (simp [errW_none, errW_some] <;> rfl) | (simp [*, errW_none, errW_some] <;> rfl), by (with_reducible repeat (first | apply Kd.R_alloc | apply Kd.R_drewN | apply Kd.R_drew)); exact Kd.R_mono (Kd.R_far (p := ⟨gb366, 2, none⟩) (Kd.R_far (p := ⟨gb366, 1, none⟩) (Kd.R_far (p := ⟨gb366, 0, none⟩) (Kd.R_types HO447.out BK366.out (by decide)) (fun _ hk => hk.2) (.bool t444)) (fun _ hk => hk.2) (.slice Ao97 t445.length co97)) (fun _ hk => hk.2) (.slice Ao98 t448.length co98)) (fun _ hk => trivial), by (with_reducible repeat (first | apply Kd.R_alloc | apply Kd.R_drewN | apply Kd.R_drew)); exact Kd.R_mono (Kd.R_far (p := ⟨gb366, 2, none⟩) (Kd.R_far (p := ⟨gb366, 1, none⟩) (Kd.R_far (p := ⟨gb366, 0, none⟩) (Kd.R_mono HO450.out (fun k_ hk => (⟨hk, hk.2⟩ : _ ∧ k_ ≠ gb366))) (fun _ hk => hk.2) (.bool t444)) (fun _ hk => hk.2) (.slice Ao97 t445.length co97)) (fun _ hk => hk.2) (.slice Ao98 t448.length co98)) (fun _ hk => hk.1.1), by repeat (first | (with_reducible first | exact HI0.out | apply IsS65.alloc | apply IsS65.drewN | apply IsS65.drew | apply IsS65.set_1 | apply IsS65.set_2 | refine IsS65.far ?_ NB0_366.out _) | exact HI0.out), by repeat (first | (with_reducible first | exact HB.out | apply below_alloc | apply pw_below_drewN | apply below_drew1 | refine below_set ?_ (IsS65.ge HI0.out) | refine below_set ?_ GE366.out) | exact HB.out), by repeat (first | (with_reducible first | exact HK.out | apply KeepBut.set_ | apply keep_drewN | apply keep_drew | apply keep_alloc | refine keep_far ?_ GW366.out _) | exact HK.out)⟩
                                  · rw [if_neg c91] at H
                                    have c91b0 : decide ((rd s0_0 x13_35) < 128) = false := decide_eq_false c91
                                    clear c91
                                    have c99b0 := eq_true (of_decide_eq_true (by first | (with_reducible assumption) | assumption) : 0 ≤ x13_35)
                                    by_cases c100 : x13_35 ≤ (wrap64 (x13_35 + x12_35))
                                    · rw [if_pos c100] at H
                                      have c100b0 := eq_true c100
                                      have c100b1 : decide (x13_35 ≤ (wrap64 (x13_35 + x12_35))) = true := decide_eq_true c100
                                      by_cases c101 : (wrap64 (x13_35 + x12_35)) ≤ (s0_0.length : Int)
                                      · rw [if_pos c101] at H
                                        have c101b0 := eq_true c101
                                        have c101b1 : decide ((wrap64 (x13_35 + x12_35)) ≤ (s0_0.length : Int)) = true := decide_eq_true c101
                                        by_cases c102 : ([] : List Int).length + ((s0_0.take ((wrap64 (x13_35 + x12_35)) : Int).toNat).drop (x13_35 : Int).toNat).length < 140737488355328
                                        · rw [if_pos c102] at H
                                          have LMc102 := Aside0.mk c102
                                          clear c102
                                          obtain ⟨y455, hy455⟩ : ∃ y_ : List Int, y_ = (([] : List Int) ++ ((s0_0.take ((wrap64 (x13_35 + x12_35)) : Int).toNat).drop (x13_35 : Int).toNat)) := ⟨_, rfl⟩
                                          replace H : (some (false, y455, ([] : List (S25)), wrap64 (x13_35 + x12_35), x1001_35, x1002_35)) = some (r1, r2, r3, r4, r5, r6) := by first | (rw [hy455]; with_reducible exact H) | (have H2_ := (Option.bind_some _ _).symm.trans H; rw [hy455]; with_reducible exact H2_) | (have H2_ := (Option.bind_some _ _).symm.trans H; with_reducible exact H2_) | with_reducible exact H | (rw [hy455]; exact H) | exact H
                                          have Ny455 := Aside0.mk hy455
                                          clear hy455
                                          simp only [Option.some.injEq, Prod.mk.injEq] at H
                                          obtain ⟨rfl, rfl, rfl, rfl, rfl, rfl⟩ := H
                                          obtain ⟨ASz103_0, cSz103_0, HGz103, hgz103, ⟨HSz103_0, HCSz103_0⟩⟩ := HI0.out
                                          have hcz103_0 := cellS65_0 HGz103
                                          have hcz103_1 := cellS65_1 HGz103
                                          have hcz103_2 := cellS65_2 HGz103
                                          have hfz103_1 := blk_frozen HGz103 1
                                          have hfz103_2 := blk_frozen HGz103 2
                                          clear HGz103 hgz103
                                          have p443 : 0 ≤ (x13_35 : Int) := of_decide_eq_true (by first | (with_reducible assumption) | assumption)
                                          have q443 : x13_35 < (s0_0.length : Int) := of_decide_eq_true (by first | (with_reducible assumption) | assumption)
                                          obtain ⟨ad443, e443, hx443_0⟩ := Kd.at_int HSz103_0 x13_35 p443 q443
                                          cases e443
                                          replace hx443_0 := pw_cell_below HB.out hx443_0
                                          replace p443 := eq_true p443
                                          replace q443 := eq_true q443
                                          obtain ⟨i0104, hi0104, _, hsz104, _⟩ := info_parts info5
                                          obtain ⟨A104, hcut104, hA104, hC104⟩ := print_mid_of (P := Try.prog) (Value.int .u8) 0 22 5 .i64 .i64 Try.underlying22 hi0104 hsz104 (some ad443) cSz103_0 s0_0 x13_35 (wrap64 (x13_35 + x12_35)) (of_decide_eq_true (by first | (with_reducible assumption) | assumption)) (by first | omega | exact of_decide_eq_true (by first | (with_reducible assumption) | assumption)) (of_decide_eq_true (by first | (with_reducible assumption) | assumption)) HCSz103_0
                                          have HR454 := Aside0.mk (Kd.C_of_reads (h1 := fun _ => rfl) (hA104 _ (Kd.reads_of_C HSz103_0)))
                                          have HC454 := Aside0.mk hC104
                                          clear hA104 hC104 hi0104 hsz104
                                          go_wp2_with (first | ((with_reducible refine gate_builtin (b := .append) (xs := #[.const (.slice none 0 0), .tmp 166]) rfl ?_); at_builtin; refine Kd.R_append_rows (Kd.int .u8) w.heap.size rfl (.const (.slice none 0 0)) (.tmp 166) 22 5 (.int .u8 0) 1 rfl Try.underlying22 info5 rfl (by decide) (by omega) (.slice none 0 0) ([] : List Int) ((s0_0.take ((wrap64 (x13_35 + x12_35)) : Int).toNat).drop (x13_35 : Int).toNat) _ _ _ (fun _ => True) (fun _ => False) rfl rfl ?aO ?aR (fun _ _ h => h) (fun _ h => h.elim) ?aF (Below.refl _ _) ?aS ?aL ?_; (case aR => first | (rw [← show ((s0_0.take ((wrap64 (x13_35 + x12_35)) : Int).toNat).drop (x13_35 : Int).toNat).length = ((wrap64 (x13_35 + x12_35)).toNat - x13_35.toNat) from (by rw [List.length_drop, List.length_take]; have h_ : ((wrap64 (x13_35 + x12_35)) : Int) ≤ (s0_0.length : Int) := of_decide_eq_true (by first | (with_reducible assumption) | assumption); omega)]; exact Kd.C_below HR454.out (zw18 HB.out HI0.out GE366.out)) | (exact Kd.C_below HR454.out (zw18 HB.out HI0.out GE366.out))); (case aF => exact (fun _ _ => trivial)); (case aO => exact ((Kd.R_nil _ _ _ _ (fun _ => True)))); (case aS => exact (keep_size (w := w) (g := g) (row := none) (zw8 HK.out GW366.out))); (case aL => have := LMc102.out; have hlx_ := (show ((s0_0.take ((wrap64 (x13_35 + x12_35)) : Int).toNat).drop (x13_35 : Int).toNat).length = ((wrap64 (x13_35 + x12_35)).toNat - x13_35.toNat) from (by rw [List.length_drop, List.length_take]; have h_ : ((wrap64 (x13_35 + x12_35)) : Int) ≤ (s0_0.length : Int) := of_decide_eq_true (by first | (with_reducible assumption) | assumption); omega)); omega); intro v456 w105 ho hb hg hat; rw [← Ny455.out] at ho; have n0_ := Aside0.mk (blk_grown (g := gb366) (o := .cells #[.bool x367000_35, .slice none 0 0, .slice none 0 0] 25 (0, 0)) (zw0 BK366.out) hg (by simp [Value.ownBlock])); have n1_ := Aside0.mk (IsS65.grown (zw24 HI0.out NB0_366.out) hg (by simp [Value.ownBlock])); have n2_ := Aside0.mk (below_weaken (zw18 HB.out HI0.out GE366.out) HL.out hb); have n3_ := Aside0.mk (KeepBut.trans (zw8 HK.out GW366.out) (KeepBut.of_grown hg g) (.inl (by simp [Value.ownBlock]))); have n4_ := Aside0.mk (ho); clear BK366; clear HI0; clear HB; clear HK; have BK366 := n0_; have HI0 := n1_; have HB := n2_; have HK := n3_; have HO457 := n4_; clear n0_ n1_ n2_ n3_ n4_; clear ho hb hg hat; obtain ⟨Ao106, co106, eo106⟩ := Kd.R_slice HO457.out; subst eo106; have hnb107 := NB366_0.out; have hnc107 := NB0_366.out; have hcz108_0 : w105.cell? ⟨gb366, 0, none⟩ = some (.bool x367000_35) := (blk_cell BK366.out 0).trans rfl; have hcz108_1 : w105.cell? ⟨gb366, 1, none⟩ = some (.slice none 0 0) := (blk_cell BK366.out 1).trans rfl; have hcz108_2 : w105.cell? ⟨gb366, 2, none⟩ = some (.slice none 0 0) := (blk_cell BK366.out 2).trans rfl; have hfz108_0 := blk_frozen BK366.out 0; have hfz108_1 := blk_frozen BK366.out 1; have hfz108_2 := blk_frozen BK366.out 2))
                                          refine bodyPost_ret (results_ct rfl _ _ gb366 25 #[.bool false, .slice Ao106 y455.length co106, .slice none 0 0] (0, 0) _ rfl (by (with_reducible repeat (first | refine blk_drewN ?_ _ | refine blk_drew ?_ | refine blk_alloc ?_ _)); refine blk_put (cs := #[.bool false, .slice Ao106 y455.length co106, .slice none 0 0]) ?_ 2 _ rfl; (with_reducible repeat (first | refine blk_drewN ?_ _ | refine blk_drew ?_ | refine blk_alloc ?_ _)); refine blk_put (cs := #[.bool false, .slice none 0 0, .slice none 0 0]) ?_ 1 _ rfl; (with_reducible repeat (first | refine blk_drewN ?_ _ | refine blk_drew ?_ | refine blk_alloc ?_ _)); refine blk_put (cs := #[.bool x367000_35, .slice none 0 0, .slice none 0 0]) ?_ 0 _ rfl; (with_reducible repeat (first | refine blk_drewN ?_ _ | refine blk_drew ?_ | refine blk_alloc ?_ _)); exact BK366.out) Try.underlying25 rfl (by kernel_rfl)) rfl ?_
                                          exact ⟨_, _, by first | rfl | (simp [errW_none, errW_some] <;> rfl) | (simp [*, errW_none, errW_some] <;> rfl), by (with_reducible repeat (first | apply Kd.R_alloc | apply Kd.R_drewN | apply Kd.R_drew)); exact Kd.R_mono (Kd.R_far (p := ⟨gb366, 2, none⟩) (Kd.R_far (p := ⟨gb366, 1, none⟩) (Kd.R_far (p := ⟨gb366, 0, none⟩) (Kd.R_types HO457.out BK366.out (by decide)) (fun _ hk => hk.2) (.bool false)) (fun _ hk => hk.2) (.slice Ao106 y455.length co106)) (fun _ hk => hk.2) (.slice none 0 0)) (fun _ hk => trivial), by first | exact Kd.R_nil _ _ _ _ _ | exact Kd.N_nil _ _ _ _ _ | exact Kd.V_nil _ _ _ _ _ | exact Kd.Q_nil _ _ _ _ _ | exact Kd.S_nil _ _ _ _ _, by repeat (first | (with_reducible first | exact HI0.out | apply IsS65.alloc | apply IsS65.drewN | apply IsS65.drew | apply IsS65.set_1 | apply IsS65.set_2 | refine IsS65.far ?_ NB0_366.out _) | exact HI0.out), by repeat (first | (with_reducible first | exact HB.out | apply below_alloc | apply pw_below_drewN | apply below_drew1 | refine below_set ?_ (IsS65.ge HI0.out) | refine below_set ?_ GE366.out) | exact HB.out), by repeat (first | (with_reducible first | exact HK.out | apply KeepBut.set_ | apply keep_drewN | apply keep_drew | apply keep_alloc | refine keep_far ?_ GW366.out _) | exact HK.out)⟩
                                        · rw [if_neg c102] at H
                                          exact absurd H (by simp)
                                      · rw [if_neg c101] at H
                                        exact absurd H (by simp)
                                    · rw [if_neg c100] at H
                                      exact absurd H (by simp)
                                · rw [if_neg c90] at H
                                  exact absurd H (by simp)
                              · rw [if_neg c89] at H
                                exact absurd H (by simp)
                            · rw [if_neg c88] at H
                              have c88b0 : (x12_35 == 1) = false := beq_eq_false_iff_ne.mpr c88
                              have c88b1 : (x12_35 != 1) = true := bne_iff_ne.mpr c88
                              by_cases c109 : 0 ≤ x13_35
                              · rw [if_pos c109] at H
                                have c109b0 := eq_true c109
                                have c109b1 : decide (0 ≤ x13_35) = true := decide_eq_true c109
                                clear c109
                                by_cases c110 : x13_35 ≤ (wrap64 (x13_35 + x12_35))
                                · rw [if_pos c110] at H
                                  have c110b0 := eq_true c110
                                  have c110b1 : decide (x13_35 ≤ (wrap64 (x13_35 + x12_35))) = true := decide_eq_true c110
                                  by_cases c111 : (wrap64 (x13_35 + x12_35)) ≤ (s0_0.length : Int)
                                  · rw [if_pos c111] at H
                                    have c111b0 := eq_true c111
                                    have c111b1 : decide ((wrap64 (x13_35 + x12_35)) ≤ (s0_0.length : Int)) = true := decide_eq_true c111
                                    by_cases c112 : ([] : List Int).length + ((s0_0.take ((wrap64 (x13_35 + x12_35)) : Int).toNat).drop (x13_35 : Int).toNat).length < 140737488355328
                                    · rw [if_pos c112] at H
                                      have LMc112 := Aside0.mk c112
                                      clear c112
                                      obtain ⟨y459, hy459⟩ : ∃ y_ : List Int, y_ = (([] : List Int) ++ ((s0_0.take ((wrap64 (x13_35 + x12_35)) : Int).toNat).drop (x13_35 : Int).toNat)) := ⟨_, rfl⟩
                                      replace H : (some (false, y459, ([] : List (S25)), wrap64 (x13_35 + x12_35), x1001_35, x1002_35)) = some (r1, r2, r3, r4, r5, r6) := by first | (rw [hy459]; with_reducible exact H) | (have H2_ := (Option.bind_some _ _).symm.trans H; rw [hy459]; with_reducible exact H2_) | (have H2_ := (Option.bind_some _ _).symm.trans H; with_reducible exact H2_) | with_reducible exact H | (rw [hy459]; exact H) | exact H
                                      have Ny459 := Aside0.mk hy459
                                      clear hy459
                                      simp only [Option.some.injEq, Prod.mk.injEq] at H
                                      obtain ⟨rfl, rfl, rfl, rfl, rfl, rfl⟩ := H
                                      obtain ⟨ASz113_0, cSz113_0, HGz113, hgz113, ⟨HSz113_0, HCSz113_0⟩⟩ := HI0.out
                                      have hcz113_0 := cellS65_0 HGz113
                                      have hcz113_1 := cellS65_1 HGz113
                                      have hcz113_2 := cellS65_2 HGz113
                                      have hfz113_1 := blk_frozen HGz113 1
                                      have hfz113_2 := blk_frozen HGz113 2
                                      clear HGz113 hgz113
                                      obtain ⟨i0114, hi0114, _, hsz114, _⟩ := info_parts info5
                                      obtain ⟨A114, hcut114, hA114, hC114⟩ := print_mid_of (P := Try.prog) (Value.int .u8) 0 22 5 .i64 .i64 Try.underlying22 hi0114 hsz114 ASz113_0 cSz113_0 s0_0 x13_35 (wrap64 (x13_35 + x12_35)) (of_decide_eq_true (by first | (with_reducible assumption) | assumption)) (by first | omega | exact of_decide_eq_true (by first | (with_reducible assumption) | assumption)) (of_decide_eq_true (by first | (with_reducible assumption) | assumption)) HCSz113_0
                                      have HR458 := Aside0.mk (Kd.C_of_reads (h1 := fun _ => rfl) (hA114 _ (Kd.reads_of_C HSz113_0)))
                                      have HC458 := Aside0.mk hC114
                                      clear hA114 hC114 hi0114 hsz114
                                      go_wp2_with (first | ((with_reducible refine gate_builtin (b := .append) (xs := #[.const (.slice none 0 0), .tmp 166]) rfl ?_); at_builtin; refine Kd.R_append_rows (Kd.int .u8) w.heap.size rfl (.const (.slice none 0 0)) (.tmp 166) 22 5 (.int .u8 0) 1 rfl Try.underlying22 info5 rfl (by decide) (by omega) (.slice none 0 0) ([] : List Int) ((s0_0.take ((wrap64 (x13_35 + x12_35)) : Int).toNat).drop (x13_35 : Int).toNat) _ _ _ (fun _ => True) (fun _ => False) rfl rfl ?aO ?aR (fun _ _ h => h) (fun _ h => h.elim) ?aF (Below.refl _ _) ?aS ?aL ?_; (case aR => first | (rw [← show ((s0_0.take ((wrap64 (x13_35 + x12_35)) : Int).toNat).drop (x13_35 : Int).toNat).length = ((wrap64 (x13_35 + x12_35)).toNat - x13_35.toNat) from (by rw [List.length_drop, List.length_take]; have h_ : ((wrap64 (x13_35 + x12_35)) : Int) ≤ (s0_0.length : Int) := of_decide_eq_true (by first | (with_reducible assumption) | assumption); omega)]; exact Kd.C_below HR458.out (zw18 HB.out HI0.out GE366.out)) | (exact Kd.C_below HR458.out (zw18 HB.out HI0.out GE366.out))); (case aF => exact (fun _ _ => trivial)); (case aO => exact ((Kd.R_nil _ _ _ _ (fun _ => True)))); (case aS => exact (keep_size (w := w) (g := g) (row := none) (zw8 HK.out GW366.out))); (case aL => have := LMc112.out; have hlx_ := (show ((s0_0.take ((wrap64 (x13_35 + x12_35)) : Int).toNat).drop (x13_35 : Int).toNat).length = ((wrap64 (x13_35 + x12_35)).toNat - x13_35.toNat) from (by rw [List.length_drop, List.length_take]; have h_ : ((wrap64 (x13_35 + x12_35)) : Int) ≤ (s0_0.length : Int) := of_decide_eq_true (by first | (with_reducible assumption) | assumption); omega)); omega); intro v460 w115 ho hb hg hat; rw [← Ny459.out] at ho; have n0_ := Aside0.mk (blk_grown (g := gb366) (o := .cells #[.bool x367000_35, .slice none 0 0, .slice none 0 0] 25 (0, 0)) (zw0 BK366.out) hg (by simp [Value.ownBlock])); have n1_ := Aside0.mk (IsS65.grown (zw24 HI0.out NB0_366.out) hg (by simp [Value.ownBlock])); have n2_ := Aside0.mk (below_weaken (zw18 HB.out HI0.out GE366.out) HL.out hb); have n3_ := Aside0.mk (KeepBut.trans (zw8 HK.out GW366.out) (KeepBut.of_grown hg g) (.inl (by simp [Value.ownBlock]))); have n4_ := Aside0.mk (ho); clear BK366; clear HI0; clear HB; clear HK; have BK366 := n0_; have HI0 := n1_; have HB := n2_; have HK := n3_; have HO461 := n4_; clear n0_ n1_ n2_ n3_ n4_; clear ho hb hg hat; obtain ⟨Ao116, co116, eo116⟩ := Kd.R_slice HO461.out; subst eo116; have hnb117 := NB366_0.out; have hnc117 := NB0_366.out; have hcz118_0 : w115.cell? ⟨gb366, 0, none⟩ = some (.bool x367000_35) := (blk_cell BK366.out 0).trans rfl; have hcz118_1 : w115.cell? ⟨gb366, 1, none⟩ = some (.slice none 0 0) := (blk_cell BK366.out 1).trans rfl; have hcz118_2 : w115.cell? ⟨gb366, 2, none⟩ = some (.slice none 0 0) := (blk_cell BK366.out 2).trans rfl; have hfz118_0 := blk_frozen BK366.out 0; have hfz118_1 := blk_frozen BK366.out 1; have hfz118_2 := blk_frozen BK366.out 2))
                                      refine bodyPost_ret (results_ct rfl _ _ gb366 25 #[.bool false, .slice Ao116 y459.length co116, .slice none 0 0] (0, 0) _ rfl (by (with_reducible repeat (first | refine blk_drewN ?_ _ | refine blk_drew ?_ | refine blk_alloc ?_ _)); refine blk_put (cs := #[.bool false, .slice Ao116 y459.length co116, .slice none 0 0]) ?_ 2 _ rfl; (with_reducible repeat (first | refine blk_drewN ?_ _ | refine blk_drew ?_ | refine blk_alloc ?_ _)); refine blk_put (cs := #[.bool false, .slice none 0 0, .slice none 0 0]) ?_ 1 _ rfl; (with_reducible repeat (first | refine blk_drewN ?_ _ | refine blk_drew ?_ | refine blk_alloc ?_ _)); refine blk_put (cs := #[.bool x367000_35, .slice none 0 0, .slice none 0 0]) ?_ 0 _ rfl; (with_reducible repeat (first | refine blk_drewN ?_ _ | refine blk_drew ?_ | refine blk_alloc ?_ _)); exact BK366.out) Try.underlying25 rfl (by kernel_rfl)) rfl ?_
                                      exact ⟨_, _, by first | rfl | (simp [errW_none, errW_some] <;> rfl) | (simp [*, errW_none, errW_some] <;> rfl), by (with_reducible repeat (first | apply Kd.R_alloc | apply Kd.R_drewN | apply Kd.R_drew)); exact Kd.R_mono (Kd.R_far (p := ⟨gb366, 2, none⟩) (Kd.R_far (p := ⟨gb366, 1, none⟩) (Kd.R_far (p := ⟨gb366, 0, none⟩) (Kd.R_types HO461.out BK366.out (by decide)) (fun _ hk => hk.2) (.bool false)) (fun _ hk => hk.2) (.slice Ao116 y459.length co116)) (fun _ hk => hk.2) (.slice none 0 0)) (fun _ hk => trivial), by first | exact Kd.R_nil _ _ _ _ _ | exact Kd.N_nil _ _ _ _ _ | exact Kd.V_nil _ _ _ _ _ | exact Kd.Q_nil _ _ _ _ _ | exact Kd.S_nil _ _ _ _ _, by repeat (first | (with_reducible first | exact HI0.out | apply IsS65.alloc | apply IsS65.drewN | apply IsS65.drew | apply IsS65.set_1 | apply IsS65.set_2 | refine IsS65.far ?_ NB0_366.out _) | exact HI0.out), by repeat (first | (with_reducible first | exact HB.out | apply below_alloc | apply pw_below_drewN | apply below_drew1 | refine below_set ?_ (IsS65.ge HI0.out) | refine below_set ?_ GE366.out) | exact HB.out), by repeat (first | (with_reducible first | exact HK.out | apply KeepBut.set_ | apply keep_drewN | apply keep_drew | apply keep_alloc | refine keep_far ?_ GW366.out _) | exact HK.out)⟩
                                    · rw [if_neg c112] at H
                                      exact absurd H (by simp)
                                  · rw [if_neg c111] at H
                                    exact absurd H (by simp)
                                · rw [if_neg c110] at H
                                  exact absurd H (by simp)
                              · rw [if_neg c109] at H
                                exact absurd H (by simp)
                          · rw [if_neg c87] at H
                            have c87b0 : (x11_32 == 128) = false := beq_eq_false_iff_ne.mpr c87
                            have c87b1 : (x11_32 != 128) = true := bne_iff_ne.mpr c87
                            have H' := Aside0.mk H
                            clear H
                            go_wp2_with (first | ((with_reducible refine gate_dst (N := 17) rfl ?_); refine box_event ?hg (N := 17) ?hd (cs := #[.bool false, .slice none 0 0, .slice none 0 0]) (t := 25) ?hr ?_; (case hd => rfl); (case hg => rfl); (case hr => first | (go_simp; done) | (go_simp; rfl)); intro gb462 hg w119 hbox hb; have n0_ := Aside0.mk (blk_below (g := gb366) (o := .cells #[.bool x367000_35, .slice none 0 0, .slice none 0 0] 25 (0, 0)) (zw0 BK366.out) hb); have n1_ := Aside0.mk (IsS65.below (zw24 HI0.out NB0_366.out) hb); have n2_ := Aside0.mk (KeepBut.trans (zw8 HK.out GW366.out) (KeepBut.of_below hb g none) (.inl rfl)); have n3_ := Aside0.mk (below_step (zw18 HB.out HI0.out GE366.out) hb); have n4_ := Aside0.mk (hbox); have n5_ := Aside0.mk ((by rw [hg]; exact (keep_size (w := w) (g := g) (row := none) (zw8 HK.out GW366.out)) : w.heap.size ≤ gb462)); have n6_ := Aside0.mk ((Nat.le_trans HW0.out (by rw [hg]; exact (keep_size (w := w) (g := g) (row := none) (zw8 HK.out GW366.out)) : w.heap.size ≤ gb462) : w0.heap.size ≤ gb462)); have n7_ := Aside0.mk ((by rw [hg]; exact Nat.ne_of_lt (blk_lt (g := gb366) (o := .cells #[.bool x367000_35, .slice none 0 0, .slice none 0 0] 25 (0, 0)) (zw0 BK366.out)) : gb366 ≠ gb462)); have n8_ := Aside0.mk ((by rw [hg]; exact Nat.ne_of_gt (blk_lt (g := gb366) (o := .cells #[.bool x367000_35, .slice none 0 0, .slice none 0 0] 25 (0, 0)) (zw0 BK366.out)) : gb462 ≠ gb366)); have n9_ := Aside0.mk ((by rw [hg]; exact Nat.ne_of_lt (IsS65.lt (show IsS65 w0 _ g s0_0 x1001_35 x1002_35 from by repeat (first | (with_reducible first | exact HI0.out | apply IsS65.alloc | apply IsS65.drewN | apply IsS65.drew | apply IsS65.set_1 | apply IsS65.set_2 | refine IsS65.far ?_ NB0_366.out _) | exact HI0.out))) : g ≠ gb462)); have n10_ := Aside0.mk ((by rw [hg]; exact Nat.ne_of_gt (IsS65.lt (show IsS65 w0 _ g s0_0 x1001_35 x1002_35 from by repeat (first | (with_reducible first | exact HI0.out | apply IsS65.alloc | apply IsS65.drewN | apply IsS65.drew | apply IsS65.set_1 | apply IsS65.set_2 | refine IsS65.far ?_ NB0_366.out _) | exact HI0.out))) : gb462 ≠ g)); clear BK366; clear HI0; clear HK; clear HB; have BK366 := n0_; have HI0 := n1_; have HK := n2_; have HB := n3_; have BK462 := n4_; have GW462 := n5_; have GE462 := n6_; have NB366_462 := n7_; have NB462_366 := n8_; have NB0_462 := n9_; have NB462_0 := n10_; clear n0_ n1_ n2_ n3_ n4_ n5_ n6_ n7_ n8_ n9_ n10_; clear hb hbox hg; have hnb120 := NB462_366.out; have hnc120 := NB366_462.out; have hnb121 := NB462_0.out; have hnc121 := NB0_462.out; have hcz122_0 : w119.cell? ⟨gb462, 0, none⟩ = some (.bool false) := (blk_cell BK462.out 0).trans rfl; have hcz122_1 : w119.cell? ⟨gb462, 1, none⟩ = some (.slice none 0 0) := (blk_cell BK462.out 1).trans rfl; have hcz122_2 : w119.cell? ⟨gb462, 2, none⟩ = some (.slice none 0 0) := (blk_cell BK462.out 2).trans rfl; have hfz122_0 := blk_frozen BK462.out 0; have hfz122_1 := blk_frozen BK462.out 1; have hfz122_2 := blk_frozen BK462.out 2))
                            go_loopg [13] kj35 (fun kq v13 w' => ∃ (x13_4 : Int) (x1001_4 : Int) (x1002_4 : Int) (x463002_4 : List (S25)) (u463002 : Value), v13 = .int .i64 x13_4 ∧ Aside0 (moraineref4_reader_item.l1 kq a3 x13_4 (wrap64 (x13_35 + x12_35)) s0_0 x1001_4 x1002_4 true x463002_4 = some (r1, r2, r3, r4, r5, r6)) ∧ Aside0 (kq ≤ kj35) ∧ Aside0 (Kd.R k25 25 w' w.heap.size (fun k_ => k_ ≠ gb366 ∧ k_ ≠ gb462) u463002 x463002_4) ∧ Aside0 (w'.heap[gb366]? = some (.cells #[.bool x367000_35, (.slice none 0 0), (.slice none 0 0)] 25 (0, 0))) ∧ Aside0 (w'.heap[gb462]? = some (.cells #[.bool true, (.slice none 0 0), u463002] 25 (0, 0))) ∧ Aside0 (IsS65 w0 w' g s0_0 x1001_4 x1002_4) ∧ Aside0 (KeepBut w w' g none) ∧ Aside0 (Below w0.heap.size w0 w'))
                            case atStart => exact ⟨(x13_35), (x1001_35), (x1002_35), (([] : List (S25))), (.slice none 0 0), zw7, H', ⟨Nat.le_refl _⟩, ⟨by first | exact Kd.R_nil _ _ _ _ _ | exact Kd.N_nil _ _ _ _ _ | exact Kd.V_nil _ _ _ _ _ | exact Kd.Q_nil _ _ _ _ _ | exact Kd.S_nil _ _ _ _ _⟩, ⟨by (with_reducible repeat (first | refine blk_drewN ?_ _ | refine blk_drew ?_ | refine blk_alloc ?_ _)); refine blk_far ?_ NB366_462.out _; (with_reducible repeat (first | refine blk_drewN ?_ _ | refine blk_drew ?_ | refine blk_alloc ?_ _)); refine blk_far ?_ NB366_462.out _; (with_reducible repeat (first | refine blk_drewN ?_ _ | refine blk_drew ?_ | refine blk_alloc ?_ _)); refine blk_far ?_ NB366_462.out _; (with_reducible repeat (first | refine blk_drewN ?_ _ | refine blk_drew ?_ | refine blk_alloc ?_ _)); exact BK366.out⟩, ⟨by (with_reducible repeat (first | refine blk_drewN ?_ _ | refine blk_drew ?_ | refine blk_alloc ?_ _)); refine blk_put (cs := #[.bool true, .slice none 0 0, .slice none 0 0]) ?_ 2 _ rfl; (with_reducible repeat (first | refine blk_drewN ?_ _ | refine blk_drew ?_ | refine blk_alloc ?_ _)); refine blk_put (cs := #[.bool true, .slice none 0 0, .slice none 0 0]) ?_ 1 _ rfl; (with_reducible repeat (first | refine blk_drewN ?_ _ | refine blk_drew ?_ | refine blk_alloc ?_ _)); refine blk_put (cs := #[.bool false, .slice none 0 0, .slice none 0 0]) ?_ 0 _ rfl; (with_reducible repeat (first | refine blk_drewN ?_ _ | refine blk_drew ?_ | refine blk_alloc ?_ _)); exact BK462.out⟩, ⟨by repeat (first | (with_reducible first | exact HI0.out | apply IsS65.alloc | apply IsS65.drewN | apply IsS65.drew | apply IsS65.set_1 | apply IsS65.set_2 | refine IsS65.far ?_ NB0_366.out _ | refine IsS65.far ?_ NB0_462.out _) | exact HI0.out)⟩, ⟨by repeat (first | (with_reducible first | exact HK.out | apply KeepBut.set_ | apply keep_drewN | apply keep_drew | apply keep_alloc | refine keep_far ?_ GW366.out _ | refine keep_far ?_ GW462.out _) | exact HK.out)⟩, ⟨by repeat (first | (with_reducible first | exact HB.out | apply below_alloc | apply pw_below_drewN | apply below_drew1 | refine below_set ?_ (IsS65.ge HI0.out) | refine below_set ?_ GE366.out | refine below_set ?_ GE462.out) | exact HB.out)⟩⟩
                            case round =>
                              clear H'
                              try clear c1
                              try clear c2
                              try clear p2
                              try clear c3
                              try clear p3
                              try clear q3
                              try clear hx3
                              try clear c4
                              try clear p4
                              try clear q4
                              try clear hx4
                              try clear c5
                              try clear c5b0
                              try clear c6
                              try clear p6
                              try clear c7
                              try clear c8
                              try clear c9
                              try clear c10
                              try clear c11
                              try clear c12
                              try clear c15
                              try clear c15b0
                              try clear c17
                              try clear c20
                              try clear c24
                              try clear c24b0
                              try clear c25
                              try clear c25b0
                              try clear c26
                              try clear c26b0
                              try clear c29
                              try clear c31
                              try clear c35
                              try clear c35b0
                              try clear c37
                              try clear c37b0
                              try clear c38
                              try clear c38b0
                              try clear p38
                              try clear q38
                              try clear hx38
                              try clear p40
                              try clear q40
                              try clear hx40
                              try clear c41
                              try clear p44
                              try clear q44
                              try clear hx44
                              try clear c45
                              try clear c45b0
                              try clear c46
                              try clear c46b0
                              try clear c47
                              try clear c47b0
                              try clear c49
                              try clear c49b0
                              try clear c50
                              try clear c50b0
                              try clear c53
                              try clear c53b0
                              try clear c54
                              try clear c54b0
                              try clear c55
                              try clear c55b0
                              try clear c55b1
                              try clear c59
                              try clear c63
                              try clear c63b0
                              try clear p64
                              try clear c67
                              try clear c71
                              try clear c71b0
                              try clear c75
                              try clear c80
                              try clear c80b0
                              try clear c83
                              try clear c87
                              try clear c87b0
                              try clear c87b1
                              try clear c88
                              try clear c88b0
                              try clear c88b1
                              try clear c89
                              try clear c89b0
                              try clear c90
                              try clear c90b0
                              try clear c91
                              try clear c91b0
                              try clear c95
                              try clear c99
                              try clear c99b0
                              try clear c100
                              try clear c100b0
                              try clear c100b1
                              try clear c101
                              try clear c101b0
                              try clear c101b1
                              try clear c102
                              try clear c107
                              try clear c109
                              try clear c109b0
                              try clear c109b1
                              try clear c110
                              try clear c110b0
                              try clear c110b1
                              try clear c111
                              try clear c111b0
                              try clear c111b1
                              try clear c112
                              try clear c117
                              try clear c120
                              try clear c121
                              try clear hcz103_0
                              try clear hcz103_1
                              try clear hcz103_2
                              try clear hcz108_0
                              try clear hcz108_1
                              try clear hcz108_2
                              try clear hcz10_0
                              try clear hcz10_1
                              try clear hcz10_2
                              try clear hcz113_0
                              try clear hcz113_1
                              try clear hcz113_2
                              try clear hcz118_0
                              try clear hcz118_1
                              try clear hcz118_2
                              try clear hcz122_0
                              try clear hcz122_1
                              try clear hcz122_2
                              try clear hcz16_0
                              try clear hcz16_1
                              try clear hcz16_2
                              try clear hcz21_0
                              try clear hcz21_1
                              try clear hcz21_2
                              try clear hcz27_0
                              try clear hcz27_1
                              try clear hcz27_2
                              try clear hcz32_0
                              try clear hcz32_1
                              try clear hcz32_2
                              try clear hcz34_0
                              try clear hcz34_1
                              try clear hcz34_2
                              try clear hcz42_0
                              try clear hcz42_1
                              try clear hcz42_2
                              try clear hcz51_0
                              try clear hcz51_1
                              try clear hcz51_2
                              try clear hcz57_0
                              try clear hcz57_1
                              try clear hcz57_2
                              try clear hcz60_0
                              try clear hcz60_1
                              try clear hcz60_2
                              try clear hcz65_0
                              try clear hcz65_1
                              try clear hcz65_2
                              try clear hcz68_0
                              try clear hcz68_1
                              try clear hcz68_2
                              try clear hcz73_0
                              try clear hcz73_1
                              try clear hcz73_2
                              try clear hcz76_0
                              try clear hcz76_1
                              try clear hcz76_2
                              try clear hcz79_0
                              try clear hcz79_1
                              try clear hcz79_2
                              try clear hcz84_0
                              try clear hcz84_1
                              try clear hcz84_2
                              try clear hcz93_0
                              try clear hcz93_1
                              try clear hcz93_2
                              try clear hcz96_0
                              try clear hcz96_1
                              try clear hcz96_2
                              try clear hfz103_1
                              try clear hfz103_2
                              try clear hfz108_0
                              try clear hfz108_1
                              try clear hfz108_2
                              try clear hfz10_0
                              try clear hfz10_1
                              try clear hfz10_2
                              try clear hfz113_1
                              try clear hfz113_2
                              try clear hfz118_0
                              try clear hfz118_1
                              try clear hfz118_2
                              try clear hfz122_0
                              try clear hfz122_1
                              try clear hfz122_2
                              try clear hfz16_1
                              try clear hfz16_2
                              try clear hfz21_0
                              try clear hfz21_1
                              try clear hfz21_2
                              try clear hfz27_1
                              try clear hfz27_2
                              try clear hfz32_0
                              try clear hfz32_1
                              try clear hfz32_2
                              try clear hfz34_1
                              try clear hfz34_2
                              try clear hfz42_0
                              try clear hfz42_1
                              try clear hfz42_2
                              try clear hfz51_1
                              try clear hfz51_2
                              try clear hfz57_1
                              try clear hfz57_2
                              try clear hfz60_0
                              try clear hfz60_1
                              try clear hfz60_2
                              try clear hfz65_1
                              try clear hfz65_2
                              try clear hfz68_0
                              try clear hfz68_1
                              try clear hfz68_2
                              try clear hfz73_1
                              try clear hfz73_2
                              try clear hfz76_0
                              try clear hfz76_1
                              try clear hfz76_2
                              try clear hfz79_1
                              try clear hfz79_2
                              try clear hfz84_0
                              try clear hfz84_1
                              try clear hfz84_2
                              try clear hfz93_1
                              try clear hfz93_2
                              try clear hfz96_0
                              try clear hfz96_1
                              try clear hfz96_2
                              try clear hx387_0
                              try clear hx401_0
                              try clear hx402_0
                              try clear hx443_0
                              try clear p2
                              try clear p3
                              try clear p38
                              try clear p387
                              try clear p4
                              try clear p40
                              try clear p401
                              try clear p402
                              try clear p443
                              try clear p6
                              try clear p64
                              try clear q3
                              try clear q38
                              try clear q387
                              try clear q4
                              try clear q40
                              try clear q401
                              try clear q402
                              try clear q443
                              obtain ⟨x13_4, x1001_4, x1002_4, x463002_4, u463002, rfl, HA, HK4, HO_463002, BK366, BK462, HI0, HK, HB⟩ := hrel
                              cases gk with
                              | zero => exact absurd HA.out (by simp [moraineref4_reader_item.l1])
                              | succ k4 =>
                                have H := HA.out
                                clear HA
                                simp only [moraineref4_reader_item.l1] at H
                                by_cases c123 : x13_4 < (wrap64 (x13_35 + x12_35))
                                · rw [if_pos c123] at H
                                  have c123b0 : decide (x13_4 < (wrap64 (x13_35 + x12_35))) = true := decide_eq_true c123
                                  clear c123
                                  by_cases c124 : x1002_4 = 0
                                  · rw [if_pos c124] at H
                                    have c124b0 : (x1002_4 == 0) = true := beq_iff_eq.mpr c124
                                    have c124b1 : (x1002_4 != 0) = false := bne_eq_false_iff_eq.mpr c124
                                    clear c124
                                    replace H := Option.bind_eq_some_iff.mp H
                                    obtain ⟨⟨t463, t464, t467, t470, t471, t472⟩, A1250, H⟩ := H
                                    replace H : (if x463002_4.length < 2513169434916 then (moraineref4_reader_item.l1 k4 a3 t470 (wrap64 (x13_35 + x12_35)) s0_0 t471 t472 true (x463002_4 ++ [(⟨t463, t464, t467⟩ : S25)])) else (none)) = some (r1, r2, r3, r4, r5, r6) := H
                                    have A125 := Aside0.mk A1250
                                    clear A1250
                                    by_cases c126 : x463002_4.length < 2513169434916
                                    · rw [if_pos c126] at H
                                      have LMc126 := Aside0.mk c126
                                      clear c126
                                      obtain ⟨y474, hy474⟩ : ∃ y_ : List (S25), y_ = (x463002_4 ++ [(⟨t463, t464, t467⟩ : S25)]) := ⟨_, rfl⟩
                                      replace H : (moraineref4_reader_item.l1 k4 a3 t470 (wrap64 (x13_35 + x12_35)) s0_0 t471 t472 true y474) = some (r1, r2, r3, r4, r5, r6) := by first | (rw [hy474]; with_reducible exact H) | (have H2_ := (Option.bind_some _ _).symm.trans H; rw [hy474]; with_reducible exact H2_) | (have H2_ := (Option.bind_some _ _).symm.trans H; with_reducible exact H2_) | with_reducible exact H | (rw [hy474]; exact H) | exact H
                                      have Ny474 := Aside0.mk hy474
                                      clear hy474
                                      have H' := Aside0.mk H
                                      clear H
                                      obtain ⟨ASz127_0, cSz127_0, HGz127, hgz127, ⟨HSz127_0, HCSz127_0⟩⟩ := HI0.out
                                      have hcz127_0 := cellS65_0 HGz127
                                      have hcz127_1 := cellS65_1 HGz127
                                      have hcz127_2 := cellS65_2 HGz127
                                      have hfz127_1 := blk_frozen HGz127 1
                                      have hfz127_2 := blk_frozen HGz127 2
                                      clear HGz127 hgz127
                                      go_wp2_with (first | ((with_reducible refine gate_callee (f := 29) rfl ?_); refine goesL_ (some 187) rfl rfl Try.func29 (by kernel_rfl) rfl #[.pointer (some ⟨g, 0, none⟩), .int .i64 x13_4, .int .i64 (wrap64 (x13_35 + x12_35)), .int .i64 (wrap64 (a3 + 1))] rfl zw6 ?_; (with_reducible refine (ih k4 (by have := HJ12.out; have := HJ32.out; have := HJ35.out; have := HK4.out; omega) g s0_0 x1001_4 x1002_4 x13_4 (wrap64 (x13_35 + x12_35)) (wrap64 (a3 + 1)) t463 t464 t467 t470 t471 t472 w0 _ ?side1 ?side2 A125.out).mono ?_); (case side1 => exact zw42 HI0.out NB0_366.out NB0_462.out); (case side2 => exact zw43 HB.out HI0.out GE366.out GE462.out); rintro e w128 ⟨v465, v468, rfl, ho0, ho1, hi, hb, hk⟩; refine ⟨_, rfl, ?_⟩; have n0_ := Aside0.mk (Kd.R_mono (Kd.R_told (Kd.R_told (Kd.R_oldK (IsS65.apart (show IsS65 w0 _ g s0_0 x1001_4 x1002_4 from by repeat (first | (with_reducible first | exact HI0.out | apply IsS65.alloc | apply IsS65.drewN | apply IsS65.drew | apply IsS65.set_1 | apply IsS65.set_2 | refine IsS65.far ?_ NB0_366.out _ | refine IsS65.far ?_ NB0_462.out _) | exact HI0.out)) (zw1 HO_463002.out) (by decide)) hk) (Kd.R_base ho0)) (Kd.R_base ho1)) (fun _ h_ => h_.1)); have n1_ := Aside0.mk (KeepBut.blk hk (g' := gb366) (o := .cells #[.bool x367000_35, .slice none 0 0, .slice none 0 0] 25 (0, 0)) (zw0 BK366.out) NB366_0.out (by simp)); have n2_ := Aside0.mk (KeepBut.blk hk (g' := gb462) (o := .cells #[.bool true, .slice none 0 0, u463002] 25 (0, 0)) (zw0 BK462.out) NB462_0.out (by simp)); have n3_ := Aside0.mk (Kd.R_lower ho0 (keep_size (w := w) (g := g) (row := none) (zw20 HK.out GW366.out GW462.out))); have n4_ := Aside0.mk (Kd.R_lower (Kd.R_newB (Kd.R_newB (Kd.R_new' ho1 (Kd.R_lt (zw1 HO_463002.out))) (g := gb366) (o := .cells #[.bool x367000_35, .slice none 0 0, .slice none 0 0] 25 (0, 0)) (zw0 BK366.out)) (g := gb462) (o := .cells #[.bool true, .slice none 0 0, u463002] 25 (0, 0)) (zw0 BK462.out)) (keep_size (w := w) (g := g) (row := none) (zw20 HK.out GW366.out GW462.out))); have n5_ := Aside0.mk (KeepBut.trans (zw20 HK.out GW366.out GW462.out) hk (.inl rfl)); have n6_ := Aside0.mk (hb); have n7_ := Aside0.mk (hi); clear HO_463002; clear BK366; clear BK462; clear HK; clear HB; clear HI0; have HO_463002 := n0_; have BK366 := n1_; have BK462 := n2_; have HO466 := n3_; have HO469 := n4_; have HK := n5_; have HB := n6_; have HI0 := n7_; clear n0_ n1_ n2_ n3_ n4_ n5_ n6_ n7_; (try clear hb); (try clear hb2); (try clear hk); (try clear hi); (try clear ho0); (try clear ho1)) | ((with_reducible refine gate_dst (N := 18) rfl ?_); refine box_event ?hg (N := 18) ?hd (cs := #[.bool false, .slice none 0 0, .slice none 0 0]) (t := 25) ?hr ?_; (case hd => rfl); (case hg => rfl); (case hr => first | (go_simp; done) | (go_simp; rfl)); intro gb473 hg w129 hbox hb; have n0_ := Aside0.mk (Kd.R_below (Kd.R_elderB (zw1 HO_463002.out) gb473 (Nat.le_of_eq hg.symm)) hb); have n1_ := Aside0.mk (Kd.R_below (zw1 HO466.out) hb); have n2_ := Aside0.mk (Kd.R_below (Kd.R_elderB (zw1 HO469.out) gb473 (Nat.le_of_eq hg.symm)) hb); have n3_ := Aside0.mk (blk_below (g := gb366) (o := .cells #[.bool x367000_35, .slice none 0 0, .slice none 0 0] 25 (0, 0)) (zw0 BK366.out) hb); have n4_ := Aside0.mk (blk_below (g := gb462) (o := .cells #[.bool true, .slice none 0 0, u463002] 25 (0, 0)) (zw0 BK462.out) hb); have n5_ := Aside0.mk (IsS65.below (zw42 HI0.out NB0_366.out NB0_462.out) hb); have n6_ := Aside0.mk (KeepBut.trans (zw20 HK.out GW366.out GW462.out) (KeepBut.of_below hb g none) (.inl rfl)); have n7_ := Aside0.mk (below_step (zw43 HB.out HI0.out GE366.out GE462.out) hb); have n8_ := Aside0.mk (hbox); have n9_ := Aside0.mk ((by rw [hg]; exact (keep_size (w := w) (g := g) (row := none) (zw20 HK.out GW366.out GW462.out)) : w.heap.size ≤ gb473)); have n10_ := Aside0.mk ((Nat.le_trans HW0.out (by rw [hg]; exact (keep_size (w := w) (g := g) (row := none) (zw20 HK.out GW366.out GW462.out)) : w.heap.size ≤ gb473) : w0.heap.size ≤ gb473)); have n11_ := Aside0.mk ((by rw [hg]; exact Nat.ne_of_lt (blk_lt (g := gb366) (o := .cells #[.bool x367000_35, .slice none 0 0, .slice none 0 0] 25 (0, 0)) (zw0 BK366.out)) : gb366 ≠ gb473)); have n12_ := Aside0.mk ((by rw [hg]; exact Nat.ne_of_gt (blk_lt (g := gb366) (o := .cells #[.bool x367000_35, .slice none 0 0, .slice none 0 0] 25 (0, 0)) (zw0 BK366.out)) : gb473 ≠ gb366)); have n13_ := Aside0.mk ((by rw [hg]; exact Nat.ne_of_lt (blk_lt (g := gb462) (o := .cells #[.bool true, .slice none 0 0, u463002] 25 (0, 0)) (zw0 BK462.out)) : gb462 ≠ gb473)); have n14_ := Aside0.mk ((by rw [hg]; exact Nat.ne_of_gt (blk_lt (g := gb462) (o := .cells #[.bool true, .slice none 0 0, u463002] 25 (0, 0)) (zw0 BK462.out)) : gb473 ≠ gb462)); have n15_ := Aside0.mk ((by rw [hg]; exact Nat.ne_of_lt (IsS65.lt (show IsS65 w0 _ g s0_0 t471 t472 from by repeat (first | (with_reducible first | exact HI0.out | apply IsS65.alloc | apply IsS65.drewN | apply IsS65.drew | apply IsS65.set_1 | apply IsS65.set_2 | refine IsS65.far ?_ NB0_366.out _ | refine IsS65.far ?_ NB0_462.out _) | exact HI0.out))) : g ≠ gb473)); have n16_ := Aside0.mk ((by rw [hg]; exact Nat.ne_of_gt (IsS65.lt (show IsS65 w0 _ g s0_0 t471 t472 from by repeat (first | (with_reducible first | exact HI0.out | apply IsS65.alloc | apply IsS65.drewN | apply IsS65.drew | apply IsS65.set_1 | apply IsS65.set_2 | refine IsS65.far ?_ NB0_366.out _ | refine IsS65.far ?_ NB0_462.out _) | exact HI0.out))) : gb473 ≠ g)); clear HO_463002; clear HO466; clear HO469; clear BK366; clear BK462; clear HI0; clear HK; clear HB; have HO_463002 := n0_; have HO466 := n1_; have HO469 := n2_; have BK366 := n3_; have BK462 := n4_; have HI0 := n5_; have HK := n6_; have HB := n7_; have BK473 := n8_; have GW473 := n9_; have GE473 := n10_; have NB366_473 := n11_; have NB473_366 := n12_; have NB462_473 := n13_; have NB473_462 := n14_; have NB0_473 := n15_; have NB473_0 := n16_; clear n0_ n1_ n2_ n3_ n4_ n5_ n6_ n7_ n8_ n9_ n10_ n11_ n12_ n13_ n14_ n15_ n16_; clear hb hbox hg; have hnb130 := NB473_366.out; have hnc130 := NB366_473.out; have hnb131 := NB473_462.out; have hnc131 := NB462_473.out; have hnb132 := NB473_0.out; have hnc132 := NB0_473.out; have hcz133_0 : w129.cell? ⟨gb473, 0, none⟩ = some (.bool false) := (blk_cell BK473.out 0).trans rfl; have hcz133_1 : w129.cell? ⟨gb473, 1, none⟩ = some (.slice none 0 0) := (blk_cell BK473.out 1).trans rfl; have hcz133_2 : w129.cell? ⟨gb473, 2, none⟩ = some (.slice none 0 0) := (blk_cell BK473.out 2).trans rfl; have hfz133_0 := blk_frozen BK473.out 0; have hfz133_1 := blk_frozen BK473.out 1; have hfz133_2 := blk_frozen BK473.out 2; obtain ⟨Ao134, co134, eo134⟩ := Kd.R_slice HO466.out; subst eo134; obtain ⟨Ao135, co135, eo135⟩ := Kd.R_slice HO469.out; subst eo135) | ((with_reducible refine gate_store (t := 25) (p := 18) rfl ?_); refine store_event (t := 25) (p := 18) (v := ?vo_w136) (w1 := (((w129.setCell ⟨gb473, 0, none⟩ (.bool t463)).setCell ⟨gb473, 1, none⟩ (.slice Ao134 t464.length co134)).setCell ⟨gb473, 2, none⟩ (.slice Ao135 t467.length co135))) ?hg ?ho ?hn ?hr ?_; (case ho => rfl); (case hg => rfl); (case hn => rfl); (case hr => first | (go_simp; done) | (go_simp; rfl)); intro w136 hw; have n0_ : Aside0 (Kd.R k25 25 w136 w.heap.size (fun k_ => some k_ ≠ (.slice Ao134 t464.length co134 : Value).ownBlock ∧ some k_ ≠ (.slice Ao135 t467.length co135 : Value).ownBlock ∧ k_ ≠ gb366 ∧ k_ ≠ gb462 ∧ k_ ≠ gb473) u463002 x463002_4) := ⟨(by rw [hw]; exact (by (with_reducible repeat (first | apply Kd.R_alloc | apply Kd.R_drewN | apply Kd.R_drew)); exact Kd.R_mono (Kd.R_far (p := ⟨gb473, 2, none⟩) (Kd.R_far (p := ⟨gb473, 1, none⟩) (Kd.R_far (p := ⟨gb473, 0, none⟩) (Kd.R_mono HO_463002.out (fun k_ hk => (⟨hk, hk.2⟩ : _ ∧ k_ ≠ gb473))) (fun _ hk => hk.2) (.bool t463)) (fun _ hk => hk.2) (.slice Ao134 t464.length co134)) (fun _ hk => hk.2) (.slice Ao135 t467.length co135)) (fun _ hk => ⟨hk.1.1.1.2, ⟨hk.1.1.2, ⟨hk.1.1.1.1.1, ⟨hk.1.1.1.1.2, hk.1.2⟩⟩⟩⟩)))⟩; have n1_ : Aside0 (Kd.R (Kd.int .u8) 5 w136 w.heap.size (fun _ => True) (.slice Ao134 t464.length co134) t464) := ⟨(by rw [hw]; exact (by (with_reducible repeat (first | apply Kd.R_alloc | apply Kd.R_drewN | apply Kd.R_drew)); exact Kd.R_mono (Kd.R_far (p := ⟨gb473, 2, none⟩) (Kd.R_far (p := ⟨gb473, 1, none⟩) (Kd.R_far (p := ⟨gb473, 0, none⟩) (Kd.R_types HO466.out BK473.out (by decide)) (fun _ hk => hk.2) (.bool t463)) (fun _ hk => hk.2) (.slice Ao134 t464.length co134)) (fun _ hk => hk.2) (.slice Ao135 t467.length co135)) (fun _ hk => trivial)))⟩; have n2_ : Aside0 (Kd.R k25 25 w136 w.heap.size (fun k_ => some k_ ≠ (u463002 : Value).ownBlock ∧ some k_ ≠ (.slice Ao134 t464.length co134 : Value).ownBlock ∧ k_ ≠ gb366 ∧ k_ ≠ gb462 ∧ k_ ≠ gb473) (.slice Ao135 t467.length co135) t467) := ⟨(by rw [hw]; exact (by (with_reducible repeat (first | apply Kd.R_alloc | apply Kd.R_drewN | apply Kd.R_drew)); exact Kd.R_mono (Kd.R_far (p := ⟨gb473, 2, none⟩) (Kd.R_far (p := ⟨gb473, 1, none⟩) (Kd.R_far (p := ⟨gb473, 0, none⟩) (Kd.R_mono HO469.out (fun k_ hk => (⟨hk, hk.2⟩ : _ ∧ k_ ≠ gb473))) (fun _ hk => hk.2) (.bool t463)) (fun _ hk => hk.2) (.slice Ao134 t464.length co134)) (fun _ hk => hk.2) (.slice Ao135 t467.length co135)) (fun _ hk => ⟨hk.1.1.1.1.2, ⟨hk.1.1.1.1.1, ⟨hk.1.1.1.2, ⟨hk.1.1.2, hk.1.2⟩⟩⟩⟩)))⟩; have n3_ : Aside0 (w136.heap[gb366]? = some (.cells #[.bool x367000_35, .slice none 0 0, .slice none 0 0] 25 (0, 0))) := ⟨(by rw [hw]; exact (zw11 NB366_473.out BK366.out))⟩; have n4_ : Aside0 (w136.heap[gb462]? = some (.cells #[.bool true, .slice none 0 0, u463002] 25 (0, 0))) := ⟨(by rw [hw]; exact (zw11 NB462_473.out BK462.out))⟩; have n5_ : Aside0 (w136.heap[gb473]? = some (.cells #[.bool t463, .slice Ao134 t464.length co134, .slice Ao135 t467.length co135] 25 (0, 0))) := ⟨(by rw [hw]; exact (by (with_reducible repeat (first | refine blk_drewN ?_ _ | refine blk_drew ?_ | refine blk_alloc ?_ _)); refine blk_put (cs := #[.bool t463, .slice Ao134 t464.length co134, .slice none 0 0]) ?_ 2 _ rfl; (with_reducible repeat (first | refine blk_drewN ?_ _ | refine blk_drew ?_ | refine blk_alloc ?_ _)); refine blk_put (cs := #[.bool t463, .slice none 0 0, .slice none 0 0]) ?_ 1 _ rfl; (with_reducible repeat (first | refine blk_drewN ?_ _ | refine blk_drew ?_ | refine blk_alloc ?_ _)); refine blk_put (cs := #[.bool false, .slice none 0 0, .slice none 0 0]) ?_ 0 _ rfl; (with_reducible repeat (first | refine blk_drewN ?_ _ | refine blk_drew ?_ | refine blk_alloc ?_ _)); exact BK473.out))⟩; have n6_ : Aside0 (IsS65 w0 w136 g s0_0 t471 t472) := ⟨(by rw [hw]; exact (zw44 HI0.out NB0_366.out NB0_462.out NB0_473.out))⟩; have n7_ : Aside0 (KeepBut w w136 g none) := ⟨(by rw [hw]; exact (zw22 HK.out GW366.out GW462.out GW473.out))⟩; have n8_ : Aside0 (Below w0.heap.size w0 w136) := ⟨(by rw [hw]; exact (zw45 HB.out HI0.out GE366.out GE462.out GE473.out))⟩; clear hw; clear HO_463002; clear HO466; clear HO469; clear BK366; clear BK462; clear BK473; clear HI0; clear HK; clear HB; have HO_463002 := n0_; have HO466 := n1_; have HO469 := n2_; have BK366 := n3_; have BK462 := n4_; have BK473 := n5_; have HI0 := n6_; have HK := n7_; have HB := n8_; clear n0_ n1_ n2_ n3_ n4_ n5_ n6_ n7_ n8_; have hnb137 := NB462_366.out; have hnc137 := NB366_462.out; have hnb138 := NB462_0.out; have hnc138 := NB0_462.out; have hcz139_0 : w136.cell? ⟨gb462, 0, none⟩ = some (.bool true) := (blk_cell BK462.out 0).trans rfl; have hcz139_1 : w136.cell? ⟨gb462, 1, none⟩ = some (.slice none 0 0) := (blk_cell BK462.out 1).trans rfl; have hcz139_2 : w136.cell? ⟨gb462, 2, none⟩ = some (u463002) := (blk_cell BK462.out 2).trans rfl; have hfz139_0 := blk_frozen BK462.out 0; have hfz139_1 := blk_frozen BK462.out 1; have hfz139_2 := blk_frozen BK462.out 2; have hcz140_0 : w136.cell? ⟨gb473, 0, none⟩ = some (.bool t463) := (blk_cell BK473.out 0).trans rfl; have hcz140_1 : w136.cell? ⟨gb473, 1, none⟩ = some (.slice Ao134 t464.length co134) := (blk_cell BK473.out 1).trans rfl; have hcz140_2 : w136.cell? ⟨gb473, 2, none⟩ = some (.slice Ao135 t467.length co135) := (blk_cell BK473.out 2).trans rfl; have hfz140_0 := blk_frozen BK473.out 0; have hfz140_1 := blk_frozen BK473.out 1; have hfz140_2 := blk_frozen BK473.out 2) | ((with_reducible refine gate_builtin (b := .append) (xs := #[.tmp 191, .tmp 193]) rfl ?_); at_builtin; refine Kd.R_append k25 w.heap.size rfl (.tmp 191) (.tmp 193) 23 25 (.agg #[(.bool false), (.slice none 0 0), (.slice none 0 0)]) 56 rfl Try.underlying23 info25 rfl (by decide) (by omega) u463002 x463002_4 (⟨t463, t464, t467⟩ : S25) [.bool t463, .slice Ao134 t464.length co134, .slice Ao135 t467.length co135] (fun k_ => k_ ≠ gb366 ∧ k_ ≠ gb462 ∧ k_ ≠ gb473) (fun k_ => ((fun k_ => k_ ≠ gb366 ∧ k_ ≠ gb462 ∧ k_ ≠ gb473)) k_ ∧ some k_ ≠ (u463002 : Value).ownBlock) rfl rfl ?aP (fun _ hk => hk) ?aF ?aO (Below.refl _ _) ?aS ?aL ?_; (case aP => exact k25_mkM _ _ _ (⟨t463, t464, t467⟩ : S25) (Kd.R_mono (Kd.R_types (Kd.R_types (Kd.R_types (Kd.R_apart' (HO466.out) (Kd.R_typed HO_463002.out) (by decide)) BK366.out (by decide)) BK462.out (by decide)) BK473.out (by decide)) (fun k_ hk => ⟨⟨hk.1.1.2, ⟨hk.1.2, hk.2⟩⟩, hk.1.1.1.2⟩)) (Kd.R_mono (HO469.out) (fun k_ hk => ⟨⟨hk.2.2.1, ⟨hk.2.2.2.1, hk.2.2.2.2⟩⟩, hk.1⟩))); (case aF => exact (fun k_ hk => ⟨Kd.freshB (g := gb366) (o := .cells #[.bool x367000_35, .slice none 0 0, .slice none 0 0] 25 (0, 0)) (zw0 BK366.out) k_ hk, Kd.freshB (g := gb462) (o := .cells #[.bool true, .slice none 0 0, u463002] 25 (0, 0)) (zw0 BK462.out) k_ hk, Kd.freshB (g := gb473) (o := .cells #[.bool t463, .slice Ao134 t464.length co134, .slice Ao135 t467.length co135] 25 (0, 0)) (zw0 BK473.out) k_ hk⟩)); (case aO => exact (by (with_reducible repeat (first | apply Kd.R_alloc | apply Kd.R_drewN | apply Kd.R_drew)); exact Kd.R_mono HO_463002.out (fun _ hk => ⟨hk.2.2.1, ⟨hk.2.2.2.1, hk.2.2.2.2⟩⟩))); (case aS => exact (keep_size (w := w) (g := g) (row := none) (zw22 HK.out GW366.out GW462.out GW473.out))); (case aL => have := LMc126.out; omega); intro v475 w141 ho hb hg hat; rw [← Ny474.out] at ho; have n0_ := Aside0.mk (blk_grown (g := gb366) (o := .cells #[.bool x367000_35, .slice none 0 0, .slice none 0 0] 25 (0, 0)) (zw0 BK366.out) hg (Kd.R_away HO_463002.out (fun _ hk => hk.2.2.1))); have n1_ := Aside0.mk (blk_grown (g := gb462) (o := .cells #[.bool true, .slice none 0 0, u463002] 25 (0, 0)) (zw0 BK462.out) hg (Kd.R_away HO_463002.out (fun _ hk => hk.2.2.2.1))); have n2_ := Aside0.mk (IsS65.grown (zw44 HI0.out NB0_366.out NB0_462.out NB0_473.out) hg (IsS65.own_ne HI0.out HO_463002.out (by decide))); have n3_ := Aside0.mk (blk_grown (g := gb473) (o := .cells #[.bool t463, .slice Ao134 t464.length co134, .slice Ao135 t467.length co135] 25 (0, 0)) (zw0 BK473.out) hg (Kd.R_away HO_463002.out (fun _ hk => hk.2.2.2.2))); have n4_ := Aside0.mk (below_weaken (zw45 HB.out HI0.out GE366.out GE462.out GE473.out) HL.out hb); have n5_ := Aside0.mk (KeepBut.trans (zw22 HK.out GW366.out GW462.out GW473.out) (KeepBut.of_grown hg g) (Kd.R_base2 HO_463002.out)); have n6_ := Aside0.mk (ho); clear BK366; clear BK462; clear HI0; clear BK473; clear HB; clear HK; clear HO_463002; clear HO466; clear HO469; have BK366 := n0_; have BK462 := n1_; have HI0 := n2_; have BK473 := n3_; have HB := n4_; have HK := n5_; have HO476 := n6_; clear n0_ n1_ n2_ n3_ n4_ n5_ n6_; clear ho hb hg hat; obtain ⟨Ao142, co142, eo142⟩ := Kd.R_slice HO476.out; subst eo142; have hcz143_0 : w141.cell? ⟨gb462, 0, none⟩ = some (.bool true) := (blk_cell BK462.out 0).trans rfl; have hcz143_1 : w141.cell? ⟨gb462, 1, none⟩ = some (.slice none 0 0) := (blk_cell BK462.out 1).trans rfl; have hcz143_2 : w141.cell? ⟨gb462, 2, none⟩ = some (u463002) := (blk_cell BK462.out 2).trans rfl; have hfz143_0 := blk_frozen BK462.out 0; have hfz143_1 := blk_frozen BK462.out 1; have hfz143_2 := blk_frozen BK462.out 2))
                                      go_roundg k4
                                      case measure => have := HJ12.out; have := HJ32.out; have := HJ35.out; have := HK4.out; omega
                                      case rel => exact ⟨(t470), (t471), (t472), (y474), (.slice Ao142 y474.length co142), zw7, H', ⟨by have := HJ12.out; have := HJ32.out; have := HJ35.out; have := HK4.out; omega⟩, ⟨by (with_reducible repeat (first | apply Kd.R_alloc | apply Kd.R_drewN | apply Kd.R_drew)); exact Kd.R_mono (Kd.R_far (p := ⟨gb462, 2, none⟩) (Kd.R_mono HO476.out (fun k_ hk => (⟨hk, hk.2.1⟩ : _ ∧ k_ ≠ gb462))) (fun _ hk => hk.2) (.slice Ao142 y474.length co142)) (fun _ hk => ⟨hk.1.1, hk.1.2.1⟩)⟩, ⟨by (with_reducible repeat (first | refine blk_drewN ?_ _ | refine blk_drew ?_ | refine blk_alloc ?_ _)); refine blk_far ?_ NB366_462.out _; (with_reducible repeat (first | refine blk_drewN ?_ _ | refine blk_drew ?_ | refine blk_alloc ?_ _)); exact BK366.out⟩, ⟨by (with_reducible repeat (first | refine blk_drewN ?_ _ | refine blk_drew ?_ | refine blk_alloc ?_ _)); refine blk_put (cs := #[.bool true, .slice none 0 0, u463002]) ?_ 2 _ rfl; (with_reducible repeat (first | refine blk_drewN ?_ _ | refine blk_drew ?_ | refine blk_alloc ?_ _)); exact BK462.out⟩, ⟨by repeat (first | (with_reducible first | exact HI0.out | apply IsS65.alloc | apply IsS65.drewN | apply IsS65.drew | apply IsS65.set_1 | apply IsS65.set_2 | refine IsS65.far ?_ NB0_366.out _ | refine IsS65.far ?_ NB0_462.out _ | refine IsS65.far ?_ NB0_473.out _) | exact HI0.out)⟩, ⟨by repeat (first | (with_reducible first | exact HK.out | apply KeepBut.set_ | apply keep_drewN | apply keep_drew | apply keep_alloc | refine keep_far ?_ GW366.out _ | refine keep_far ?_ GW462.out _ | refine keep_far ?_ GW473.out _) | exact HK.out)⟩, ⟨by repeat (first | (with_reducible first | exact HB.out | apply below_alloc | apply pw_below_drewN | apply below_drew1 | refine below_set ?_ (IsS65.ge HI0.out) | refine below_set ?_ GE366.out | refine below_set ?_ GE462.out | refine below_set ?_ GE473.out) | exact HB.out)⟩⟩
                                    · rw [if_neg c126] at H
                                      exact absurd H (by simp)
                                  · rw [if_neg c124] at H
                                    have c124b0 : (x1002_4 == 0) = false := beq_eq_false_iff_ne.mpr c124
                                    have c124b1 : (x1002_4 != 0) = true := bne_iff_ne.mpr c124
                                    simp only [Option.some.injEq, Prod.mk.injEq] at H
                                    obtain ⟨rfl, rfl, rfl, rfl, rfl, rfl⟩ := H
                                    obtain ⟨ASz144_0, cSz144_0, HGz144, hgz144, ⟨HSz144_0, HCSz144_0⟩⟩ := HI0.out
                                    have hcz144_0 := cellS65_0 HGz144
                                    have hcz144_1 := cellS65_1 HGz144
                                    have hcz144_2 := cellS65_2 HGz144
                                    have hfz144_1 := blk_frozen HGz144 1
                                    have hfz144_2 := blk_frozen HGz144 2
                                    clear HGz144 hgz144
                                    have hnb145 := NB366_462.out
                                    have hnc145 := NB462_366.out
                                    have hnb146 := NB366_0.out
                                    have hnc146 := NB0_366.out
                                    have hcz147_0 : wr.cell? ⟨gb366, 0, none⟩ = some (.bool x367000_35) := (blk_cell BK366.out 0).trans rfl
                                    have hcz147_1 : wr.cell? ⟨gb366, 1, none⟩ = some (.slice none 0 0) := (blk_cell BK366.out 1).trans rfl
                                    have hcz147_2 : wr.cell? ⟨gb366, 2, none⟩ = some (.slice none 0 0) := (blk_cell BK366.out 2).trans rfl
                                    have hfz147_0 := blk_frozen BK366.out 0
                                    have hfz147_1 := blk_frozen BK366.out 1
                                    have hfz147_2 := blk_frozen BK366.out 2
                                    go_wp2
                                    refine bodyPost_ret (results_ct rfl _ _ gb366 25 #[.bool false, .slice none 0 0, .slice none 0 0] (0, 0) _ rfl (by (with_reducible repeat (first | refine blk_drewN ?_ _ | refine blk_drew ?_ | refine blk_alloc ?_ _)); refine blk_put (cs := #[.bool false, .slice none 0 0, .slice none 0 0]) ?_ 2 _ rfl; (with_reducible repeat (first | refine blk_drewN ?_ _ | refine blk_drew ?_ | refine blk_alloc ?_ _)); refine blk_put (cs := #[.bool false, .slice none 0 0, .slice none 0 0]) ?_ 1 _ rfl; (with_reducible repeat (first | refine blk_drewN ?_ _ | refine blk_drew ?_ | refine blk_alloc ?_ _)); refine blk_put (cs := #[.bool x367000_35, .slice none 0 0, .slice none 0 0]) ?_ 0 _ rfl; (with_reducible repeat (first | refine blk_drewN ?_ _ | refine blk_drew ?_ | refine blk_alloc ?_ _)); exact BK366.out) Try.underlying25 rfl (by kernel_rfl)) rfl ?_
                                    exact ⟨_, _, by first | rfl | (simp [errW_none, errW_some] <;> rfl) | (simp [*, errW_none, errW_some] <;> rfl), by first | exact Kd.R_nil _ _ _ _ _ | exact Kd.N_nil _ _ _ _ _ | exact Kd.V_nil _ _ _ _ _ | exact Kd.Q_nil _ _ _ _ _ | exact Kd.S_nil _ _ _ _ _, by first | exact Kd.R_nil _ _ _ _ _ | exact Kd.N_nil _ _ _ _ _ | exact Kd.V_nil _ _ _ _ _ | exact Kd.Q_nil _ _ _ _ _ | exact Kd.S_nil _ _ _ _ _, by repeat (first | (with_reducible first | exact HI0.out | apply IsS65.alloc | apply IsS65.drewN | apply IsS65.drew | apply IsS65.set_1 | apply IsS65.set_2 | refine IsS65.far ?_ NB0_366.out _ | refine IsS65.far ?_ NB0_462.out _) | exact HI0.out), by repeat (first | (with_reducible first | exact HB.out | apply below_alloc | apply pw_below_drewN | apply below_drew1 | refine below_set ?_ (IsS65.ge HI0.out) | refine below_set ?_ GE366.out | refine below_set ?_ GE462.out) | exact HB.out), by repeat (first | (with_reducible first | exact HK.out | apply KeepBut.set_ | apply keep_drewN | apply keep_drew | apply keep_alloc | refine keep_far ?_ GW366.out _ | refine keep_far ?_ GW462.out _) | exact HK.out)⟩
                                · rw [if_neg c123] at H
                                  have c123b0 : decide (x13_4 < (wrap64 (x13_35 + x12_35))) = false := decide_eq_false c123
                                  clear c123
                                  by_cases c148 : x1002_4 = 0
                                  · rw [if_pos c148] at H
                                    have c148b0 : (x1002_4 == 0) = true := beq_iff_eq.mpr c148
                                    have c148b1 : (x1002_4 != 0) = false := bne_eq_false_iff_eq.mpr c148
                                    clear c148
                                    simp only [Option.some.injEq, Prod.mk.injEq] at H
                                    obtain ⟨rfl, rfl, rfl, rfl, rfl, rfl⟩ := H
                                    obtain ⟨ASz149_0, cSz149_0, HGz149, hgz149, ⟨HSz149_0, HCSz149_0⟩⟩ := HI0.out
                                    have hcz149_0 := cellS65_0 HGz149
                                    have hcz149_1 := cellS65_1 HGz149
                                    have hcz149_2 := cellS65_2 HGz149
                                    have hfz149_1 := blk_frozen HGz149 1
                                    have hfz149_2 := blk_frozen HGz149 2
                                    clear HGz149 hgz149
                                    have hnb150 := NB462_366.out
                                    have hnc150 := NB366_462.out
                                    have hnb151 := NB462_0.out
                                    have hnc151 := NB0_462.out
                                    have hcz152_0 : wr.cell? ⟨gb462, 0, none⟩ = some (.bool true) := (blk_cell BK462.out 0).trans rfl
                                    have hcz152_1 : wr.cell? ⟨gb462, 1, none⟩ = some (.slice none 0 0) := (blk_cell BK462.out 1).trans rfl
                                    have hcz152_2 : wr.cell? ⟨gb462, 2, none⟩ = some (u463002) := (blk_cell BK462.out 2).trans rfl
                                    have hfz152_0 := blk_frozen BK462.out 0
                                    have hfz152_1 := blk_frozen BK462.out 1
                                    have hfz152_2 := blk_frozen BK462.out 2
                                    have hnb153 := NB366_0.out
                                    have hnc153 := NB0_366.out
                                    have hcz154_0 : wr.cell? ⟨gb366, 0, none⟩ = some (.bool x367000_35) := (blk_cell BK366.out 0).trans rfl
                                    have hcz154_1 : wr.cell? ⟨gb366, 1, none⟩ = some (.slice none 0 0) := (blk_cell BK366.out 1).trans rfl
                                    have hcz154_2 : wr.cell? ⟨gb366, 2, none⟩ = some (.slice none 0 0) := (blk_cell BK366.out 2).trans rfl
                                    have hfz154_0 := blk_frozen BK366.out 0
                                    have hfz154_1 := blk_frozen BK366.out 1
                                    have hfz154_2 := blk_frozen BK366.out 2
                                    obtain ⟨Ao155, co155, eo155⟩ := Kd.R_slice HO_463002.out
                                    subst eo155
                                    go_wp2
                                    refine bodyPost_ret (results_ct rfl _ _ gb366 25 #[.bool true, .slice none 0 0, .slice Ao155 x463002_4.length co155] (0, 0) _ rfl (by (with_reducible repeat (first | refine blk_drewN ?_ _ | refine blk_drew ?_ | refine blk_alloc ?_ _)); refine blk_put (cs := #[.bool true, .slice none 0 0, .slice none 0 0]) ?_ 2 _ rfl; (with_reducible repeat (first | refine blk_drewN ?_ _ | refine blk_drew ?_ | refine blk_alloc ?_ _)); refine blk_put (cs := #[.bool true, .slice none 0 0, .slice none 0 0]) ?_ 1 _ rfl; (with_reducible repeat (first | refine blk_drewN ?_ _ | refine blk_drew ?_ | refine blk_alloc ?_ _)); refine blk_put (cs := #[.bool x367000_35, .slice none 0 0, .slice none 0 0]) ?_ 0 _ rfl; (with_reducible repeat (first | refine blk_drewN ?_ _ | refine blk_drew ?_ | refine blk_alloc ?_ _)); exact BK366.out) Try.underlying25 rfl (by kernel_rfl)) rfl ?_
                                    exact ⟨_, _, by first | rfl | (simp [errW_none, errW_some] <;> rfl) | (simp [*, errW_none, errW_some] <;> rfl), by first | exact Kd.R_nil _ _ _ _ _ | exact Kd.N_nil _ _ _ _ _ | exact Kd.V_nil _ _ _ _ _ | exact Kd.Q_nil _ _ _ _ _ | exact Kd.S_nil _ _ _ _ _, by (with_reducible repeat (first | apply Kd.R_alloc | apply Kd.R_drewN | apply Kd.R_drew)); exact Kd.R_mono (Kd.R_far (p := ⟨gb366, 2, none⟩) (Kd.R_far (p := ⟨gb366, 1, none⟩) (Kd.R_far (p := ⟨gb366, 0, none⟩) (Kd.R_mono HO_463002.out (fun k_ hk => (⟨hk, hk.1⟩ : _ ∧ k_ ≠ gb366))) (fun _ hk => hk.2) (.bool true)) (fun _ hk => hk.2) (.slice none 0 0)) (fun _ hk => hk.2) (.slice Ao155 x463002_4.length co155)) (fun _ hk => (by simp [Value.ownBlock])), by repeat (first | (with_reducible first | exact HI0.out | apply IsS65.alloc | apply IsS65.drewN | apply IsS65.drew | apply IsS65.set_1 | apply IsS65.set_2 | refine IsS65.far ?_ NB0_366.out _ | refine IsS65.far ?_ NB0_462.out _) | exact HI0.out), by repeat (first | (with_reducible first | exact HB.out | apply below_alloc | apply pw_below_drewN | apply below_drew1 | refine below_set ?_ (IsS65.ge HI0.out) | refine below_set ?_ GE366.out | refine below_set ?_ GE462.out) | exact HB.out), by repeat (first | (with_reducible first | exact HK.out | apply KeepBut.set_ | apply keep_drewN | apply keep_drew | apply keep_alloc | refine keep_far ?_ GW366.out _ | refine keep_far ?_ GW462.out _) | exact HK.out)⟩
                                  · rw [if_neg c148] at H
                                    have c148b0 : (x1002_4 == 0) = false := beq_eq_false_iff_ne.mpr c148
                                    have c148b1 : (x1002_4 != 0) = true := bne_iff_ne.mpr c148
                                    simp only [Option.some.injEq, Prod.mk.injEq] at H
                                    obtain ⟨rfl, rfl, rfl, rfl, rfl, rfl⟩ := H
                                    obtain ⟨ASz156_0, cSz156_0, HGz156, hgz156, ⟨HSz156_0, HCSz156_0⟩⟩ := HI0.out
                                    have hcz156_0 := cellS65_0 HGz156
                                    have hcz156_1 := cellS65_1 HGz156
                                    have hcz156_2 := cellS65_2 HGz156
                                    have hfz156_1 := blk_frozen HGz156 1
                                    have hfz156_2 := blk_frozen HGz156 2
                                    clear HGz156 hgz156
                                    have hnb157 := NB366_462.out
                                    have hnc157 := NB462_366.out
                                    have hnb158 := NB366_0.out
                                    have hnc158 := NB0_366.out
                                    have hcz159_0 : wr.cell? ⟨gb366, 0, none⟩ = some (.bool x367000_35) := (blk_cell BK366.out 0).trans rfl
                                    have hcz159_1 : wr.cell? ⟨gb366, 1, none⟩ = some (.slice none 0 0) := (blk_cell BK366.out 1).trans rfl
                                    have hcz159_2 : wr.cell? ⟨gb366, 2, none⟩ = some (.slice none 0 0) := (blk_cell BK366.out 2).trans rfl
                                    have hfz159_0 := blk_frozen BK366.out 0
                                    have hfz159_1 := blk_frozen BK366.out 1
                                    have hfz159_2 := blk_frozen BK366.out 2
                                    go_wp2
                                    refine bodyPost_ret (results_ct rfl _ _ gb366 25 #[.bool false, .slice none 0 0, .slice none 0 0] (0, 0) _ rfl (by (with_reducible repeat (first | refine blk_drewN ?_ _ | refine blk_drew ?_ | refine blk_alloc ?_ _)); refine blk_put (cs := #[.bool false, .slice none 0 0, .slice none 0 0]) ?_ 2 _ rfl; (with_reducible repeat (first | refine blk_drewN ?_ _ | refine blk_drew ?_ | refine blk_alloc ?_ _)); refine blk_put (cs := #[.bool false, .slice none 0 0, .slice none 0 0]) ?_ 1 _ rfl; (with_reducible repeat (first | refine blk_drewN ?_ _ | refine blk_drew ?_ | refine blk_alloc ?_ _)); refine blk_put (cs := #[.bool x367000_35, .slice none 0 0, .slice none 0 0]) ?_ 0 _ rfl; (with_reducible repeat (first | refine blk_drewN ?_ _ | refine blk_drew ?_ | refine blk_alloc ?_ _)); exact BK366.out) Try.underlying25 rfl (by kernel_rfl)) rfl ?_
                                    exact ⟨_, _, by first | rfl | (simp [errW_none, errW_some] <;> rfl) | (simp [*, errW_none, errW_some] <;> rfl), by first | exact Kd.R_nil _ _ _ _ _ | exact Kd.N_nil _ _ _ _ _ | exact Kd.V_nil _ _ _ _ _ | exact Kd.Q_nil _ _ _ _ _ | exact Kd.S_nil _ _ _ _ _, by first | exact Kd.R_nil _ _ _ _ _ | exact Kd.N_nil _ _ _ _ _ | exact Kd.V_nil _ _ _ _ _ | exact Kd.Q_nil _ _ _ _ _ | exact Kd.S_nil _ _ _ _ _, by repeat (first | (with_reducible first | exact HI0.out | apply IsS65.alloc | apply IsS65.drewN | apply IsS65.drew | apply IsS65.set_1 | apply IsS65.set_2 | refine IsS65.far ?_ NB0_366.out _ | refine IsS65.far ?_ NB0_462.out _) | exact HI0.out), by repeat (first | (with_reducible first | exact HB.out | apply below_alloc | apply pw_below_drewN | apply below_drew1 | refine below_set ?_ (IsS65.ge HI0.out) | refine below_set ?_ GE366.out | refine below_set ?_ GE462.out) | exact HB.out), by repeat (first | (with_reducible first | exact HK.out | apply KeepBut.set_ | apply keep_drewN | apply keep_drew | apply keep_alloc | refine keep_far ?_ GW366.out _ | refine keep_far ?_ GW462.out _) | exact HK.out)⟩
            · rw [if_neg c25] at H
              exact absurd H (by simp)
          · rw [if_neg c24] at H
            exact absurd H (by simp)

end Go.Proofs.Ytbobnopnfjcajaa.P
