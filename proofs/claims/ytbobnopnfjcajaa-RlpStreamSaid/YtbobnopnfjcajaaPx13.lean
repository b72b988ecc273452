-- Written by a program of this session out of the translation.
import Derived.Test.YtbobnopnfjcajaaPx0
import Derived.Test.YtbobnopnfjcajaaPz
import Derived.Test.YtbobnopnfjcajaaPx8
import Derived.Test.YtbobnopnfjcajaaPx12
namespace Go.Proofs.Ytbobnopnfjcajaa.P
open Go.RowKit Go.Proofs.YtbobnopnfjcajaaW.PrintWords Go.Proofs.YtbobnopnfjcajaaW.PrintLast Go.Proofs.YtbobnopnfjcajaaW.PrintMore
attribute [local go_sem] max2_int min2_int max_two min_two max_three min_three max_four min_four   -- for this text's walks alone
set_option linter.unusedVariables false
set_option linter.unusedSimpArgs false

/-! ### morainelaw4_known: function 9 -/
theorem lit_C (W : World) (xs : List Int) (e : Nat) (fr : Nat × Nat) (hl : xs.length ≤ 9223372036854775807) : Kd.C (Kd.int .u8) (W.alloc (.cells (xs.map (Value.int .u8)).toArray e fr)) (some ⟨W.heap.size, 0, none⟩) xs.length xs := by
  refine ⟨rfl, hl, fun _ => ⟨_, rfl, fun j p hj => ⟨[.int .u8 p], rfl, rfl, fun i u hu => ?_⟩⟩⟩
  have hi : i = 0 := by
    have := (List.getElem?_eq_some_iff.1 hu).1
    simp at this
    exact this
  subst hi
  simp at hu
  subst hu
  have hs : (Kd.int .u8).sz = 1 := rfl
  rw [hs, Nat.mul_one, Nat.add_zero, add_plain, cell_of_row _ _ _ _ _ _ (heap_alloc_new W _)]
  simp [hj]
def morainelaw4_known.f (k : Nat) : Option (Bool) := some true
theorem morainelaw4_known.mono : ∀ k, LeO (morainelaw4_known.f k) (morainelaw4_known.f (k + 1)) := fun _ => LeO.refl _
set_option maxHeartbeats 8000000 in
set_option maxRecDepth 100000 in
theorem morainelaw4_known.calls (k : Nat) (r : Bool) (w : World) (h : morainelaw4_known.f k = some r) :
    Calls Try.prog 9 #[] w fun e w' => e = .returned (.bool r) ∧ Below w.heap.size w w' := by
  have HB := Aside0.mk (Below.refl w.heap.size w)
  obtain rfl := Option.some.inj h
  clear h
  obtain ⟨t1, A1, c3⟩ : ∃ t, rlp_Encode.f 20 false [100, 111, 103] [] = some (t, 0) ∧ ((strOfNums t).toList == ([131, 100, 111, 103] : List UInt8)) = true := ⟨[131, 100, 111, 103], by decide +kernel, by decide +kernel⟩
  have A4 : rlp_Decode.f 20 [129, 5] = some (false, [], [], 40) := by kernel_rfl
  have A1 := Aside0.mk A1
  have A4 := Aside0.mk A4
  have kc := fun (w : World) (C : Array Value) (n c : Nat) => Lib.run_convert_bytes_const (P := Try.prog) w 22 5 C n c Try.underlying22 Try.underlying5
  have hu25 := Try.underlying25
  go_enter Try.func9, Try.ntmps9
  go_wp2_with (first | (go_at_call 11; (refine (rlp_Encode.calls 20 false _ _ [100, 111, 103] none 0 [] t1 0 _ ?side1 ?side2 ?side3 ?side4 A1.out).mono ?_); (case side1 => exact lit_C _ _ _ _ (by decide)); (case side2 => exact Nat.le_refl _); (case side3 => exact Kd.C_nil _ _); (case side4 => exact Nat.le_refl _); rintro e w7 ⟨v126, rfl, ho0, hb⟩; have n0_ := Aside0.mk (Kd.R_lower ho0 (below_size (zw2 HB.out))); have n1_ := Aside0.mk (below_step (zw2 HB.out) hb); clear HB; have HO127 := n0_; have HB := n1_; clear n0_ n1_; (try clear hb); (try clear ho0)) | (go_at_call 14; (refine (rlp_Decode.calls 20 _ _ [129, 5] false [] [] 40 _ ?side1 ?side2 A4.out).mono ?_); (case side1 => exact lit_C _ _ _ _ (by decide)); (case side2 => exact Nat.le_refl _); rintro e w8 ⟨v1, v2, rfl, hv1, hv2, hb⟩; have n0_ := Aside0.mk (Kd.R_below (zw1 HO127.out) hb); have n1_ := Aside0.mk (below_step (zw2 HB.out) hb); clear HB HO127; have HB := n1_; have HO128 := n0_; clear n0_ n1_; obtain ⟨Ax, cx, ex⟩ := Kd.R_slice hv1; subst ex; obtain ⟨Ay, cy, ey⟩ := Kd.R_slice hv2; subst ey; (try clear hv1 hv2 hb); have hcv8 := fun (o : Obj) => own_string (P := Try.prog) Try.underlying22 Try.underlying5 Try.underlying9 (Kd.own_of_R (Kd.R_alloc HO128.out o))))
  go_ret
  exact ⟨rfl, (zw2 HB.out)⟩

end Go.Proofs.Ytbobnopnfjcajaa.P
