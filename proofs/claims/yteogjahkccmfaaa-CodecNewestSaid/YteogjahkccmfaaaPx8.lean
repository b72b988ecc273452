-- Written by a program of this session out of the translation.
import Derived.Test.YteogjahkccmfaaaPx0
import Derived.Test.YteogjahkccmfaaaPx1
import Derived.Test.YteogjahkccmfaaaPx6
import Derived.Test.YteogjahkccmfaaaPx7
namespace Go.Proofs.Yteogjahkccmfaaa.P
open Go.RowKit Go.Proofs.YteogjahkccmfaaaW.PrintWords Go.Proofs.YteogjahkccmfaaaW.PrintLast Go.Proofs.YteogjahkccmfaaaW.PrintMore
attribute [local go_sem] max2_int min2_int max_two min_two max_three min_three max_four min_four   -- for this text's walks alone
set_option linter.unusedVariables false
set_option linter.unusedSimpArgs false

/-! ### morainelaw2_known: function 12 -/
theorem lit_C (W : World) (xs : List Int) (e : Nat) (fr : Nat × Nat) (hl : xs.length ≤ 9223372036854775807) : Kd.C (Kd.int .u8) (W.alloc (.cells (xs.map (Value.int .u8)).toArray e fr)) (some ⟨W.heap.size, 0, none⟩) xs.length xs := by
  refine ⟨rfl, hl, fun _ => ⟨_, rfl, fun j p hj => ⟨[.int .u8 p], rfl, rfl, fun i u hu => ?_⟩⟩⟩
  have hi : i = 0 := by
    have := (List.getElem?_eq_some_iff.1 hu).1
    simp at this
    exact this
  subst hi
  simp at hu
  subst hu
  have hs : (Kd.int .u8).sz = 1 := rfl
  rw [hs, Nat.mul_one, Nat.add_zero, add_plain, cell_of_row _ _ _ _ _ _ (heap_alloc_new W _)]
  simp [hj]
def morainelaw2_known.f : Option (Bool) := some true
set_option maxHeartbeats 8000000 in
set_option maxRecDepth 100000 in
theorem morainelaw2_known.calls (r : Bool) (w : World) (h : morainelaw2_known.f = some r) :
    Calls Try.prog 12 #[] w fun e w' => e = .returned (.bool r) ∧ Below w.heap.size w w' := by
  have HB := Aside0.mk (Below.refl w.heap.size w)
  obtain rfl := Option.some.inj h
  clear h
  obtain ⟨t1, A1, c3⟩ : ∃ t, codec_Key.f 20 [] 1 1 = some (t, 0) ∧ ((strOfNums t).toList == ([1, 1, 0, 0, 0, 0, 0, 0] : List UInt8)) = true := ⟨[1, 1, 0, 0, 0, 0, 0, 0], by decide +kernel, by decide +kernel⟩
  have A4 : codec_Sum.f 200 [49, 50, 51, 52, 53, 54, 55, 56, 57] = some 3808858755 := by decide +kernel
  obtain ⟨t6, A6, c6⟩ : ∃ t, codec_Put.f 5 300 = some t ∧ ((strOfNums t).toList == ([172, 2] : List UInt8)) = true := ⟨[172, 2], by decide +kernel, by decide +kernel⟩
  have A1 := Aside0.mk A1
  have A4 := Aside0.mk A4
  have A6 := Aside0.mk A6
  have kc := fun (w : World) (C : Array Value) (n c : Nat) => Lib.run_convert_bytes_const (P := Try.prog) w 22 5 C n c Try.underlying22 Try.underlying5
  go_enter Try.func12, Try.ntmps12
  go_wp2_with (first | ((with_reducible refine gate_callee (f := 14) rfl ?_); refine goesL_ (some 4) rfl rfl Try.func14 (by kernel_rfl) rfl #[.slice none 0 0, .int .u64 1, .int .i64 1] rfl (by (try simp only [List.map_toArray, List.map_cons, List.map_nil]); first | done | rfl | (simp only [List.length_drop, List.length_take]; rfl)) ?_; (refine (codec_Key.calls 20 _ _ ([] : List Int) 1 1 t1 0 _ ?side1 ?side2 A1.out).mono ?_); (case side1 => exact Kd.C_nil _ _); (case side2 => exact Nat.le_refl _); rintro e w7 ⟨v126, rfl, ho0, hb⟩; refine ⟨_, rfl, ?_⟩; have n0_ := Aside0.mk (Kd.R_lower ho0 (below_size (by repeat (first | (with_reducible first | exact HB.out | apply below_alloc | apply pw_below_drewN | apply below_drew1) | exact HB.out)))); have n1_ := Aside0.mk (below_step (by repeat (first | (with_reducible first | exact HB.out | apply below_alloc | apply pw_below_drewN | apply below_drew1) | exact HB.out)) hb); clear HB; have HO127 := n0_; have HB := n1_; clear n0_ n1_; (try clear hb); (try clear hb2); (try clear hk); (try clear hi); (try clear ho0); have hcv8 := own_string (P := Try.prog) Try.underlying22 Try.underlying5 Try.underlying9 (Kd.own_of_R HO127.out)) | (go_at_call 13; (refine (codec_Sum.calls 200 _ _ [49, 50, 51, 52, 53, 54, 55, 56, 57] 3808858755 _ ?side1 ?side2 A4.out).mono ?_); (case side1 => exact lit_C _ _ _ _ (by decide)); (case side2 => exact Nat.le_refl _); rintro e w' ⟨rfl, ⟨nd, rfl⟩⟩) | (go_at_call 24; (with_reducible refine (codec_Put.calls 5 300 t6 _ A6.out).mono ?_); rintro e w12 ⟨v133, rfl, ho0, hb⟩; have n2_ := Aside0.mk (Kd.R_lower ho0 (below_size (by repeat (first | (with_reducible first | exact HB.out | apply below_alloc | apply pw_below_drewN | apply below_drew1) | exact HB.out)))); have n3_ := Aside0.mk (below_step (by repeat (first | (with_reducible first | exact HB.out | apply below_alloc | apply pw_below_drewN | apply below_drew1) | exact HB.out)) hb); clear HB; have HO134 := n2_; have HB := n3_; clear n2_ n3_; (try clear hb); (try clear ho0); have hcv13 := own_string (P := Try.prog) Try.underlying22 Try.underlying5 Try.underlying9 (Kd.own_of_R HO134.out)))
  go_ret
  exact ⟨rfl, (by repeat (first | (with_reducible first | exact HB.out | apply below_alloc | apply pw_below_drewN | apply below_drew1) | exact HB.out))⟩

end Go.Proofs.Yteogjahkccmfaaa.P
