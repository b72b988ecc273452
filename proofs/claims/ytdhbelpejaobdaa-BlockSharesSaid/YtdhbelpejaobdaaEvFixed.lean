/- Numbers of fixed width, laid down by the program. -/
import Derived.Test.YtdhbelpejaobdaaEvPut
namespace Go.Proofs.Ytdhbelpejaobdaa.Ev
open Go Go.RowKit
set_option linter.unusedVariables false
set_option maxRecDepth 100000
theorem wrapI64 {n : Int} (h : -9223372036854775808 ≤ n) (h' : n < 9223372036854775808) : IntKind.i64.wrap n = n := by
  simp only [IntKind.wrap, IntKind.bits, IntKind.signed, show (2 : Int) ^ 64 = 18446744073709551616 from by decide, show (2 : Int) ^ (64 - 1) = 9223372036854775808 from by decide, Bool.true_and, decide_eq_true_eq]
  by_cases c : n % 18446744073709551616 ≥ 9223372036854775808
  · rw [if_pos c]; omega
  · rw [if_neg c]; omega
theorem shr8 {a : Int} {i : Nat} (hi : i ≤ 8) : a.fdiv (2 ^ min (IntKind.i64.wrap (8 * (i : Int))).toNat IntKind.u64.bits) = a / ((256 ^ i : Nat) : Int) := by
  rw [wrapI64 (by omega) (by omega)]
  have e1 : min (8 * (i : Int)).toNat IntKind.u64.bits = 8 * i := by simp only [IntKind.bits]; omega
  rw [e1]
  have e2 : (2 : Int) ^ (8 * i) = ((256 ^ i : Nat) : Int) := by
    rw [Int.natCast_pow, show ((256 : Nat) : Int) = 2 ^ 8 from by decide, ← Int.pow_mul]
  rw [e2]
  exact Int.fdiv_eq_ediv_of_nonneg _ (Int.natCast_nonneg _)
abbrev fixedC : Ctx := ⟨rows, (fun | 0 => ([0, 5, 7, 8], [5]) | 1 => ([], [0, 5, 7, 8]) | _ => ([], []))⟩
theorem fixed_ev (tab : Tab) (n : Int) (m F : Nat) (hm : m ≤ 8) (hF : m < F) : evFn fixedC tab noCall F F68 [.d (.it .u64) n, .d (.it .i64) (m : Int)] [] (fun v S => exportV S v) = some (.own 0 (.it .u8) (fixedL n m)) := by
  conv => lhs; whnf
  refine loop_rule (α := Nat) (fun i => i ≤ m) (fun i => m - i)
    (fun i => [.d (.it .u64) n, .bad, .bad, .bad, .bad, .own 1 (.it .u8) (fixedL n i), .bad, .d (.it .i64) (m : Int), .d (.it .i64) (i : Int), .bad, .bad, .bad, .bad, .bad, .bad, .bad, .bad, .bad, .bad, .bad, .bad]) (fun i => [.fam 0, .fam (List.length (fixedL n i))])
    (fun i => some (V.own 0 (.it .u8) (fixedL n m))) ?_ F 0 (Nat.zero_le _) (by omega)
  intro i K hi hK
  have hl := fixedL_length n i
  conv => lhs; whnf
  by_cases ha : (i : Int) < (m : Int)
  · refine br_go (tst_t ha) ?_
    conv => lhs; whnf
    refine br_go (tst_t (by rw [wrapI64 (by omega) (by omega)]; omega)) ?_
    conv => lhs; whnf
    refine br_go (band (band rfl (tst_t rfl)) (tst_t ?_)) ?_
    · show (List.length (fixedL n i) + 1) * 1 ≤ 140737488355328
      omega
    conv => lhs; whnf
    have e1 : fixedL n i ++ [IntKind.u8.wrap (n.fdiv (2 ^ min (IntKind.i64.wrap (8 * (i : Int))).toNat IntKind.u64.bits))] = fixedL n (i + 1) := by
      rw [shr8 (by omega), wrapU8]; rfl
    have e2 : IntKind.i64.wrap ((i : Int) + 1) = ((i + 1 : Nat) : Int) := by rw [wrapI64 (by omega) (by omega)]; rfl
    have := hK (i + 1) (by omega) (by omega)
    rw [← e1, ← e2] at this
    exact this
  · refine br_no (tst_f ha) ?_
    have : i = m := by omega
    subst this
    conv => lhs; whnf
    refine br_go (tst_t rfl) ?_
    rfl
abbrev rfixedC : Ctx := ⟨rows, (fun | 0 => ([0, 1, 5, 6], [5]) | 1 => ([], [0, 1, 5, 6]) | _ => ([], []))⟩
theorem rfixed_ev (tab : Tab) (n : Int) (m F : Nat) (hm : m ≤ 8) (hF : m < F) : evFn rfixedC tab noCall F F58 [.d (.it .u64) n, .d (.it .i64) (m : Int)] [] (fun v S => exportV S v) = some (.own 0 (.it .u8) (fixedL n m)) := by
  conv => lhs; whnf
  refine loop_rule (α := Nat) (fun i => i ≤ m) (fun i => m - i)
    (fun i => [.d (.it .u64) n, .d (.it .i64) (m : Int), .bad, .bad, .bad, .own 1 (.it .u8) (fixedL n i), .d (.it .i64) (i : Int), .bad, .bad, .bad, .bad, .bad, .bad, .bad, .bad, .bad, .bad, .bad, .bad, .bad, .bad]) (fun i => [.fam 0, .fam (List.length (fixedL n i))])
    (fun i => some (V.own 0 (.it .u8) (fixedL n m))) ?_ F 0 (Nat.zero_le _) (by omega)
  intro i K hi hK
  have hl := fixedL_length n i
  conv => lhs; whnf
  by_cases ha : (i : Int) < (m : Int)
  · refine br_go (tst_t ha) ?_
    conv => lhs; whnf
    refine br_go (tst_t (by rw [wrapI64 (by omega) (by omega)]; omega)) ?_
    conv => lhs; whnf
    refine br_go (band (band rfl (tst_t rfl)) (tst_t ?_)) ?_
    · show (List.length (fixedL n i) + 1) * 1 ≤ 140737488355328
      omega
    conv => lhs; whnf
    have e1 : fixedL n i ++ [IntKind.u8.wrap (n.fdiv (2 ^ min (IntKind.i64.wrap (8 * (i : Int))).toNat IntKind.u64.bits))] = fixedL n (i + 1) := by
      rw [shr8 (by omega), wrapU8]; rfl
    have e2 : IntKind.i64.wrap ((i : Int) + 1) = ((i + 1 : Nat) : Int) := by rw [wrapI64 (by omega) (by omega)]; rfl
    have := hK (i + 1) (by omega) (by omega)
    rw [← e1, ← e2] at this
    exact this
  · refine br_no (tst_f ha) ?_
    have : i = m := by omega
    subst this
    conv => lhs; whnf
    refine br_go (tst_t rfl) ?_
    rfl
end Go.Proofs.Ytdhbelpejaobdaa.Ev
