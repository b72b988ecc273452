/- Numbers of fixed width, read by the program. -/
import Derived.Test.YtdhbelpejaobdaaEvFixed
namespace Go.Proofs.Ytdhbelpejaobdaa.Ev
open Go Go.RowKit
set_option linter.unusedVariables false
set_option maxRecDepth 100000
theorem shl8 {x : Int} {i : Nat} (hi : i ≤ 7) (hx : 0 ≤ x ∧ x < 256) : IntKind.u64.wrap (IntKind.u64.wrap x * 2 ^ min (IntKind.i64.wrap (8 * (i : Int))).toNat IntKind.u64.bits) = x * ((256 ^ i : Nat) : Int) := by
  rw [wrapI64 (by omega) (by omega), wrapU64_id hx.1 (by omega)]
  have e1 : min (8 * (i : Int)).toNat IntKind.u64.bits = 8 * i := by simp only [IntKind.bits]; omega
  have e2 : (2 : Int) ^ (8 * i) = ((256 ^ i : Nat) : Int) := by
    rw [Int.natCast_pow, show ((256 : Nat) : Int) = 2 ^ 8 from by decide, ← Int.pow_mul]
  rw [e1, e2, wrapU64_id]
  · exact Int.mul_nonneg hx.1 (Int.natCast_nonneg _)
  · have p : (256 : Nat) ^ i ≤ 256 ^ 7 := Nat.pow_le_pow_right (by decide) hi
    have p' : ((256 ^ i : Nat) : Int) ≤ 72057594037927936 := by
      have : (256 : Nat) ^ 7 = 72057594037927936 := by decide
      omega
    calc x * ((256 ^ i : Nat) : Int) ≤ 255 * ((256 ^ i : Nat) : Int) := Int.mul_le_mul_of_nonneg_right (by omega) (Int.natCast_nonneg _)
      _ < 18446744073709551616 := by omega
abbrev unfixedC : Ctx := ⟨rows, (fun | 0 => ([0, 6, 12, 13], [6]) | 1 => ([], [0, 6, 12, 13]) | _ => ([], []))⟩
theorem unfixed_ev (tab : Tab) (l : List Int) (hb : Bytes l) (m F : Nat) (hm : m ≤ 8) (hml : m ≤ l.length) (hF : m < F) : evFn unfixedC tab noCall F F59 [.d (.li (.it .u8)) l, .d (.it .i64) (m : Int)] [] (fun v S => exportV S v) = some (.tup [.d (.it .u64) (leVal (l.take m)), .d (.it .i64) 0]) := by
  conv => lhs; whnf
  refine br_no (tst_f (by omega)) ?_
  conv => lhs; whnf
  refine loop_rule (α := Nat) (fun i => i ≤ m) (fun i => m - i)
    (fun i => [.d (.li (.it .u8)) l, .bad, .bad, .bad, .bad, .bad, .d (.it .u64) (leVal (l.take i)), .bad, .bad, .bad, .bad, .bad, .d (.it .i64) (m : Int), .d (.it .i64) (i : Int), .bad, .bad, .bad, .bad, .bad, .bad, .bad, .bad, .bad, .bad, .bad, .bad, .bad, .bad]) (fun i => [.gone])
    (fun i => some (V.tup [.d (.it .u64) (leVal (l.take m)), .d (.it .i64) 0])) ?_ F 0 (Nat.zero_le _) (by omega)
  intro i K hi hK
  conv => lhs; whnf
  by_cases ha : (i : Int) < (m : Int)
  · refine br_go (tst_t ha) ?_
    conv => lhs; whnf
    refine br_go (band (tst_t (show (0 : Int) ≤ (i : Int) by omega)) (tst_t (show (i : Int) < ((List.length l : Nat) : Int) by omega))) ?_
    conv => lhs; whnf
    refine br_go (tst_t (by rw [wrapI64 (by omega) (by omega)]; omega)) ?_
    conv => lhs; whnf
    have hx := rd_bytes hb (i : Int)
    have hr := leVal_range (hb.take i)
    have hlen : (l.take i).length = i := by rw [List.length_take]; omega
    rw [hlen] at hr
    have p : (256 : Nat) ^ i ≤ 256 ^ 7 := Nat.pow_le_pow_right (by decide) (by omega)
    have p' : ((256 ^ i : Nat) : Int) ≤ 72057594037927936 := by
      have : (256 : Nat) ^ 7 = 72057594037927936 := by decide
      omega
    have e1 : bits .or .u64 (leVal (l.take i)) (IntKind.u64.wrap (IntKind.u64.wrap (rd l (i : Int)) * 2 ^ min (IntKind.i64.wrap (8 * (i : Int))).toNat IntKind.u64.bits)) = leVal (l.take (i + 1)) := by
      rw [shl8 (by omega) hx, bits_or64 (by omega) hr ⟨hx.1, ?_⟩, take_succ' (by omega), leVal_append, hlen]
      · simp [leVal, Int.mul_comm]
      · calc rd l (i : Int) * ((256 ^ i : Nat) : Int) ≤ 255 * ((256 ^ i : Nat) : Int) := Int.mul_le_mul_of_nonneg_right (by omega) (Int.natCast_nonneg _)
          _ < 18446744073709551616 := by omega
    have e2 : IntKind.i64.wrap ((i : Int) + 1) = ((i + 1 : Nat) : Int) := by rw [wrapI64 (by omega) (by omega)]; rfl
    have := hK (i + 1) (by omega) (by omega)
    rw [← e1, ← e2] at this
    exact this
  · refine br_no (tst_f ha) ?_
    have : i = m := by omega
    subst this
    rfl
end Go.Proofs.Ytdhbelpejaobdaa.Ev
