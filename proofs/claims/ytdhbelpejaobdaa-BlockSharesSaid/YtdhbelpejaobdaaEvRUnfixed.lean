/- Numbers of fixed width, read by the document. -/
import Derived.Test.YtdhbelpejaobdaaEvUnfixed
namespace Go.Proofs.Ytdhbelpejaobdaa.Ev
open Go Go.RowKit
set_option linter.unusedVariables false
set_option maxRecDepth 100000
abbrev runfixedC : Ctx := ⟨rows, (fun | 0 => ([0, 1, 7, 8], [7]) | 1 => ([], [0, 1, 7, 8]) | _ => ([], []))⟩
theorem runfixed_ev (tab : Tab) (l : List Int) (hb : Bytes l) (a m F : Nat) (hm : m ≤ 8) (hml : a + m ≤ l.length) (hl : l.length ≤ 140737488355328) (hF : m < F) : evFn runfixedC tab noCall F F38 [.d (.li (.it .u8)) l, .d (.it .i64) (a : Int), .d (.it .i64) (m : Int)] [] (fun v S => exportV S v) = some (.d (.it .u64) (leVal ((l.drop a).take m))) := by
  conv => lhs; whnf
  have h0 : IntKind.i64.wrap ((m : Int) - 1) = (m : Int) - 1 := wrapI64 (by omega) (by omega)
  rw [h0]
  refine loop_rule (α := Nat × Int) (fun s => s.1 ≤ m ∧ s.2 = leVal ((l.drop (a + s.1)).take (m - s.1))) (fun s => s.1)
    (fun s => [.d (.li (.it .u8)) l, .d (.it .i64) (a : Int), .bad, .bad, .bad, .bad, .bad, .d (.it .u64) s.2, .d (.it .i64) ((s.1 : Int) - 1), .bad, .bad, .bad, .bad, .bad, .bad, .bad, .bad, .bad, .bad, .bad, .bad, .bad, .bad, .bad, .bad, .bad]) (fun s => [])
    (fun s => some (V.d (.it .u64) (leVal ((l.drop a).take m)))) ?_ F (m, 0) ⟨Nat.le_refl _, by simp [leVal]⟩ hF
  rintro ⟨n, acc⟩ K ⟨hn, hacc⟩ hK
  simp only at hn hacc hK ⊢
  conv => lhs; whnf
  by_cases ha : (n : Int) - 1 ≥ 0
  · refine br_go (tst_t ha) ?_
    conv => lhs; whnf
    have e1 : IntKind.i64.wrap ((a : Int) + ((n : Int) - 1)) = ((a + (n - 1) : Nat) : Int) := by rw [wrapI64 (by omega) (by omega)]; omega
    rw [e1]
    refine br_go (band (tst_t (show (0 : Int) ≤ ((a + (n - 1) : Nat) : Int) by omega)) (tst_t (show ((a + (n - 1) : Nat) : Int) < ((List.length l : Nat) : Int) by omega))) ?_
    conv => lhs; whnf
    have hx := rd_bytes hb ((a + (n - 1) : Nat) : Int)
    have ht := (hb.drop (a + n)).take (m - n)
    have hr := leVal_range ht
    have p : (256 : Nat) ^ ((l.drop (a + n)).take (m - n)).length ≤ 256 ^ 7 := Nat.pow_le_pow_right (by decide) (by rw [List.length_take]; omega)
    have p' : ((256 ^ ((l.drop (a + n)).take (m - n)).length : Nat) : Int) ≤ 72057594037927936 := by
      have : (256 : Nat) ^ 7 = 72057594037927936 := by decide
      omega
    rw [← hacc] at hr
    have e : IntKind.u64.wrap (IntKind.u64.wrap (256 * acc) + IntKind.u64.wrap (rd l ((a + (n - 1) : Nat) : Int))) = leVal ((l.drop (a + (n - 1))).take (m - (n - 1))) := by
      rw [wrapU64_id hx.1 (by omega), wrapU64_id (n := 256 * _) (by omega) (by omega), wrapU64_id (by omega) (by omega), hacc]
      have em : m - (n - 1) = (m - n) + 1 := by omega
      have en : a + (n - 1) + 1 = a + n := by omega
      rw [drop_cons (l := l) (i := a + (n - 1)) (by omega), em, List.take_succ_cons, leVal, en, Int.add_comm]
    have e2 : IntKind.i64.wrap ((n : Int) - 1 - 1) = ((n - 1 : Nat) : Int) - 1 := by rw [wrapI64 (by omega) (by omega)]; omega
    have := hK (n - 1, _) ⟨by omega, e⟩ (by simp only; omega)
    simp only at this
    rw [← e2] at this
    exact this
  · refine br_no (tst_f ha) ?_
    have : n = 0 := by omega
    subst this
    conv => lhs; whnf
    rw [hacc]; rfl
end Go.Proofs.Ytdhbelpejaobdaa.Ev
