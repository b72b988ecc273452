/- Numbers laid down, seven bits a byte: by the program and by the document. -/
import Derived.Test.YtdhbelpejaobdaaEvCon
import Derived.Test.YtdhbelpejaobdaaEvSpec
namespace Go.Proofs.Ytdhbelpejaobdaa.Ev
open Go Go.RowKit
set_option linter.unusedVariables false
set_option maxRecDepth 100000
theorem wrap_or {a : Int} (h : 0 ≤ a) : bits .or .u8 (IntKind.u8.wrap a) 128 = ((a.toNat % 128 + 128 : Nat) : Int) := by
  rw [wrapU8, or128 (by omega)]; omega
theorem shr7 {a : Int} (h : 0 ≤ a) : a.fdiv (2 ^ min (Int.toNat 7) IntKind.u64.bits) = a / 128 := Int.fdiv_eq_ediv_of_nonneg _ (by decide)
theorem put_big {a : Int} (h : a ≥ 128) : putS a.toNat = ((a.toNat % 128 + 128 : Nat) : Int) :: putS (a / 128).toNat := by
  rw [putS, dif_neg (by omega)]
  have : a.toNat / 128 = (a / 128).toNat := by omega
  rw [this]
theorem put_small {a : Int} (h0 : 0 ≤ a) (h : ¬ a ≥ 128) : putS a.toNat = [a] := by
  rw [putS, dif_pos (by omega), Int.toNat_of_nonneg h0]
abbrev putC : Ctx := ⟨rows, (fun | 0 => ([0, 3], [0, 3]) | 1 => ([], [0, 3]) | _ => ([], []))⟩
theorem put_ev (tab : Tab) (n : Int) (F : Nat) (hn : 0 ≤ n ∧ n < 18446744073709551616) (hF : n.toNat < F) : evFn putC tab noCall F F55 [.d (.it .u64) n] [] (fun v S => exportV S v) = some (.own 0 (.it .u8) (putS n.toNat)) := by
  conv => lhs; whnf
  refine loop_rule (α := Int × List Int) (fun a => 0 ≤ a.1 ∧ a.1 < 18446744073709551616 ∧ List.length a.2 + (putS a.1.toNat).length ≤ 10) (fun a => a.1.toNat)
    (fun a => [.d (.it .u64) a.1, .bad, .bad, .own 1 (.it .u8) a.2, .bad, .bad, .bad, .bad, .bad, .bad, .bad, .bad, .bad, .bad, .bad, .bad, .bad, .bad, .bad]) (fun a => [.fam 0, .fam (List.length a.2)])
    (fun a => some (V.own 0 (.it .u8) (a.2 ++ putS a.1.toNat))) ?_ F (n, []) ⟨hn.1, hn.2, by simpa using putS_length64 (n := n.toNat) (by omega)⟩ hF
  rintro ⟨a, l⟩ K ⟨h1, h2, h3⟩ hK
  simp only at h1 h2 h3 hK ⊢
  conv => lhs; whnf
  by_cases ha : a ≥ 128
  · refine br_go (tst_t ha) ?_
    conv => lhs; whnf
    refine br_go (band (band rfl (tst_t rfl)) (tst_t ?_)) ?_
    · show (List.length l + 1) * 1 ≤ 140737488355328
      omega
    conv => lhs; whnf
    refine br_go (tst_t (by decide)) ?_
    conv => lhs; whnf
    have e1 := wrap_or h1
    have e2 := shr7 h1
    rw [put_big ha, List.length_cons] at h3
    refine (hK (a.fdiv (2 ^ min (Int.toNat 7) IntKind.u64.bits), l ++ [bits .or .u8 (IntKind.u8.wrap a) 128]) ?_ ?_).trans ?_
    · simp only [e1, e2, List.length_append, List.length_singleton]
      omega
    · simp only [e2]; omega
    · simp only [e1, e2, List.append_assoc, List.singleton_append, put_big ha]
  · refine br_no (tst_f ha) ?_
    conv => lhs; whnf
    refine br_go (band (band rfl (tst_t rfl)) (tst_t ?_)) ?_
    · show (List.length l + 1) * 1 ≤ 140737488355328
      omega
    conv => lhs; whnf
    refine br_go (tst_t rfl) ?_
    conv => lhs; whnf
    refine own_eq (t := .it .u8) ?_ 0
    show l ++ [IntKind.u8.wrap a] = _
    rw [put_small h1 ha, wrapU8, Int.emod_eq_of_lt h1 (by omega)]
end Go.Proofs.Ytdhbelpejaobdaa.Ev
