/- BlockShares: the Go law of that name returns true for every input and leaves its arguments as they were. Conditions: none but the statement's own. Its function was walked with a walker over plain data that is proved to tell what the machine does. -/
import Derived.Test.YtdhbelpejaobdaaRows
import Derived.Test.YtdhbelpejaobdaaCLawShares
namespace Go.Proofs.Ytdhbelpejaobdaa.blockShares
open Go.RowKit Go.ChangeShapes Go.ChangeAt Go.Proofs.Ytdhbelpejaobdaa.Ev
set_option linter.unusedVariables false
set_option maxRecDepth 100000 in
theorem lifted (os : Os) (started : os.Started) (H : Type) (enc : TypeId × Value → H) :
    ReturnsInHanded {} Try.checked os 5 .any (Rows.blockSharesSpec.pre6 enc Try.prog Try.f5 Rows.blockSharesRow.domain false) (Rows.blockSharesSpec.post enc Try.prog Try.f5 false true false false) := by
  refine law_lifted (K := Try.checked) (C := ⟨rows, fun _ => ([], [])⟩) (rows_ok _) 8 own started (by kernel_rfl) Try.func5 laidOut
    (ChangeSpec.witness6 (enc := enc) (C := Try.checked) false ⟨#[], #[.slice none 0 0, .int .i64 0, .int .i64 0], []⟩ 8 (by kernel_rfl) (by kernel_rfl) (by kernel_rfl) (by kernel_rfl)) rfl (tb := 4) rfl rfl (by kernel_rfl) (by
      intro ds hd
      have hd : ds.length = 3 := hd
      match ds, hd with
      | [_, _, _], _ => rfl) (by kernel_rfl) (by kernel_rfl) ?_
  intro xs h
  have hp : Try.f5.params.toList = [22, 3, 3] := by kernel_rfl
  rw [hp] at h
  obtain _ | ⟨_, _, x0, _, q0, h0⟩ := h
  obtain _ | ⟨_, _, x1, _, q1, h1⟩ := h0
  obtain _ | ⟨_, _, x2, _, q2, h2⟩ := h1
  cases h2
  exact far_of_ok sharesSp TB_far (rows_ok _) at5 (shares_ok _ rfl rfl rfl) (x0, (x1, (x2, ()))) (fun _ => rfl)
theorem over : Rows.blockSharesRow.holds Try.pinned (OpenSpec.ofChange Rows.blockSharesSpec) :=
  OpenClaim.holds_of_wide 5 Try.f5 rfl rfl rfl rfl rfl rfl rfl ⟨rfl, rfl, rfl, rfl, rfl⟩ rfl rfl rfl rfl rfl (by kernel_rfl) Try.func5 (by kernel_rfl)
    (of_decide_eq_true (by kernel_rfl)) (by unfold Func.isWrapper; first | (rw [if_pos (by decide +kernel)]; kernel_rfl) | (rw [if_neg (by decide +kernel)]; exact ⟨rfl, rfl⟩))
    (fun os started H enc _ => lifted os started H enc)
theorem proved : Rows.BlockSharesSaid := over
#print axioms proved
end Go.Proofs.Ytdhbelpejaobdaa.blockShares
