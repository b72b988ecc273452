/- BlockBuilds: the Go law of that name returns true for every input and leaves its arguments as they were. Conditions: none but the statement's own. Its function was walked with a walker over plain data that is proved to tell what the machine does. -/
import Derived.Test.YtdhbelpejaobdaaRows
import Derived.Test.YtdhbelpejaobdaaCLawBuilds
namespace Go.Proofs.Ytdhbelpejaobdaa.blockBuilds
open Go.RowKit Go.ChangeShapes Go.ChangeAt Go.Proofs.Ytdhbelpejaobdaa.Ev
set_option linter.unusedVariables false
set_option maxRecDepth 100000 in
theorem lifted (os : Os) (started : os.Started) (H : Type) (enc : TypeId × Value → H) :
    ReturnsInHanded {} Try.checked os 3 .any (Rows.blockBuildsSpec.pre6 enc Try.prog Try.f3 Rows.blockBuildsRow.domain false) (Rows.blockBuildsSpec.post enc Try.prog Try.f3 false true false false) := by
  refine law_lifted (K := Try.checked) (C := ⟨rows, fun _ => ([], [])⟩) (rows_ok _) 8 own started (by kernel_rfl) Try.func3 laidOut
    (ChangeSpec.witness6 (enc := enc) (C := Try.checked) false ⟨#[], #[.slice none 0 0, .int .i64 0], []⟩ 8 (by kernel_rfl) (by kernel_rfl) (by kernel_rfl) (by kernel_rfl)) rfl (tb := 4) rfl rfl (by kernel_rfl) (by
      intro ds hd
      have hd : ds.length = 2 := hd
      match ds, hd with
      | [_, _], _ => rfl) (by kernel_rfl) (by kernel_rfl) ?_
  intro xs h
  have hp : Try.f3.params.toList = [22, 3] := by kernel_rfl
  rw [hp] at h
  obtain _ | ⟨_, _, x0, _, q0, h0⟩ := h
  obtain _ | ⟨_, _, x1, _, q1, h1⟩ := h0
  cases h1
  exact far_of_ok buildsSp TB_far (rows_ok _) at3 (builds_ok _ rfl rfl rfl rfl rfl rfl rfl) (x0, (x1, ())) (fun _ => rfl)
theorem over : Rows.blockBuildsRow.holds Try.pinned (OpenSpec.ofChange Rows.blockBuildsSpec) :=
  OpenClaim.holds_of_wide 3 Try.f3 rfl rfl rfl rfl rfl rfl rfl ⟨rfl, rfl, rfl, rfl, rfl⟩ rfl rfl rfl rfl rfl (by kernel_rfl) Try.func3 (by kernel_rfl)
    (of_decide_eq_true (by kernel_rfl)) (by unfold Func.isWrapper; first | (rw [if_pos (by decide +kernel)]; kernel_rfl) | (rw [if_neg (by decide +kernel)]; exact ⟨rfl, rfl⟩))
    (fun os started H enc _ => lifted os started H enc)
theorem proved : Rows.BlockBuildsSaid := over
#print axioms proved
end Go.Proofs.Ytdhbelpejaobdaa.blockBuilds
