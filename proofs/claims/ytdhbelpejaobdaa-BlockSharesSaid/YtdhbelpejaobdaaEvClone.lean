/- bytes.Clone: of nil nothing, of all else a copy. -/
import Derived.Test.YtdhbelpejaobdaaEvCon
namespace Go.Proofs.Ytdhbelpejaobdaa.Ev
open Go Go.RowKit
set_option linter.unusedVariables false
set_option maxRecDepth 100000
abbrev cloneC : Ctx := ⟨rows, (fun  | _ => ([], []))⟩
theorem clone_nil : evFn cloneC tab0 noCall 1 F51 [.nils] [] (fun v S => exportV S v) = some (.own 0 (.it .u8) ([] : List Int)) := by
  conv => lhs; whnf
  refine br_go (tst_t rfl) ?_
  rfl
theorem clone_nn (l : List Int) (hl : List.length l ≤ 140737488355328) : evFn cloneC tab0 noCall 1 F51 [.nn (.it .u8) l] [] (fun v S => exportV S v) = some (.own 0 (.it .u8) l) := by
  conv => lhs; whnf
  refine br_go (band (band rfl (tst_t rfl)) (tst_t ?_)) ?_
  · show (0 + List.length l) * 1 ≤ 140737488355328
    omega
  conv => lhs; whnf
  refine br_go (tst_t rfl) ?_
  rfl
theorem clone_far (l : List Int) : FarRes Try.prog 51 [.d (.li (.it .u8)) l] (.own 0 (.it .u8) l) := by
  intro m w us R hl hr hR
  cases us with
  | nil => simp [RepVs] at hr
  | cons u us =>
    cases us with
    | cons _ _ => simp [RepVs] at hr
    | nil =>
      have hd : RepV (Env.of m) (.d (.li (.it .u8)) l) u := by simpa [RepVs] using hr
      obtain ⟨a, c, hu, h1, h2, h3, h4⟩ := rep_li_iff.1 hd
      simp only [List.cons.injEq, and_true] at hu
      subst hu
      cases a with
      | none =>
        have hl0 : l = [] := List.eq_nil_of_length_eq_zero h4.1
        have hc : c = 0 := h4.2
        subst hl0; subst hc
        exact far_fn (rows_ok _) (tabFar_ok tab0_far) noCall_ok mixed 1 at51 clone_nil m w _ R hl (by simp [RepVs, RepV]) hR
      | some ad =>
        refine far_fn (rows_ok _) (tabFar_ok tab0_far) noCall_ok mixed 1 at51 (clone_nn l h2) m w _ R hl ?_ hR
        simp only [RepVs, and_true, RepV] at hd ⊢
        exact ⟨hd, _, _, _, rfl⟩
end Go.Proofs.Ytdhbelpejaobdaa.Ev
