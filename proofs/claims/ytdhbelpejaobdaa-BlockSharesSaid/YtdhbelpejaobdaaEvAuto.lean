/- Contracts that are the walker's own: for what is run on given data; and bytes.Clone's, by hand. -/
import Derived.Test.YtdhbelpejaobdaaEvFns
import Derived.Test.YtdhbelpejaobdaaEvInl
namespace Go.Proofs.Ytdhbelpejaobdaa.Ev
open Go Go.RowKit
set_option linter.unusedVariables false
set_option linter.unusedSimpArgs false
set_option maxRecDepth 100000

noncomputable def fnOf (g : FuncId) : Option Func := (fnRows.getD g none).map (·.fn)
noncomputable def ctxOf (g : FuncId) : Ctx := ⟨rows, match fnRows.getD g none with | some x => lookL x.live | none => fun _ => ([], [])⟩
/-- all that may be called on data is called by contract; the rest is gone into -/
noncomputable def autoTab [tI : Tst] (t0 : Tab) (fuel : Nat) : Nat → Tab
  | 0 => t0
  | d + 1 => fun g => match t0 g with
    | some y => some y
    | none => match fnRows.getD g none with
      | some x => match x.ts with
        | some ts => some (ts, fun xs => (evFn (ctxOf g) (autoTab t0 fuel d) (inlH ctxOf (autoTab t0 fuel d) fuel fnOf d) fuel x.fn xs [] (fun v S => exportV S v)).map fun v => (true, v))
        | none => none
      | none => none

theorem fnsOK : FnsOK Try.prog fnOf := by
  intro g fn h
  simp only [fnOf, Option.map_eq_some_iff] at h
  obtain ⟨x, hx, rfl⟩ := h
  exact fns_at g x hx
theorem autoTab_far [tI : Tst] {t0 : Tab} (h0 : TabFar Try.prog t0) (fuel : Nat) : ∀ d, TabFar Try.prog (autoTab t0 fuel d)
  | 0 => h0
  | d + 1 => by
    have ih := autoTab_far h0 fuel d
    intro g ts F h
    simp only [autoTab] at h
    cases hy : t0 g with
    | some y =>
      rw [hy] at h
      simp only [Option.some.injEq] at h; subst h
      exact h0 g ts F hy
    | none =>
      rw [hy] at h
      simp only at h
      cases hx : fnRows.getD g none with
      | none => rw [hx] at h; simp at h
      | some x =>
        rw [hx] at h
        simp only at h
        obtain ⟨h1, h2, h3⟩ := fns_at g x hx
        cases ht : x.ts with
        | none => rw [ht] at h; simp at h
        | some ts' =>
          rw [ht] at h
          simp only [Option.some.injEq, Prod.mk.injEq] at h
          obtain ⟨rfl, rfl⟩ := h
          intro vs xs v _ hv
          refine .inl ⟨⟨x.fn, h1, h2, h3⟩, ?_⟩
          simp only [Option.map_eq_some_iff, Prod.mk.injEq, true_and, exists_eq_right] at hv
          exact far_fn (rows_ok _) (tabFar_ok ih) (inl_ok (fun _ => rows_ok _) (tabFar_ok ih) mixed fnsOK d) mixed fuel h1 hv

end Go.Proofs.Ytdhbelpejaobdaa.Ev
