/- Calls that the walker goes into: closures, methods on things of the function's own. -/
import Derived.Test.YtdhbelpejaobdaaEvX
namespace Go.Proofs.Ytdhbelpejaobdaa.Ev
open Go Go.RowKit
set_option linter.unusedVariables false
set_option linter.unusedSimpArgs false

/-- what a call that was gone into tells: what it made is let go -/
def finV (n : Nat) : V → V
  | .tup vs => .tup (vs.map (scrub n))
  | v => scrub n v
theorem finV_rep [tI : Tst] {E : Env} {n : Nat} {v : V} {u : Value} (h : RepV E v u) : RepV (E.cut n) (finV n v) u := by
  cases v with
  | tup vs =>
    simp only [finV, RepV] at h ⊢
    obtain ⟨us, h1, h2⟩ := h
    exact ⟨us, h1, mapScrub_rep h2⟩
  | _ => exact scrub_rep h

def inlH [tI : Tst] {R : Type} (C : FuncId → Ctx) (tab : Tab) (fuel : Nat) (fns : FuncId → Option Func) : Nat → CallH R
  | 0 => fun _ _ _ _ _ => none
  | d + 1 => fun g args id S k => match fns g with
    | some fn => lenK S 0 fun n => evFn (C g) tab (inlH C tab fuel fns d) fuel fn args S fun v S' => match notBad v with
      | true => forceV (finV n v) fun v => truncK n S' fun S => k v S
      | false => none
    | none => none
def FnsOK (P : Program) (fns : FuncId → Option Func) : Prop := ∀ g fn, fns g = some fn → P.funcs[g]? = some fn ∧ (fn.name == "runtime.NumGoroutine") = false ∧ fn.body.isNone = false

theorem inl_ok [tI : Tst] {R : Type} {P : Program} {C : FuncId → Ctx} {tab : Tab} {fuel : Nat} {fns : FuncId → Option Func} (hC : ∀ g, RowsOK P (C g)) (hT : TabOK P tab) (hm : P.follows .mixedOrders = true) (hf : FnsOK P fns) : ∀ d, CallOK P (inlH C tab fuel fns d : CallH R)
  | 0 => by intro g args id S k r h; simp [inlH] at h
  | d + 1 => by
    intro g args id S k r h
    rw [inlH] at h
    simp only at h
    cases hg : fns g with
    | none => rw [hg] at h; simp at h
    | some fn =>
      rw [hg] at h
      simp only at h
      rw [lenK_eq, Nat.zero_add] at h
      obtain ⟨hfn, hn, hb⟩ := hf g fn hg
      obtain ⟨v, S', h1, h2⟩ := fn_ok (hC g) hT (inl_ok hC hT hm hf d) hm fuel hfn h
      split at h1
      · rename_i hnb
        rw [forceV_eq, truncK_eq] at h1
        obtain ⟨hl, h3⟩ := h2 hnb
        refine ⟨finV S.length v, truncL S.length S', h1, truncL_len hl, ?_⟩
        intro base w0 E w us sim hargs hid
        unfold Called
        have hrun : (callFunc g us.toArray).run P w = .ok (.enter g us.toArray) w := by
          have hn' : fn.name ≠ "runtime.NumGoroutine" := by simpa using hn
          have hb' : fn.body ≠ none := by intro e; rw [e] at hb; simp at hb
          simp [callFunc, hfn, hn', hb']
        rw [hrun]
        refine h3 base w0 E w us _ sim hargs ?_
        intro E' u w' k1 k0 k2 k3
        refine ⟨u, rfl, E'.cut S.length, Env.le_cut k1 sim.lt, k2.cut _ hl, finV_rep k3, ?_⟩
        intro o l
        rcases k0 o l.1 with h | h
        · exact .inl h
        · exact absurd l.2 (by omega)
      · simp at h1
end Go.Proofs.Ytdhbelpejaobdaa.Ev
