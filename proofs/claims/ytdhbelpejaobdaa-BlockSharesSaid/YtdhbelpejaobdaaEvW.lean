/- A whole function: called in whatever world; by contract; gone into. -/
import Derived.Test.YtdhbelpejaobdaaEvV
namespace Go.Proofs.Ytdhbelpejaobdaa.Ev
open Go Go.RowKit
set_option linter.unusedVariables false
set_option linter.unusedSimpArgs false

/-- what a call of a function comes to, in whatever world -/
def FnRes (P : Program) (f : FuncId) (args : List V) (S : List Ent) (v : V) (S' : List Ent) : Prop :=
  S.length ≤ S'.length ∧ ∀ (base : Nat) (w0 : World) (E : Env) (w : World) (us : List Value) (R : Ending → World → Prop), Sim base w0 E S w → RepVs E args us →
    (∀ E' u w', E.Le E' → (∀ x, E'.live x → E.live x ∨ S.length ≤ x) → Sim base w0 E' S' w' → RepV E' v u → R (.returned u) w') → Calls P f us.toArray w R

theorem repVs_un {E : Env} : ∀ (n : Nat), RepVs E (List.replicate n .un) (List.replicate n undef)
  | 0 => by simp [RepVs]
  | n + 1 => by simp only [List.replicate_succ, RepVs]; exact ⟨by simp [RepV], repVs_un n⟩

theorem resV_rep [tI : Tst] {C : Ctx} {base : Nat} {w0 : World} {E : Env} {S : List Ent} {sl : List V} {a : Act} {P : Program} (hC : RowsOK P C) {w : World} (sim : Sim base w0 E S w) (ha : SimA E sl a) : ∀ (rs : List ResultVar) (vs : List V), resV C S sl rs = some vs → vs.all (fun v => match v with | .bad => false | _ => true) = true →
    ∃ us, RepVs E vs us ∧ (rs.mapM (m := Sem) fun | .tmp t => pure (a.tmps.getD t undef) | .cell c t => do loadVar t (← asAddr (a.tmps.getD c undef))).run P w = .ok us w
  | [], vs, h, _ => by
    simp only [resV, Option.some.injEq] at h; subst h
    exact ⟨[], by simp [RepVs], by simp⟩
  | .tmp t :: rs, vs, h, hb => by
    rw [resV] at h
    cases hr : resV C S sl rs with
    | none => rw [hr] at h; simp at h
    | some vs' =>
      rw [hr] at h
      simp only [Option.map_some, Option.some.injEq] at h; subst h
      simp only [List.all_cons, Bool.and_eq_true] at hb
      obtain ⟨us, h1, h2⟩ := resV_rep hC sim ha rs vs' hr hb.2
      obtain ⟨u, h3, h4⟩ := ha.slot t rfl (by intro e; rw [e] at hb; simp at hb)
      refine ⟨u :: us, by simp only [RepVs]; exact ⟨h4, h1⟩, ?_⟩
      have hu : a.tmps.getD t undef = u := by simp [Array.getD_eq_getD_getElem?, h3]
      simp only [List.mapM_cons, Sem.run_bind, Sem.run_pure, Result.andThen_ok, h2, hu]
  | .cell c t :: rs, vs, h, hb => by
    rw [resV] at h
    split at h
    case h_2 => simp at h
    rename_i o off hlk
    split at h
    case h_2 => simp at h
    rename_i v us0 hld
    cases hr : resV C S sl rs with
    | none => rw [hr] at h; simp at h
    | some vs' =>
      rw [hr] at h
      simp only [Option.map_some, Option.some.injEq] at h; subst h
      simp only [List.all_cons, Bool.and_eq_true] at hb
      obtain ⟨us, h1, h2⟩ := resV_rep hC sim ha rs vs' hr hb.2
      obtain ⟨u, h3, h4⟩ := ha.slot c hlk (by simp)
      obtain ⟨-, z, h5, h6⟩ := load_ok (P := P) hC sim hld rfl h4
      refine ⟨z :: us, by simp only [RepVs]; exact ⟨h6, h1⟩, ?_⟩
      have hu : a.tmps.getD c undef = u := by simp [Array.getD_eq_getD_getElem?, h3]
      simp only [RepV] at h4
      obtain ⟨-, rfl⟩ := h4
      have h7 : (loadVar t ⟨E.blk o, off, none⟩).run P w = .ok z w := by simpa [Instr.loadAt, Instr.sureAddr] using h5
      have h8 : (do loadVar t (← asAddr (a.tmps.getD c undef)) : Sem Value).run P w = .ok z w := by rw [hu]; simp [asAddr, h7]
      rw [List.mapM_cons, Sem.run_bind]
      refine (congrArg (fun x => Result.andThen x _) h8).trans ?_
      simp only [Result.andThen_ok, Sem.run_bind, h2, Sem.run_pure]

def notBad (v : V) : Bool := match v with | .bad => false | .tup vs => vs.all (fun v => match v with | .bad => false | _ => true) | _ => true

section
variable {R : Type} {P : Program} {C : Ctx} {tab : Tab} {call : CallH R}
theorem fn_ok [tI : Tst] (hC : RowsOK P C) (hT : TabOK P tab) (hcall : CallOK P call) (hm : P.follows .mixedOrders = true) (fuel : Nat) {f : FuncId} {fn : Func} (hf : P.funcs[f]? = some fn) {args : List V} {S : List Ent} {k : V → List Ent → Option R} {r : R}
    (h : evFn C tab call fuel fn args S k = some r) : ∃ v S', k v S' = some r ∧ (notBad v = true → FnRes P f args S v S') := by
  unfold evFn at h
  split at h
  · simp at h
  rename_i c hb
  obtain ⟨e, sl', S', hk, hl, hc⟩ := evC_ok hC hT hcall hm fuel _ _ _ _ _ _ h
  have fin : ∀ (vs : List V) (v : V), resV C S' sl' fn.results.toList = some vs → (vs = [v] ∨ (v = .tup vs ∧ ∀ x, vs ≠ [x])) → (e = .normal ∨ e = .ret) → notBad v = true → FnRes P f args S v S' := by
    intro vs v hr hv he hnb
    refine ⟨hl, ?_⟩
    intro base w0 E w us R sim hargs hR
    refine calls_of_wp hf hb ?_
    have hsz : us.toArray.size = args.length := by simpa using hargs.length.symm
    have ha : SimA E (args ++ List.replicate (fn.ntmps - args.length) .un) { tmps := us.toArray ++ Array.replicate (fn.ntmps - us.toArray.size) undef, defers := [] } := by
      refine ⟨rfl, ?_⟩
      simp only [Array.toList_append, Array.toList_replicate, hsz]
      exact RepVs.append hargs (repVs_un _)
    refine hc base w0 E w _ _ sim ha ?_
    intro E' a' w' k1 k0 k2 k3
    have hall : vs.all (fun v => match v with | .bad => false | _ => true) = true := by
      rcases hv with rfl | ⟨rfl, _⟩
      · cases v <;> simp_all [notBad]
      · simpa [notBad] using hnb
    obtain ⟨us', r1, r2⟩ := resV_rep hC k2 k3 _ vs hr hall
    have hres : ∃ u, (results fn a'.tmps).run P w' = .ok u w' ∧ RepV E' v u := by
      have hlen := r1.length
      have hrun : (fn.results.mapM (m := Sem) fun | .tmp t => pure (a'.tmps.getD t undef) | .cell c t => do loadVar t (← asAddr (a'.tmps.getD c undef))).run P w' = .ok us'.toArray w' := by
        rw [Array.mapM_eq_mapM_toList, ← bind_pure_comp, Sem.run_bind, r2]
        rfl
      rcases hv with rfl | ⟨rfl, hne⟩
      · obtain ⟨u, rfl⟩ := List.length_eq_one_iff.1 (by rw [← hlen]; rfl : us'.length = 1)
        refine ⟨u, ?_, by simpa [RepVs] using r1⟩
        unfold results
        rw [Sem.run_bind]
        refine (congrArg (fun x => Result.andThen x _) hrun).trans ?_
        simp
      · refine ⟨.tuple us'.toArray, ?_, by simp only [RepV]; exact ⟨us', rfl, r1⟩⟩
        unfold results
        rw [Sem.run_bind]
        refine (congrArg (fun x => Result.andThen x _) hrun).trans ?_
        have : us'.toArray.size ≠ 1 := by
          intro h1
          obtain ⟨x, hx⟩ := List.length_eq_one_iff.1 (by rw [hlen]; simpa using h1 : vs.length = 1)
          exact hne x hx
        simp only [Result.andThen_ok, Sem.run_pure, this, dite_false]
    obtain ⟨u, h1, h2⟩ := hres
    rcases he with rfl | rfl
    · exact ⟨k3.defers, u, h1, hR E' u w' k1 k0 k2 h2⟩
    · exact ⟨k3.defers, u, h1, hR E' u w' k1 k0 k2 h2⟩
  have fin2 : (e = .normal ∨ e = .ret) → (match resV C S' sl' fn.results.toList with | some [v] => k v S' | some vs => k (.tup vs) S' | none => none) = some r → ∃ v S', k v S' = some r ∧ (notBad v = true → FnRes P f args S v S') := by
    intro he hk
    split at hk
    · rename_i v hr
      exact ⟨v, S', hk, fin _ v hr (.inl rfl) he⟩
    · rename_i vs hne hr
      exact ⟨.tup vs, S', hk, fin vs _ hr (.inr ⟨rfl, fun x hx => hne x (by rw [hx])⟩) he⟩
    · simp at hk
  cases e with
  | exit id => simp at hk
  | normal => exact fin2 (.inl rfl) hk
  | ret => exact fin2 (.inr rfl) hk
end
end Go.Proofs.Ytdhbelpejaobdaa.Ev
