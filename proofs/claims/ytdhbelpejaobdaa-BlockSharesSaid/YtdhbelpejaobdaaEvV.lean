/- The walker's way through a function's code. -/
import Derived.Test.YtdhbelpejaobdaaEvU
namespace Go.Proofs.Ytdhbelpejaobdaa.Ev
open Go Go.RowKit
set_option linter.unusedVariables false
set_option linter.unusedSimpArgs false

section
variable {R : Type} {P : Program} {C : Ctx} {tab : Tab} {call : CallH R}

/-- rounds of a loop -/
theorem loopN_ok [tI : Tst] {n : Nat} {live : List Nat} {c : Code} {body : List V → List Ent → (Ex → List V → List Ent → Option R) → Option R}
    (hbody : ∀ sl S k r, body sl S k = some r → ∃ e sl' S', k e sl' S' = some r ∧ CodeRes P c sl S e sl' S') {r : R} : ∀ (f : Nat) (sl : List V) (S : List Ent) (k : Ex → List V → List Ent → Option R), S.length = n → loopN n live body f sl S k = some r →
      ∃ e sl' S', k e sl' S' = some r ∧ S.length ≤ S'.length ∧ ∀ (base : Nat) (w0 : World) (E : Env) (w : World) (a : Act) (Q : Exit → Act → World → Prop), Sim base w0 E S w → SimA E sl a →
        (∀ E' a' w', E.Le E' → (∀ x, E'.live x → E.live x ∨ S.length ≤ x) → Sim base w0 E' S' w' → SimA E' sl' a' → Q e.to a' w') → Code.rounds P c Q f a w
  | 0, _, _, _, _, h => by simp [loopN] at h
  | f + 1, sl, S, k, hS, h => by
    rw [loopN] at h
    obtain ⟨e, sl1, S1, hk, hlen, hc⟩ := hbody _ _ _ _ h
    cases e with
    | normal =>
      simp only at hk
      rw [pickK_eq, truncK_eq] at hk
      have hl1 : (truncL n S1).length = n := truncL_len (by omega)
      obtain ⟨e2, sl2, S2, hk2, hlen2, hc2⟩ := loopN_ok hbody f _ _ k hl1 hk
      refine ⟨e2, sl2, S2, hk2, by omega, ?_⟩
      intro base w0 E w a Q sim ha hQ
      refine hc base w0 E w a _ sim ha ?_
      intro E' a' w' k1 k0 k2 k3
      simp only [Ex.to, Exit.then]
      refine hc2 base w0 (E'.cut n) w' a' Q (k2.cut n (by omega)) (k3.pick n live) ?_
      intro E2 a2 w2 l1 l0 l2 l3
      refine hQ E2 a2 w2 ((Env.le_cut k1 (fun o l => by have := sim.lt o l; omega)).trans l1) (fun x l => ?_) l2 l3
      rcases l0 x l with l | l
      · rcases k0 x l.1 with h | h
        · exact .inl h
        · exact .inr h
      · right; omega
    | exit id =>
      refine ⟨.exit id, sl1, S1, hk, hlen, ?_⟩
      intro base w0 E w a Q sim ha hQ
      exact hc base w0 E w a _ sim ha hQ
    | ret =>
      refine ⟨.ret, sl1, S1, hk, hlen, ?_⟩
      intro base w0 E w a Q sim ha hQ
      exact hc base w0 E w a _ sim ha hQ

theorem evC_ok [tI : Tst] (hC : RowsOK P C) (hT : TabOK P tab) (hcall : CallOK P call) (hm : P.follows .mixedOrders = true) (fuel : Nat) : ∀ (c : Code) (cur : Nat) (sl : List V) (S : List Ent) (k : Ex → List V → List Ent → Option R) (r : R),
    evC C tab call fuel cur c sl S k = some r → ∃ e sl' S', k e sl' S' = some r ∧ CodeRes P c sl S e sl' S' := by
  intro c
  induction c with
  | skip =>
    intro cur sl S k r h
    exact ⟨.normal, sl, S, by simpa [evC] using h, Nat.le_refl _, fun base w0 E w a Q sim ha hQ => wp_skip (hQ E a w (Env.Le.refl E) (fun _ l => .inl l) sim ha)⟩
  | label l =>
    intro cur sl S k r h
    exact ⟨.normal, sl, S, by simpa [evC] using h, Nat.le_refl _, fun base w0 E w a Q sim ha hQ => wp_label (hQ E a w (Env.Le.refl E) (fun _ l => .inl l) sim ha)⟩
  | region id ops draw =>
    intro cur sl S k r h
    obtain ⟨sl', S', h1, h2⟩ := region_ok hC hT hcall hm h
    exact ⟨.normal, sl', S', h1, h2⟩
  | seq x y ihx ihy =>
    intro cur sl S k r h
    simp only [evC] at h
    obtain ⟨e, sl1, S1, hk, hl, hc⟩ := ihx _ _ _ _ _ h
    cases e with
    | normal =>
      simp only [seqK] at hk
      obtain ⟨e2, sl2, S2, hk2, hl2, hc2⟩ := ihy _ _ _ _ _ hk
      refine ⟨e2, sl2, S2, hk2, Nat.le_trans hl hl2, ?_⟩
      intro base w0 E w a Q sim ha hQ
      refine wp_seq (hc base w0 E w a _ sim ha ?_)
      intro E' a' w' k1 k0 k2 k3
      exact hc2 base w0 E' w' a' Q k2 k3 (fun E2 a2 w2 l1 l0 l2 l3 => hQ E2 a2 w2 (k1.trans l1) (fun x l => (l0 x l).elim (k0 x) (fun h => .inr (Nat.le_trans hl h))) l2 l3)
    | exit id =>
      exact ⟨.exit id, sl1, S1, hk, hl, fun base w0 E w a Q sim ha hQ => wp_seq (hc base w0 E w a _ sim ha hQ)⟩
    | ret =>
      exact ⟨.ret, sl1, S1, hk, hl, fun base w0 E w a Q sim ha hQ => wp_seq (hc base w0 E w a _ sim ha hQ)⟩
  | cond c x y ihx ihy =>
    intro cur sl S k r h
    simp only [evC] at h
    split at h
    · rename_i b hb
      cases b with
      | true =>
        simp only [br] at h
        obtain ⟨e, sl1, S1, hk, hl, hc⟩ := ihx _ _ _ _ _ h
        refine ⟨e, sl1, S1, hk, hl, fun base w0 E w a Q sim ha hQ => wp_cond_true ?_ (hc base w0 E w a Q sim ha hQ)⟩
        have := ha.opd c
        rw [hb] at this
        exact rep_bool_iff.1 this
      | false =>
        simp only [br] at h
        obtain ⟨e, sl1, S1, hk, hl, hc⟩ := ihy _ _ _ _ _ h
        refine ⟨e, sl1, S1, hk, hl, fun base w0 E w a Q sim ha hQ => wp_cond_false ?_ (hc base w0 E w a Q sim ha hQ)⟩
        have := ha.opd c
        rw [hb] at this
        exact rep_bool_iff.1 this
    · simp at h
  | block id body ih =>
    intro cur sl S k r h
    simp only [evC] at h
    rw [lenK_eq, Nat.zero_add] at h
    obtain ⟨e, sl1, S1, hk, hl, hc⟩ := ih _ _ _ _ _ h
    have fin : ∀ (ex : Ex), (∀ Q a w, Exit.inBlock id Q ex.to a w = Q .normal a w) → e = ex → (pickK S.length (C.live id).2 0 sl1 fun sl => truncK S.length S1 fun S => k .normal sl S) = some r →
        ∃ e sl' S', k e sl' S' = some r ∧ CodeRes P (.block id body) sl S e sl' S' := by
      intro ex hex he hk
      subst he
      rw [pickK_eq, truncK_eq] at hk
      refine ⟨.normal, _, _, hk, by rw [truncL_len hl]; exact Nat.le_refl _, ?_⟩
      intro base w0 E w a Q sim ha hQ
      refine wp_block (hc base w0 E w a _ sim ha ?_)
      intro E' a' w' k1 k0 k2 k3
      rw [hex]
      exact hQ _ _ _ (Env.le_cut k1 sim.lt) (fun x l => k0 x l.1) (k2.cut S.length hl) (k3.pick _ _)
    cases e with
    | normal => exact fin .normal (fun _ _ _ => rfl) rfl hk
    | exit j =>
      simp only [blockK] at hk
      split at hk
      · rename_i hj
        exact fin (.exit j) (fun Q a w => by simp [Ex.to, Exit.inBlock, hj]) rfl hk
      · rename_i hj
        refine ⟨.exit j, sl1, S1, hk, hl, fun base w0 E w a Q sim ha hQ => wp_block (hc base w0 E w a _ sim ha ?_)⟩
        intro E' a' w' k1 k0 k2 k3
        simp only [Ex.to, Exit.inBlock, if_neg hj]
        exact hQ E' a' w' k1 k0 k2 k3
    | ret =>
      refine ⟨.ret, sl1, S1, hk, hl, fun base w0 E w a Q sim ha hQ => wp_block (hc base w0 E w a _ sim ha ?_)⟩
      intro E' a' w' k1 k0 k2 k3
      exact hQ E' a' w' k1 k0 k2 k3
  | loop body ih =>
    intro cur sl S k r h
    simp only [evC] at h
    rw [lenK_eq, Nat.zero_add, pickK_eq] at h
    obtain ⟨e, sl1, S1, hk, hl, hc⟩ := loopN_ok (P := P) (c := body) (fun sl S k r hb => ih _ _ _ _ _ hb) fuel _ S k rfl h
    refine ⟨e, sl1, S1, hk, hl, ?_⟩
    intro base w0 E w a Q sim ha hQ
    refine wp_loop_rounds fuel (hc base w0 (E.cut S.length) w a Q ?_ (ha.pick _ _) ?_)
    · exact { below := sim.below, base_le := sim.base_le, mem := sim.mem, old := sim.old, lt := fun o l => l.2, apart := sim.apart
              ents := fun o => by
                have h := sim.ents o
                cases he : ent S o with
                | gone => trivial
                | obj cs =>
                  rw [he] at h
                  obtain ⟨h1, h2, us, t, h3, h4, h5, h6⟩ := h
                  refine ⟨⟨h1, sim.lt o h1⟩, h2, us, t, h3, ?_, h5, h6⟩
                  have hle : E.Le (E.cut S.length) := Env.le_cut (Env.Le.refl E) sim.lt
                  exact RepVs.mono hle _ _ h4
                | row t xs => rw [he] at h; obtain ⟨h1, h2⟩ := h; exact ⟨⟨h1, sim.lt o h1⟩, h2⟩
                | fam m => rw [he] at h; obtain ⟨h1, h2, h3⟩ := h; exact ⟨⟨h1, sim.lt o h1⟩, h2, h3⟩
                | lit m => rw [he] at h; obtain ⟨⟨h1, h2, h3⟩, h4⟩ := h; exact ⟨⟨⟨h1, sim.lt o h1⟩, h2, h3⟩, h4⟩ }
    · intro E' a' w' k1 k0 k2 k3
      exact hQ E' a' w' ((Env.le_cut (Env.Le.refl E) sim.lt).trans k1) (fun x l => (k0 x l).imp_left fun h => h.1) k2 k3
  | exit id =>
    intro cur sl S k r h
    exact ⟨.exit id, sl, S, by simpa [evC] using h, Nat.le_refl _, fun base w0 E w a Q sim ha hQ => wp_exit (hQ E a w (Env.Le.refl E) (fun _ l => .inl l) sim ha)⟩
  | ret =>
    intro cur sl S k r h
    exact ⟨.ret, sl, S, by simpa [evC] using h, Nat.le_refl _, fun base w0 E w a Q sim ha hQ => wp_ret (hQ E a w (Env.Le.refl E) (fun _ l => .inl l) sim ha)⟩
  | _ => intro cur sl S k r h; simp [evC] at h
end
end Go.Proofs.Ytdhbelpejaobdaa.Ev
