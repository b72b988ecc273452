/- A region: what the walker tells of its operations in their order is a run of steps; where the order is left open every order comes to the same. -/
import Derived.Test.YtdhbelpejaobdaaEvQ
namespace Go.Proofs.Ytdhbelpejaobdaa.Ev
open Go Go.RowKit
set_option linter.unusedVariables false
set_option linter.unusedSimpArgs false

theorem setK_eq {R : Type} : ∀ (sl : List V) (n : Nat) (v : V) (k : List V → R), setK sl n v k = k (sl.set n v)
  | [], n, v, k => by simp [setK]
  | u :: sl, 0, v, k => by simp [setK]
  | u :: sl, n + 1, v, k => by rw [setK, setK_eq sl n v]; simp
theorem setE_eq {R : Type} : ∀ (S : List Ent) (n : Nat) (e : Ent) (k : List Ent → R), setE S n e k = k (S.set n e)
  | [], n, e, k => by simp [setE]
  | u :: S, 0, e, k => by simp [setE]
  | u :: S, n + 1, e, k => by rw [setE, setE_eq S n e]; simp
theorem setsE_eq [tI : Tst] {R : Type} : ∀ (us : List (Nat × Ent)) (S : List Ent) (k : List Ent → R), setsE S us k = k (sets S us)
  | [], S, k => by simp [setsE, sets]
  | (n, e) :: us, S, k => by rw [setsE, setE_eq, setsE_eq us]; rfl
theorem dstK_eq [tI : Tst] {R : Type} (dst : Option Tmp) (sl : List V) (v : V) (k : List V → Option R) : dstK dst sl v k = k (setAt sl dst v) := by
  cases dst with
  | none => rfl
  | some d => simp only [dstK, forceV_eq, setK_eq, setAt]
theorem set_look [tI : Tst] (sl : List V) (d : Nat) (v : V) (h : look sl d = v) (hb : v ≠ .bad) : sl.set d v = sl := by
  have hd : d < sl.length := by
    rcases Nat.lt_or_ge d sl.length with h' | h'
    · exact h'
    · exfalso; apply hb; rw [← h, look_eq, List.getD_eq_getElem?_getD, List.getElem?_eq_none h']; rfl
  rw [look_eq, List.getD_eq_getElem?_getD, List.getElem?_eq_getElem hd] at h
  simp only [Option.getD_some] at h
  rw [← h]
  exact List.set_getElem_self hd

section
variable {R : Type} {P : Program} {C : Ctx} {tab : Tab} {call : CallH R} {all : Array Oper}

inductive Run [tI : Tst] (P : Program) (C : Ctx) (tab : Tab) (all : Array Oper) (idOf : Nat → Nat) : List Nat → List V → List Ent → List Touch → List V → List Ent → Prop
  | nil (sl : List V) (S : List Ent) : Run P C tab all idOf [] sl S [] sl S
  | cons (i : Nat) (is : List Nat) (sl sl1 sl' : List V) (S S1 S' : List Ent) (t : Touch) (ts : List Touch) (h : Step P C tab all i (idOf i) sl S t sl1 S1) (r : Run P C tab all idOf is sl1 S1 ts sl' S') : Run P C tab all idOf (i :: is) sl S (t :: ts) sl' S'

theorem evOper_step [tI : Tst] (hcall : CallOK P call) {o : Oper} {i id : Nat} (ho : all[i]? = some o) {sl : List V} (hg : guardIs all o sl) {S : List Ent} {k : List V → List Ent → Option R} {r : R} (h : evOper C tab call o id sl S k = some r) :
    ∃ sl' S', Step P C tab all i id sl S (touch tab o (opd sl)) sl' S' ∧ k sl' S' = some r := by
  unfold evOper at h
  split at h
  · rename_i f as ts hop
    split at h
    · rename_i g fi cap hf
      cases htb : tab g with
      | some y =>
        rw [htb] at h
        simp only at h
        split at h
        · rename_i b v us ht
          cases b with
          | false => simp [br] at h
          | true =>
          simp only [br] at h
          rw [setsE_eq, dstK_eq] at h
          have htc : touch tab o (opd sl) = .new := by simp [touch, hop, hf, htb]
          exact ⟨_, _, by rw [htc]; exact .tab o ho hg f as ts hop g fi cap hf v us ht, h⟩
        · simp at h
      | none =>
        rw [htb] at h
        simp only at h
        obtain ⟨v, S', k1, k2⟩ := hcall _ _ _ _ _ _ h
        rw [dstK_eq] at k1
        have htc : touch tab o (opd sl) = .all := by simp [touch, hop, hf, htb]
        exact ⟨_, _, by rw [htc]; exact .call o ho hg f as ts hop g fi cap hf v S' k2, k1⟩
    · simp at h
  · simp at h
  · rename_i h1 h2
    split at h
    · rename_i g v us he
      cases g with
      | false => simp [br] at h
      | true =>
        simp only [br] at h
        rw [setsE_eq, dstK_eq] at h
        exact ⟨_, _, .op o ho hg ⟨fun f as ts hop => h1 f as ts hop, fun f m as ts hop => h2 f m as ts hop⟩ v us he, h⟩
    · simp at h

theorem evOps_run [tI : Tst] (hcall : CallOK P call) {idOf : Nat → Nat} (hidOf : ∀ i o, all[i]? = some o → idOf (i + 1) = idOf i + need C o) : ∀ (os : List Oper) (i : Nat) (sl : List V) (S : List Ent) (ts : List Touch) (k : List V → List Ent → List Touch → Option R) (r : R),
    os = all.toList.drop i → evOps C tab call all os (idOf i) sl S ts k = some r → ∃ ts' sl' S', Run P C tab all idOf (List.range' i os.length) sl S ts' sl' S' ∧ ts'.length = os.length ∧ k sl' S' (ts'.reverse ++ ts) = some r
  | [], i, sl, S, ts, k, r, _, h => ⟨[], sl, S, .nil _ _, rfl, by simpa [evOps] using h⟩
  | o :: os, i, sl, S, ts, k, r, hos, h => by
    have ho : all[i]? = some o := by
      have : (all.toList.drop i)[0]? = some o := by rw [← hos]; rfl
      rw [List.getElem?_drop] at this
      simpa using this
    have hos' : os = all.toList.drop (i + 1) := by
      have := congrArg (List.drop 1) hos
      simpa [List.drop_drop] using this
    have next : ∀ (t : Touch) (sl1 : List V) (S1 : List Ent), Step P C tab all i (idOf i) sl S t sl1 S1 → evOps C tab call all os (idOf (i + 1)) sl1 S1 (t :: ts) k = some r →
        ∃ ts' sl' S', Run P C tab all idOf (List.range' i (o :: os).length) sl S ts' sl' S' ∧ ts'.length = (o :: os).length ∧ k sl' S' (ts'.reverse ++ ts) = some r := by
      intro t sl1 S1 hst hr
      obtain ⟨ts', sl', S', k1, k2, k3⟩ := evOps_run hcall hidOf os (i + 1) sl1 S1 (t :: ts) k r hos' hr
      refine ⟨t :: ts', sl', S', ?_, by simp [k2], by simpa using k3⟩
      rw [List.length_cons, List.range'_succ]
      exact .cons i _ _ _ _ _ _ _ _ _ hst k1
    have runs : guardIs all o sl → (runK C tab call o (idOf i) sl S ts fun id sl S ts => evOps C tab call all os id sl S ts k) = some r →
        ∃ ts' sl' S', Run P C tab all idOf (List.range' i (o :: os).length) sl S ts' sl' S' ∧ ts'.length = (o :: os).length ∧ k sl' S' (ts'.reverse ++ ts) = some r := by
      intro hg hr
      unfold runK at hr
      obtain ⟨sl1, S1, hst, h2⟩ := evOper_step hcall ho hg hr
      rw [addK_eq, forceT_eq, ← hidOf i o ho] at h2
      exact next _ _ _ hst h2
    have skips : guardNot all o sl → (skipK C o (idOf i) sl S ts fun id sl S ts => evOps C tab call all os id sl S ts k) = some r →
        ∃ ts' sl' S', Run P C tab all idOf (List.range' i (o :: os).length) sl S ts' sl' S' ∧ ts'.length = (o :: os).length ∧ k sl' S' (ts'.reverse ++ ts) = some r := by
      intro hg hr
      unfold skipK at hr
      rw [dstK_eq, addK_eq, ← hidOf i o ho] at hr
      exact next _ _ _ (.skip o ho hg) hr
    simp only [evOps, stepK] at h
    cases hgd : o.guard with
    | none =>
      rw [hgd] at h
      exact runs (by simp [guardIs, hgd]) h
    | some gw =>
      obtain ⟨j, want⟩ := gw
      rw [hgd] at h
      simp only at h
      cases hd : (all[j]?).bind (·.dst) with
      | none => rw [hd] at h; simp at h
      | some d =>
        rw [hd] at h
        simp only at h
        split at h
        · rename_i x hx
          have key : ∀ b, x = b → sl.set d (.d .bo b) = sl := by
            rintro b rfl
            exact set_look sl d _ hx (by simp)
          cases want with
          | true =>
            simp only at h
            cases x with
            | true =>
              simp only [br] at h
              rw [setK_eq, key true rfl] at h
              exact runs (by simp only [guardIs, hgd]; exact ⟨d, hd, hx⟩) h
            | false =>
              simp only [br] at h
              rw [setK_eq, key false rfl] at h
              exact skips (by simp only [guardNot, hgd]; exact ⟨d, hd, .inl hx⟩) h
          | false =>
            simp only at h
            cases x with
            | true =>
              simp only [br] at h
              rw [setK_eq, key true rfl] at h
              exact skips (by simp only [guardNot, hgd]; exact ⟨d, hd, .inl hx⟩) h
            | false =>
              simp only [br] at h
              rw [setK_eq, key false rfl] at h
              exact runs (by simp only [guardIs, hgd]; exact ⟨d, hd, hx⟩) h
        · rename_i hx
          exact skips (by simp only [guardNot, hgd]; exact ⟨d, hd, .inr hx⟩) h
        · simp at h

theorem length_setAt (sl : List V) (dst : Option Tmp) (v : V) : (setAt sl dst v).length = sl.length := by cases dst <;> simp [setAt]
theorem Step.len [tI : Tst] {i id : Nat} {sl sl' : List V} {S S' : List Ent} {t : Touch} (h : Step P C tab all i id sl S t sl' S') (hT : TabOK P tab) : S'.length = S.length := by
  cases h with
  | skip => rfl
  | op _ _ _ _ v us => exact length_sets us S
  | tab _ _ _ _ _ _ _ _ _ _ _ v us => exact length_sets us S
  | call _ _ _ _ _ _ _ _ _ _ _ _ S' he => exact he.1

/-- ids of the entries that the operations to come may make: not there yet -/
def Fresh (C : Ctx) (all : Array Oper) (idOf : Nat → Nat) (is : List Nat) (E : Env) (S : List Ent) : Prop :=
  ∀ i ∈ is, ∀ o, all[i]? = some o → ∀ j, idOf i ≤ j → j < idOf i + need C o → ¬ E.live j ∧ j < S.length
def Apart (C : Ctx) (all : Array Oper) (idOf : Nat → Nat) : Prop := ∀ i i' o o', i ≠ i' → all[i]? = some o → all[i']? = some o' → ∀ x, idOf i ≤ x → x < idOf i + need C o → ¬ (idOf i' ≤ x ∧ x < idOf i' + need C o')
theorem Fresh.step {idOf : Nat → Nat} (hap : Apart C all idOf) {i : Nat} {is : List Nat} (hi : i ∉ is) {E E' : Env} {S S' : List Ent} (h : Fresh C all idOf (i :: is) E S) (hl : S'.length = S.length) (hib : ∃ o, all[i]? = some o)
    (hlive : ∀ o, all[i]? = some o → ∀ x, E'.live x → E.live x ∨ (idOf i ≤ x ∧ x < idOf i + need C o)) : Fresh C all idOf is E' S' := by
  intro j hj o ho x hx hx'
  have h1 := h j (List.mem_cons_of_mem _ hj) o ho x hx hx'
  refine ⟨fun l => ?_, by rw [hl]; exact h1.2⟩
  obtain ⟨o', ho'⟩ := hib
  rcases hlive o' ho' x l with l | l
  · exact h1.1 l
  · exact hap i j o' o (by rintro rfl; exact hi hj) ho' ho x l.1 l.2 ⟨hx, hx'⟩
theorem Step.idx [tI : Tst] {i id : Nat} {sl sl' : List V} {S S' : List Ent} {t : Touch} (h : Step P C tab all i id sl S t sl' S') : ∃ o, all[i]? = some o := by
  cases h with
  | skip o ho => exact ⟨o, ho⟩
  | op o ho => exact ⟨o, ho⟩
  | tab o ho => exact ⟨o, ho⟩
  | call o ho => exact ⟨o, ho⟩

theorem Run.wpOps [tI : Tst] (hC : RowsOK P C) (hT : TabOK P tab) {idOf : Nat → Nat} (hap : Apart C all idOf) {N : Nat} (hN : ∀ i, N ≤ idOf i) {Q : Exit → Act → World → Prop} {w0 : World} {base : Nat} : ∀ {is : List Nat} {sl sl' : List V} {S S' : List Ent} {ts : List Touch}, Run P C tab all idOf is sl S ts sl' S' → is.Nodup →
    ∀ {E : Env} {w : World} {a : Act}, Sim base w0 E S w → SimA E sl a → Fresh C all idOf is E S → (∀ E' a' w', E.Le E' → (∀ x, E'.live x → E.live x ∨ N ≤ x) → Sim base w0 E' S' w' → SimA E' sl' a' → Q .normal a' w') → wpOps P all Q is a w
  | [], _, _, _, _, _, .nil _ _, _, E, w, a, sim, ha, _, hQ => hQ E a w (Env.Le.refl E) (fun _ l => .inl l) sim ha
  | i :: is, _, _, _, _, _, .cons _ _ _ _ _ _ _ _ _ _ hst r, hnd, E, w, a, sim, ha, hf, hQ => by
    rw [wpOps_cons]
    rw [List.nodup_cons] at hnd
    refine hst.wp hC hT sim ha (hf i (List.mem_cons_self ..)) ?_
    intro E' a' w' k1 k2 k3 k4
    obtain ⟨o, ho⟩ := hst.idx
    exact Run.wpOps hC hT hap hN r hnd.2 k2 k3 (hf.step hap hnd.1 (hst.len hT) hst.idx k4) (fun E2 a2 w2 l1 l0 l2 l3 => hQ E2 a2 w2 (k1.trans l1) (fun x l => (l0 x l).elim (fun l => (k4 o ho x l).imp_right fun h => Nat.le_trans (hN i) h.1) .inr) l2 l3)
end
end Go.Proofs.Ytdhbelpejaobdaa.Ev
