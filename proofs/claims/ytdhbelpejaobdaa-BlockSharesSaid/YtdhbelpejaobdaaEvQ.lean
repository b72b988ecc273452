/- One operation of a region, as a step from slots and memory to slots and memory; and that the machine goes the same step. -/
import Derived.Test.YtdhbelpejaobdaaEvP
import Derived.Orders
namespace Go.Proofs.Ytdhbelpejaobdaa.Ev
open Go Go.RowKit
set_option linter.unusedVariables false
set_option linter.unusedSimpArgs false

/-- a call as an operation runs it -/
def Called (P : Program) (f : FuncId) (args : Array Value) (w : World) (R : Value → World → Prop) : Prop :=
  match (callFunc f args).run P w with
  | .ok (.value v) w' => R v w'
  | .ok (.enter g as) w' => Calls P g as w' fun e w'' => ∃ v, e = .returned v ∧ R v w''
  | _ => False
/-- what a call comes to, in whatever world -/
def CallRes (P : Program) (g : FuncId) (args : List V) (id : Nat) (S : List Ent) (v : V) (S' : List Ent) : Prop :=
  S'.length = S.length ∧ ∀ (base : Nat) (w0 : World) (E : Env) (w : World) (us : List Value), Sim base w0 E S w → RepVs E args us → ¬ E.live id ∧ id < S.length →
    Called P g us.toArray w fun u w' => ∃ E', E.Le E' ∧ Sim base w0 E' S' w' ∧ RepV E' v u ∧ ∀ o, E'.live o → E.live o ∨ o = id
/-- the walker's ways into calls tell the truth -/
def CallOK {R : Type} (P : Program) (call : CallH R) : Prop :=
  ∀ g args id S k r, call g args id S k = some r → ∃ v S', k v S' = some r ∧ CallRes P g args id S v S'
def TabOK (P : Program) (tab : Tab) : Prop :=
  ∀ g args id v us, tabV tab g args id = some (true, v, us) → ∀ S, CallRes P g args id S v (sets S us)

def setAt (sl : List V) (dst : Option Tmp) (v : V) : List V := match dst with | some d => sl.set d v | none => sl

def guardIs (all : Array Oper) (o : Oper) (sl : List V) : Prop :=
  match o.guard with
  | none => True
  | some (j, want) => ∃ d, (all[j]?).bind (·.dst) = some d ∧ look sl d = .d .bo want
def guardNot (all : Array Oper) (o : Oper) (sl : List V) : Prop :=
  match o.guard with
  | none => False
  | some (j, want) => ∃ d, (all[j]?).bind (·.dst) = some d ∧ (look sl d = .d .bo (!want) ∨ look sl d = .un)

def plainOp (o : Oper) : Prop := (∀ f as ts, o.op ≠ .call ⟨.value f, as, ts⟩) ∧ ∀ f m as ts, o.op ≠ .call ⟨.invoke f m, as, ts⟩

inductive Step [tI : Tst] (P : Program) (C : Ctx) (tab : Tab) (all : Array Oper) (i id : Nat) (sl : List V) (S : List Ent) : Touch → List V → List Ent → Prop
  | skip (o : Oper) (h : all[i]? = some o) (hg : guardNot all o sl) : Step P C tab all i id sl S .no (setAt sl o.dst .un) S
  | op (o : Oper) (h : all[i]? = some o) (hg : guardIs all o sl) (hp : plainOp o) (v : V) (us : List (Nat × Ent)) (he : evOp C o id (opd sl) S = some (true, v, us)) : Step P C tab all i id sl S (touch tab o (opd sl)) (setAt sl o.dst v) (sets S us)
  | tab (o : Oper) (h : all[i]? = some o) (hg : guardIs all o sl) (f : Operand) (as : Array Operand) (ts : Array TypeId) (ho : o.op = .call ⟨.value f, as, ts⟩) (g : FuncId) (fi cap : List V) (hf : opd sl f = .fn g fi cap) (v : V) (us : List (Nat × Ent))
      (he : tabV tab g (fi ++ as.toList.map (opd sl) ++ cap) id = some (true, v, us)) : Step P C tab all i id sl S .new (setAt sl o.dst v) (sets S us)
  | call (o : Oper) (h : all[i]? = some o) (hg : guardIs all o sl) (f : Operand) (as : Array Operand) (ts : Array TypeId) (ho : o.op = .call ⟨.value f, as, ts⟩) (g : FuncId) (fi cap : List V) (hf : opd sl f = .fn g fi cap) (v : V) (S' : List Ent)
      (he : CallRes P g (fi ++ as.toList.map (opd sl) ++ cap) id S v S') : Step P C tab all i id sl S .all (setAt sl o.dst v) S'

section
variable {P : Program} {C : Ctx} {tab : Tab} {E : Env} {w w0 : World} {base : Nat} {S : List Ent} {all : Array Oper}

theorem RepVs.set {E : Env} : ∀ {vs : List V} {us : List Value} (n : Nat) {v : V} {u : Value}, RepVs E vs us → RepV E v u → RepVs E (vs.set n v) (us.set n u)
  | [], [], _, _, _, _, _ => by simp [RepVs]
  | c :: cs, z :: us, 0, v, u, k, h => by simp only [RepVs, List.set_cons_zero] at k ⊢; exact ⟨h, k.2⟩
  | c :: cs, z :: us, n + 1, v, u, k, h => by simp only [RepVs, List.set_cons_succ] at k ⊢; exact ⟨k.1, RepVs.set n k.2 h⟩
  | [], _ :: _, _, _, _, k, _ => by simp [RepVs] at k
  | _ :: _, [], _, _, _, k, _ => by simp [RepVs] at k
theorem SimA.put [tI : Tst] {sl : List V} {a : Act} (h : SimA E sl a) {v : V} {u : Value} (hv : RepV E v u) (dst : Option Tmp) : SimA E (setAt sl dst v) (a.put dst u) := by
  cases dst with
  | none => exact h
  | some d => exact ⟨h.defers, by simp only [setAt, Act.put, Array.toList_setIfInBounds]; exact RepVs.set d h.rep hv⟩
theorem SimA.slot [tI : Tst] {sl : List V} {a : Act} (h : SimA E sl a) (d : Nat) {v : V} (hv : look sl d = v) (hb : v ≠ .bad) : ∃ u, a.tmps[d]? = some u ∧ RepV E v u := by
  by_cases hd : d < a.tmps.size
  · refine ⟨a.tmps[d], by simp [hd], ?_⟩
    rw [← hv]
    exact RepVs.get d h.rep (by simp [hd])
  · exfalso
    apply hb
    rw [← hv, look_eq, List.getD_eq_getElem?_getD, List.getElem?_eq_none (by rw [h.rep.length]; simpa using hd)]; rfl
theorem wanted_is [tI : Tst] {sl : List V} {a : Act} (h : SimA E sl a) {o : Oper} (hg : guardIs all o sl) : Region.wanted o (yielded all a.tmps) = true := by
  unfold guardIs at hg
  unfold Region.wanted
  cases hgd : o.guard with
  | none => rfl
  | some gw =>
    obtain ⟨j, want⟩ := gw
    rw [hgd] at hg
    obtain ⟨d, h1, h2⟩ := hg
    obtain ⟨u, h3, h4⟩ := h.slot d h2 (by simp)
    obtain rfl := rep_bool_iff.1 h4
    simp [yielded, h1, h3]
theorem wanted_not [tI : Tst] {sl : List V} {a : Act} (h : SimA E sl a) {o : Oper} (hg : guardNot all o sl) : Region.wanted o (yielded all a.tmps) = false := by
  unfold guardNot at hg
  unfold Region.wanted
  cases hgd : o.guard with
  | none => rw [hgd] at hg; exact hg.elim
  | some gw =>
    obtain ⟨j, want⟩ := gw
    rw [hgd] at hg
    obtain ⟨d, h1, h2 | h2⟩ := hg
    · obtain ⟨u, h3, h4⟩ := h.slot d h2 (by simp)
      obtain rfl := rep_bool_iff.1 h4
      simp [yielded, h1, h3]
    · obtain ⟨u, h3, h4⟩ := h.slot d h2 (by simp)
      simp only [RepV] at h4; subst h4
      simp [yielded, h1, h3, undef]

/-- the machine goes the same step -/
theorem Step.wp [tI : Tst] (hC : RowsOK P C) (hT : TabOK P tab) {i id : Nat} {sl sl' : List V} {S' : List Ent} {t : Touch} (st : Step P C tab all i id sl S t sl' S') (sim : Sim base w0 E S w) {a : Act} (ha : SimA E sl a)
    (hid : ∀ o, all[i]? = some o → ∀ j, id ≤ j → j < id + need C o → ¬ E.live j ∧ j < S.length) {Q : Exit → Act → World → Prop} {K : Act → World → Prop}
    (hK : ∀ E' a' w', E.Le E' → Sim base w0 E' S' w' → SimA E' sl' a' → (∀ o, all[i]? = some o → ∀ x, E'.live x → E.live x ∨ (id ≤ x ∧ x < id + need C o)) → K a' w') : wpOp P all Q i K a w := by
  have callCase : ∀ (o : Oper), all[i]? = some o → guardIs all o sl → ∀ (f : Operand) (as : Array Operand) (ts : Array TypeId), o.op = .call ⟨.value f, as, ts⟩ → ∀ (g : FuncId) (fi cap : List V), opd sl f = .fn g fi cap → ∀ (v : V), sl' = setAt sl o.dst v →
      CallRes P g (fi ++ as.toList.map (opd sl) ++ cap) id S v S' → wpOp P all Q i K a w := by
    intro o ho hg f as ts hop g fi cap hf v hsl hres
    have hneed : need C o = 1 := by simp [need, hop]
    have hidd := hid o ho
    rw [hneed] at hidd
    have hfr := ha.opd f
    rw [hf] at hfr
    simp only [RepV] at hfr
    obtain ⟨zs, cs, hfv, hzs, hcs⟩ := hfr
    have hargs : RepVs E (fi ++ as.toList.map (opd sl) ++ cap) (zs ++ as.toList.map a.eval ++ cs) := RepVs.append (RepVs.append hzs (repVs_map ha.opd _)) hcs
    have hcall := hres.2 base w0 E w _ sim hargs (hidd id (Nat.le_refl _) (by omega))
    unfold wpOp
    simp only [ho, wanted_is ha hg, if_true]
    left
    unfold Oper.wp
    have hex : (execOp a.eval o).run P w = (callFunc g (zs ++ as.toList.map a.eval ++ cs).toArray).run P w := by
      have : (zs.toArray ++ as.map a.eval ++ cs.toArray) = (zs ++ as.toList.map a.eval ++ cs).toArray := by apply Array.ext'; simp
      rw [← this]
      simp [execOp, hop, resolve, hfv, Deferred.ofValue, invoke]
    rw [hex]
    unfold Called at hcall
    have fin : ∀ u w', (∃ E', E.Le E' ∧ Sim base w0 E' S' w' ∧ RepV E' v u ∧ ∀ o, E'.live o → E.live o ∨ o = id) → K (a.put o.dst u) w' := by
      rintro u w' ⟨E', k1, k2, k3, k4⟩
      refine hK E' _ w' k1 k2 (by rw [hsl]; exact (ha.mono k1).put k3 _) ?_
      intro o' ho' x hx
      rw [ho] at ho'
      simp only [Option.some.injEq] at ho'; subst ho'
      rw [hneed]
      exact (k4 x hx).imp_right fun e => by omega
    split at hcall
    · rename_i u w' hr
      rw [hr]
      simp only [Oper.upon]
      exact fin u w' hcall
    · rename_i g' as' w' hr
      rw [hr]
      simp only [Oper.upon]
      refine Calls.mono hcall ?_
      rintro e w'' ⟨u, rfl, h⟩
      exact fin u w'' h
    · exact hcall.elim
  cases st with
  | skip o ho hg =>
    unfold wpOp
    simp only [ho, wanted_not ha hg, Bool.false_eq_true, if_false]
    exact hK E _ w (Env.Le.refl E) sim (ha.put (by simp [RepV]) _) (fun _ _ _ h => .inl h)
  | op o ho hg hp v us he =>
    obtain ⟨u, w', E', hr, k1, k2, k3, k4⟩ := op_ok (P := P) hC sim ha.opd he rfl (hid o ho)
    unfold wpOp
    simp only [ho, wanted_is ha hg, if_true]
    left
    have hlive : ∀ o', all[i]? = some o' → ∀ x, E'.live x → E.live x ∨ (id ≤ x ∧ x < id + need C o') := by
      intro o' ho' x hx
      rw [ho] at ho'
      simp only [Option.some.injEq] at ho'; subst ho'
      exact k4 x hx
    unfold Oper.wp
    rcases hr with hr | ⟨hr, rfl⟩
    · rw [hr]; exact hK E' _ w' k1 k2 ((ha.mono k1).put k3 _) hlive
    · rw [hr]; exact hK E' _ w' k1 k2 ((ha.mono k1).put k3 _) hlive
  | tab o ho hg f as ts hop g fi cap hf v us he => exact callCase o ho hg f as ts hop g fi cap hf v rfl (hT _ _ _ _ _ he S)
  | call o ho hg f as ts hop g fi cap hf v S' he => exact callCase o ho hg f as ts hop g fi cap hf v rfl he
end
end Go.Proofs.Ytdhbelpejaobdaa.Ev
