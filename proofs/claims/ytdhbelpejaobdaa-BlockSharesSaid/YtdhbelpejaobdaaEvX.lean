/- Calls by contract: a function that is called on data, by whom ever. -/
import Derived.Test.YtdhbelpejaobdaaEvW
namespace Go.Proofs.Ytdhbelpejaobdaa.Ev
open Go Go.RowKit
set_option linter.unusedVariables false
set_option linter.unusedSimpArgs false

def Env.of (m : Mem) : Env := ⟨m, fun _ => 0, fun _ => 0, fun _ => undef, fun _ => 0, fun _ => none, fun _ => False, m⟩
/-- what a call hands out: data, and slices of its own that nothing else lies in -/
def exportV1 [tI : Tst] (S : List Ent) : V → (V → Option V) → Option V
  | .d t x, k => k (.d t x)
  | .nils, k => k .nils
  | .un, k => k .un
  | .own o t xs, k => match ent S o with
    | .fam n => br (tst (n = List.length xs)) (k (.own 0 t xs)) none
    | .lit n => br (tst (n = List.length xs)) (k (.own 0 t xs)) none
    | _ => none
  | _, _ => none
def exportVs [tI : Tst] (S : List Ent) : List V → (List V → Option V) → Option V
  | [], k => k []
  | v :: vs, k => exportV1 S v fun v => exportVs S vs fun vs => k (v :: vs)
def exportV [tI : Tst] (S : List Ent) : V → Option V
  | .tup vs => exportVs S vs fun vs => some (.tup vs)
  | v => exportV1 S v some

/-- what stands for what is handed out -/
inductive Exp (S : List Ent) : V → V → Prop
  | d (t : Ty) (x : t.den) : Exp S (.d t x) (.d t x)
  | nils : Exp S .nils .nils
  | un : Exp S .un .un
  | own (o : Nat) (t : Ty) (xs : List t.den) (h : ent S o = .fam (List.length xs) ∨ ent S o = .lit (List.length xs)) : Exp S (.own o t xs) (.own 0 t xs)
inductive Exps (S : List Ent) : List V → List V → Prop
  | nil : Exps S [] []
  | cons (v v' : V) (vs vs' : List V) (h : Exp S v v') (hs : Exps S vs vs') : Exps S (v :: vs) (v' :: vs')
theorem exportV1_exp [tI : Tst] {S : List Ent} {v r : V} {k : V → Option V} (h : exportV1 S v k = some r) : ∃ v', Exp S v v' ∧ k v' = some r := by
  cases v with
  | d t x => exact ⟨_, .d t x, h⟩
  | nils => exact ⟨_, .nils, h⟩
  | un => exact ⟨_, .un, h⟩
  | own o t xs =>
    simp only [exportV1] at h
    split at h
    · rename_i n hn
      cases hb : tst (n = List.length xs) with
      | false => rw [hb] at h; simp [br] at h
      | true =>
        rw [br_t hb] at h
        have := tst_iff.1 hb
        subst this
        exact ⟨_, .own o t xs (.inl hn), h⟩
    · rename_i n hn
      cases hb : tst (n = List.length xs) with
      | false => rw [hb] at h; simp [br] at h
      | true =>
        rw [br_t hb] at h
        have := tst_iff.1 hb
        subst this
        exact ⟨_, .own o t xs (.inr hn), h⟩
    · simp at h
  | _ => simp [exportV1] at h
theorem exportVs_exp [tI : Tst] {S : List Ent} : ∀ {vs : List V} {r : V} {k : List V → Option V}, exportVs S vs k = some r → ∃ vs', Exps S vs vs' ∧ k vs' = some r
  | [], _, _, h => ⟨[], .nil, h⟩
  | v :: vs, r, k, h => by
    rw [exportVs] at h
    obtain ⟨v', h1, h2⟩ := exportV1_exp h
    obtain ⟨vs', h3, h4⟩ := exportVs_exp h2
    exact ⟨v' :: vs', .cons _ _ _ _ h1 h3, h4⟩
theorem exportV_exp [tI : Tst] {S : List Ent} {v r : V} (h : exportV S v = some r) : (∃ vs vs', v = .tup vs ∧ r = .tup vs' ∧ Exps S vs vs') ∨ Exp S v r := by
  unfold exportV at h
  split at h
  · rename_i vs
    obtain ⟨vs', h1, h2⟩ := exportVs_exp h
    simp only [Option.some.injEq] at h2
    exact .inl ⟨vs, vs', rfl, h2.symm, h1⟩
  · obtain ⟨v', h1, h2⟩ := exportV1_exp h
    simp only [Option.some.injEq] at h2; subst h2
    exact .inr h1
theorem exps_notBad {S : List Ent} : ∀ {vs vs' : List V}, Exps S vs vs' → vs.all (fun v => match v with | .bad => false | _ => true) = true
  | [], _, _ => rfl
  | v :: vs, _, .cons _ _ _ _ h hs => by
    rw [List.all_cons, exps_notBad hs]
    cases h <;> rfl
theorem export_notBad [tI : Tst] {S : List Ent} {v r : V} (h : exportV S v = some r) : notBad v = true := by
  rcases exportV_exp h with ⟨vs, vs', rfl, rfl, hs⟩ | hs
  · exact exps_notBad hs
  · cases hs <;> rfl

/-- a call of a function on data, from whatever world -/
def FarRes [tI : Tst] (P : Program) (g : FuncId) (xs : List V) (v : V) : Prop :=
  ∀ (m : Mem) (w : World) (us : List Value) (R : Ending → World → Prop), m.lies w → RepVs (Env.of m) xs us →
    (∀ E' S' v' u w', (Env.of m).Le E' → Sim w.heap.size w E' S' w' → RepV E' v' u → exportV S' v' = some v → R (.returned u) w') → Calls P g us.toArray w R

section
variable {R : Type} {P : Program} {C : Ctx} {tab : Tab} {call : CallH V}
theorem sim_start {m : Mem} {w : World} (hm : m.lies w) : Sim w.heap.size w (Env.of m) [] w where
  below := Below.refl _ _
  base_le := Nat.le_refl _
  mem := hm
  ents o := by simp [ent, EntOK]
  apart o o' B _ h := by simp [ent, owns] at h
  lt o l := l.elim
  old _ _ _ := rfl

theorem far_fn [tI : Tst] (hC : RowsOK P C) (hT : TabOK P tab) (hcall : CallOK P call) (hm : P.follows .mixedOrders = true) (fuel : Nat) {f : FuncId} {fn : Func} (hf : P.funcs[f]? = some fn) {args : List V} {v : V}
    (h : evFn C tab call fuel fn args [] (fun v S => exportV S v) = some v) : FarRes P f args v := by
  obtain ⟨v', S', h1, h2⟩ := fn_ok hC hT hcall hm fuel hf h
  have h3 := h2 (export_notBad h1)
  intro m w us R hl hr hR
  refine h3.2 w.heap.size w (Env.of m) w us R (sim_start hl) hr ?_
  intro E' u w' k1 k0 k2 k3
  exact hR E' S' v' u w' k1 k2 k3 h1
end

/-! ### seen by the caller -/
def Env.imp (E E' : Env) (id o : Nat) : Env := (E.setM E'.m).add id (E'.blk o) (E'.sz o) (E'.plc o) (E'.len o) (E'.ex o)

theorem RepD.of_own {E : Env} {o : Nat} {t : Ty} {xs : List t.den} {u : Value} (h : RepV E (.own o t xs) u) : RepD E.m (.li t) xs u := by simp only [RepV] at h; exact h.1

/-- as data alone -/
theorem rest_rep [tI : Tst] {E E' : Env} (hm : E.m = E'.m) {S : List Ent} : ∀ {vs vs' : List V} {us : List Value}, Exps S vs vs' → RepVs E' vs us → RepVs E (importV.rest vs') us
  | _, _, [], .nil, _ => by simp [importV.rest, RepVs]
  | _, _, u :: us, .cons v v' vs vs' h hs, hr => by
    simp only [RepVs] at hr
    have ih := rest_rep hm hs hr.2
    cases h with
    | d t x => simp only [importV.rest, RepVs]; refine ⟨?_, ih⟩; have := hr.1; simp only [RepV] at this ⊢; rw [hm]; exact this
    | nils => simp only [importV.rest, RepVs]; refine ⟨?_, ih⟩; have := hr.1; simp only [RepV] at this ⊢; exact this
    | un => simp only [importV.rest, RepVs]; refine ⟨?_, ih⟩; have := hr.1; simp only [RepV] at this ⊢; exact this
    | own o t xs ho => simp only [importV.rest, RepVs]; refine ⟨?_, ih⟩; have := RepD.of_own hr.1; simp only [RepV]; rw [hm]; exact this
  | _, _, [], .cons _ _ _ _ _ _, hr => by simp [RepVs] at hr
  | _, _, _ :: _, .nil, hr => by simp [RepVs] at hr

theorem go_rep [tI : Tst] {E E' : Env} (id : Nat) {S : List Ent} : ∀ {vs vs' : List V} {us : List Value}, Exps S vs vs' → RepVs E' vs us →
    ((importV.go id vs').2 = none ∧ ∀ E2 : Env, E2.m = E'.m → RepVs E2 (importV.go id vs').1 us) ∨
    (∃ o n t, (ent S o = .fam n ∨ ent S o = .lit n) ∧ (importV.go id vs').2 = some n ∧ E'.live o ∧ E'.sz o = Ty.size t ∧ RepVs (E.imp E' id o) (importV.go id vs').1 us)
  | _, _, [], .nil, _ => .inl ⟨rfl, fun _ _ => by simp [importV.go, RepVs]⟩
  | _, _, u :: us, .cons v v' vs vs' h hs, hr => by
    simp only [RepVs] at hr
    have ih := go_rep (E := E) id hs hr.2
    have plain : ∀ (hd : ∀ E2 : Env, E2.m = E'.m → RepV E2 v' u), ((importV.go id vs').2 = none ∧ ∀ E2 : Env, E2.m = E'.m → RepVs E2 (v' :: (importV.go id vs').1) (u :: us)) ∨
        (∃ o n t, (ent S o = .fam n ∨ ent S o = .lit n) ∧ (importV.go id vs').2 = some n ∧ E'.live o ∧ E'.sz o = Ty.size t ∧ RepVs (E.imp E' id o) (v' :: (importV.go id vs').1) (u :: us)) := by
      intro hd
      rcases ih with ⟨h1, h2⟩ | ⟨o, n, t, h1, h2, h3, h4, h5⟩
      · exact .inl ⟨h1, fun E2 hE => by simp only [RepVs]; exact ⟨hd E2 hE, h2 E2 hE⟩⟩
      · exact .inr ⟨o, n, t, h1, h2, h3, h4, by simp only [RepVs]; exact ⟨hd _ rfl, h5⟩⟩
    cases h with
    | d t x => exact plain (fun E2 hE => by have := hr.1; simp only [RepV] at this ⊢; rw [hE]; exact this)
    | nils => exact plain (fun E2 hE => by have := hr.1; simp only [RepV] at this ⊢; exact this)
    | un => exact plain (fun E2 hE => by have := hr.1; simp only [RepV] at this ⊢; exact this)
    | own o t xs ho =>
      have h1 := hr.1
      simp only [RepV] at h1
      refine .inr ⟨o, _, t, ho, rfl, h1.2.1, h1.2.2.1, ?_⟩
      simp only [importV.go, RepVs]
      refine ⟨?_, rest_rep (E := E.imp E' id o) (E' := E') rfl hs hr.2⟩
      simp only [RepV, Env.imp, Env.add, Env.setM, if_true]
      exact ⟨h1.1, .inl trivial, h1.2.2⟩
  | _, _, [], .cons _ _ _ _ _ _, hr => by simp [RepVs] at hr
  | _, _, _ :: _, .nil, hr => by simp [RepVs] at hr

theorem import_rep [tI : Tst] {E E' : Env} (id : Nat) {S : List Ent} {v v' : V} {u : Value} (h : exportV S v = some v') (hr : RepV E' v u) :
    ((importV id v').2 = none ∧ ∀ E2 : Env, E2.m = E'.m → RepV E2 (importV id v').1 u) ∨
    (∃ o n, (ent S o = .fam n ∨ ent S o = .lit n) ∧ (importV id v').2 = some n ∧ RepV (E.imp E' id o) (importV id v').1 u) := by
  rcases exportV_exp h with ⟨vs, vs', rfl, rfl, hs⟩ | hs
  · simp only [RepV] at hr
    obtain ⟨us, rfl, hr⟩ := hr
    rcases go_rep (E := E) id hs hr with ⟨h1, h2⟩ | ⟨o, n, t, h1, h2, h3, h4, h5⟩
    · exact .inl ⟨h1, fun E2 hE => by simp only [importV, RepV]; exact ⟨us, rfl, h2 E2 hE⟩⟩
    · exact .inr ⟨o, n, h1, h2, by simp only [importV, RepV]; exact ⟨us, rfl, h5⟩⟩
  · cases hs with
    | d t x => exact .inl ⟨rfl, fun E2 hE => by simp only [importV, RepV] at hr ⊢; rw [hE]; exact hr⟩
    | nils => exact .inl ⟨rfl, fun E2 hE => by simp only [importV, RepV] at hr ⊢; exact hr⟩
    | un => exact .inl ⟨rfl, fun E2 hE => by simp only [importV, RepV] at hr ⊢; exact hr⟩
    | own o t xs ho =>
      simp only [RepV] at hr
      refine .inr ⟨o, _, ho, rfl, ?_⟩
      simp only [importV, RepV, Env.imp, Env.add, Env.setM, if_true]
      exact ⟨hr.1, .inl trivial, hr.2.2⟩

theorem asT_d [tI : Tst] {E : Env} {t : Ty} {v : V} {u : Value} {x : t.den} (h : asT t v = some x) (r : RepV E v u) : RepV E (.d t x) u := by
  have one : ∀ (ht : t.agg = false), RepV E (.d t x) u := fun ht => by
    simp only [RepV]
    exact ⟨[u], asT_one ht h r, by rw [ht]; rfl⟩
  have cell : ∀ {v : V}, cellT t v = some x → (∀ s y, v ≠ .d s y) → t.agg = false := by
    intro v h hv
    cases v with
    | d s y => exact absurd rfl (hv s y)
    | own o s ys => simp only [cellT] at h; obtain ⟨rfl, -⟩ := cast_rep h; rfl
    | nn s ys => simp only [cellT] at h; obtain ⟨rfl, -⟩ := cast_rep h; rfl
    | nils => cases t <;> simp [cellT] at h <;> rfl
    | _ => simp [cellT] at h
  cases v with
  | d s y =>
    simp only [asT] at h
    obtain ⟨rfl, rfl⟩ := cast_rep h
    exact r
  | agg cs =>
    simp only [asT] at h
    split at h
    · rename_i ht
      have h' : asT t (.agg cs) = some x := by simp only [asT, if_pos ht]; exact h
      obtain ⟨zs, k1, k2⟩ := asT_rep h' r
      simp only [RepV] at r ⊢
      obtain ⟨us, rfl, -, -⟩ := r
      simp only [Value.cells] at k1
      have : us = zs := by simpa using congrArg Array.toList k1
      subst this
      exact ⟨us, k2, by rw [ht]; rfl⟩
    · simp at h
  | _ => exact one (cell (by simpa only [asT] using h) (by intro s y; simp))

theorem argsV_rep [tI : Tst] {E : Env} : ∀ {ts : List Ty} {vs xs : List V} {us : List Value}, argsV ts vs = some xs → RepVs E vs us → RepVs E xs us ∧ ∀ E2 : Env, E2.m = E.m → RepVs E2 xs us
  | [], [], _, us, h, hr => by
    simp only [argsV, Option.some.injEq] at h; subst h
    cases us with
    | nil => simp [RepVs]
    | cons _ _ => simp [RepVs] at hr
  | t :: ts, v :: vs, _, u :: us, h, hr => by
    rw [argsV] at h
    simp only [RepVs] at hr
    cases hx : asT t v with
    | none => rw [hx] at h; simp at h
    | some x =>
      rw [hx] at h
      simp only [Option.bind_some] at h
      cases hy : argsV ts vs with
      | none => rw [hy] at h; simp at h
      | some ys =>
        rw [hy] at h
        simp only [Option.map_some, Option.some.injEq] at h; subst h
        obtain ⟨k1, k2⟩ := argsV_rep hy hr.2
        have hd := asT_d hx hr.1
        simp only [RepVs]
        refine ⟨⟨hd, k1⟩, fun E2 hE => ⟨?_, k2 E2 hE⟩⟩
        simp only [RepV] at hd ⊢
        rw [hE]; exact hd
  | _ :: _, _ :: _, _, [], _, hr => by simp [RepVs] at hr
  | [], _ :: _, _, _, h, _ => by simp [argsV] at h
  | _ :: _, [], _, _, h, _ => by simp [argsV] at h

/-- a call that the machine answers itself, with data and at once -/
def ExtRes (P : Program) (g : FuncId) (xs : List V) (v : V) : Prop :=
  (∀ id, importV id v = (v, none)) ∧ ∀ (m : Mem) (w : World) (us : List Value), m.lies w → RepVs (Env.of m) xs us →
    ∃ u, (callFunc g us.toArray).run P w = .ok (.value u) w ∧ ∀ E : Env, E.m = m → RepV E v u
/-- the table's contracts hold -/
def TabFar [tI : Tst] (P : Program) (tab : Tab) : Prop :=
  ∀ g ts F, tab g = some (ts, F) → ∀ vs xs v, argsV ts vs = some xs → F xs = some (true, v) →
    ((∃ fn, P.funcs[g]? = some fn ∧ (fn.name == "runtime.NumGoroutine") = false ∧ fn.body.isNone = false) ∧ FarRes P g xs v) ∨ ExtRes P g xs v

theorem tabFar_ok [tI : Tst] {P : Program} {tab : Tab} (h : TabFar P tab) : TabOK P tab := by
  intro g args id v us ht S
  unfold tabV at ht
  cases hg : tab g with
  | none => rw [hg] at ht; simp at ht
  | some y =>
    obtain ⟨ts, F⟩ := y
    rw [hg] at ht
    simp only at ht
    cases hx : argsV ts args with
    | none => rw [hx] at ht; simp at ht
    | some xs =>
      rw [hx] at ht
      simp only [Option.bind_some] at ht
      cases hF : F xs with
      | none => rw [hF] at ht; simp at ht
      | some v0 =>
        obtain ⟨b0, v0⟩ := v0
        rw [hF] at ht
        simp only [Option.map_some, Option.some.injEq, Prod.mk.injEq] at ht
        obtain ⟨rfl, rfl, rfl⟩ := ht
        rcases h g ts F hg _ _ _ hx hF with hl | hr
        rotate_left
        · rw [hr.1 id]
          refine ⟨rfl, ?_⟩
          intro base w0 E w us sim hargs hid
          obtain ⟨u, h1, h2⟩ := hr.2 E.m w us sim.mem ((argsV_rep hx hargs).2 _ rfl)
          unfold Called
          rw [h1]
          exact ⟨E, Env.Le.refl _, sim, h2 E rfl, fun _ l => .inl l⟩
        obtain ⟨⟨fn, hfn, hn, hb⟩, hfar⟩ := hl
        refine ⟨length_sets _ _, ?_⟩
        intro base w0 E w us sim hargs hid
        unfold Called
        have hrun : (callFunc g us.toArray).run P w = .ok (.enter g us.toArray) w := by
          have hn' : fn.name ≠ "runtime.NumGoroutine" := by simpa using hn
          have hb' : fn.body ≠ none := by intro e; rw [e] at hb; simp at hb
          simp [callFunc, hfn, hn', hb']
        rw [hrun]
        refine hfar E.m w us _ sim.mem ((argsV_rep hx hargs).2 _ rfl) ?_
        intro E' S' v' u w' k1 k2 k3 k4
        refine ⟨u, rfl, ?_⟩
        have hold : ∀ b, b < w.heap.size → ∀ j, E'.m b j = E.m b j := fun b hb j => by rw [k2.old b hb j, k1.m0]; rfl
        have hbel : Below base w w' := ⟨k2.below.os, k2.below.tape, k2.below.output, k2.below.size, fun k hk => k2.below.block k (Nat.lt_of_lt_of_le hk sim.base_le)⟩
        have hblk : ∀ o B, owns E o (ent S o) = some B → w'.heap[B]? = w.heap[B]? ∧ ∀ j, E'.m B j = E.m B j := fun o B hB => ⟨k2.below.block B (owns_lt sim hB).2, hold B (owns_lt sim hB).2⟩
        rcases import_rep (E := E) id k4 k3 with ⟨hi, hr⟩ | ⟨o, n, ho, hi, hr⟩
        · rw [hi]
          refine ⟨E.setM E'.m, Env.le_setM k1.m, ?_, hr _ rfl, fun _ l => .inl l⟩
          refine sim.step (Env.le_setM k1.m) hbel (fun _ => False) (fun _ _ => ⟨rfl, fun _ => ⟨rfl, rfl⟩⟩) (fun o B _ hB => hblk o B hB) k2.mem (fun _ h => h.elim) (fun _ _ h => h.elim) (fun _ _ _ h => h.elim) sim.lt (fun b hb j => hold b (Nat.lt_of_lt_of_le hb sim.base_le) j)
        · rw [hi]
          simp only [sets]
          have hm1 : E.m.le E'.m := k1.m
          have hle : E.Le (E.imp E' id o) := (Env.le_setM hm1).trans (Env.le_add (E := E.setM E'.m) hid.1 _ _ _ _ _)
          refine ⟨E.imp E' id o, hle, ?_, hr, fun x l => l.elim (fun h => .inr h) (fun h => .inl h)⟩
          have he := k2.ents o
          obtain ⟨f1, f2, f3⟩ : E'.live o ∧ n = E'.len o ∧ FamOK E' w.heap.size w' o := by
            rcases ho with ho | ho
            · rw [ho] at he; exact he
            · rw [ho] at he; exact he.1
          refine sim.step hle hbel (fun i => i = id) ?_ (fun o B _ hB => hblk o B hB) k2.mem ?_ ?_ ?_ ?_ (fun b hb j => hold b (Nat.lt_of_lt_of_le hb sim.base_le) j)
          · intro i hi
            exact ⟨ent_set_ne _ hi, fun _ => ⟨if_neg (h := instDecidableEqNat i id) hi, if_neg (h := instDecidableEqNat i id) hi⟩⟩
          · rintro i rfl
            rw [ent_set_same _ hid.2]
            refine ⟨.inl rfl, by simp [Env.imp, Env.add, f2], ?_⟩
            unfold FamOK at f3 ⊢
            simp only [Env.imp, Env.add, Env.setM, if_true]
            cases hx : E'.ex o with
            | none => rw [hx] at f3; exact f3
            | some g =>
              rw [hx] at f3
              obtain ⟨cap, cur, e, q1, q2, q3⟩ := f3
              exact ⟨cap, cur, e, q1, Nat.le_trans sim.base_le q2, q3⟩
          · rintro i B rfl hB i' hi' hB'
            rw [ent_set_same _ hid.2] at hB
            simp only [owns, Env.imp, Env.add, if_true] at hB
            unfold FamOK at f3
            rw [hB] at f3
            obtain ⟨cap, cur, e, q1, q2, q3⟩ := f3
            have := (owns_lt sim hB').2
            omega
          · rintro i i' B rfl rfl hne; exact absurd rfl hne
          · rintro i (rfl | l)
            · rw [List.length_set]; exact hid.2
            · rw [List.length_set]; exact sim.lt _ l
end Go.Proofs.Ytdhbelpejaobdaa.Ev
