/- Contracts on data of given kinds: what is told of the arguments, where they are such; functions that the machine answers itself. -/
import Derived.Test.YtdhbelpejaobdaaEvAuto
namespace Go.Proofs.Ytdhbelpejaobdaa.Ev
open Go Go.RowKit
set_option linter.unusedVariables false
set_option linter.unusedSimpArgs false
set_option maxRecDepth 100000

theorem dec_ex (p : Prop) [Decidable p] : Nonempty {b : Bool // b = decide p} := ⟨⟨_, rfl⟩⟩
/-- a test that nothing goes into, the kernel neither -/
@[irreducible] noncomputable def tstS (p : Prop) [Decidable p] : Bool := (Classical.choice (dec_ex p)).1
noncomputable instance slowT : Tst := ⟨tstS, fun p _ => by unfold tstS; exact (Classical.choice (dec_ex p)).2⟩
@[reducible] def fastT : Tst := ⟨fun p _ => decide p, fun _ _ => rfl⟩
abbrev by8 : Ty := .it .u8
@[reducible] def dens : List Ty → Type
  | [] => Unit
  | t :: ts => t.den × dens ts
def ofDens : (ts : List Ty) → dens ts → List V
  | [], _ => []
  | t :: ts, x => .d t x.1 :: ofDens ts x.2
def toDens {R : Type} : (ts : List Ty) → List V → (dens ts → Option R) → Option R
  | [], [], k => k ()
  | t :: ts, .d s x :: vs, k => match cast? s t x with
    | some y => toDens ts vs fun ys => k (y, ys)
    | none => none
  | _, _, _ => none
def FitsD : (ts : List Ty) → dens ts → Prop
  | [], _ => True
  | t :: ts, x => Fits t x.1 ∧ FitsD ts x.2
/-- what a function tells: of which kinds of data, where, and what -/
structure Sp where
  ts : List Ty
  pre : dens ts → Bool
  res : dens ts → V
def Sp.F (s : Sp) (xs : List V) : Option (Bool × V) := toDens s.ts xs fun x => some (s.pre x, s.res x)
abbrev Sp.ent (s : Sp) : Option (List Ty × (List V → Option (Bool × V))) := some (s.ts, s.F)
noncomputable abbrev inl {R : Type} (T : Tab) (F d : Nat) : CallH R := inlH ctxOf T F fnOf d
def Sp.Ok (s : Sp) (T : Tab) (C : Ctx) (fn : Func) : Prop :=
  ∀ x : dens s.ts, FitsD s.ts x → s.pre x = true → ∃ F d, evFn C T (inl T F d) F fn (ofDens s.ts x) [] (fun v S => exportV S v) = some (s.res x)

theorem toDens_some {R : Type} : ∀ {ts : List Ty} {xs : List V} {k : dens ts → Option R} {v : R}, toDens ts xs k = some v → ∃ x, xs = ofDens ts x ∧ k x = some v
  | [], [], k, v, h => ⟨(), rfl, h⟩
  | t :: ts, .d s x :: vs, k, v, h => by
    rw [toDens] at h
    split at h
    · rename_i y hy
      obtain ⟨ys, rfl, h2⟩ := toDens_some h
      unfold cast? at hy
      split at hy
      · rename_i he; subst he
        simp only [Option.some.injEq] at hy
        subst hy
        exact ⟨(x, ys), rfl, h2⟩
      · simp at hy
    · simp at h
  | [], _ :: _, _, _, h => by simp [toDens] at h
  | _ :: _, [], _, _, h => by simp [toDens] at h
  | _ :: _, .bad :: _, _, _, h => by simp [toDens] at h
  | _ :: _, .un :: _, _, _, h => by simp [toDens] at h
  | _ :: _, .nils :: _, _, _, h => by simp [toDens] at h
  | _ :: _, .own .. :: _, _, _, h => by simp [toDens] at h
  | _ :: _, .p .. :: _, _, _, h => by simp [toDens] at h
  | _ :: _, .ro .. :: _, _, _, h => by simp [toDens] at h
  | _ :: _, .sr .. :: _, _, _, h => by simp [toDens] at h
  | _ :: _, .pr .. :: _, _, _, h => by simp [toDens] at h
  | _ :: _, .agg .. :: _, _, _, h => by simp [toDens] at h
  | _ :: _, .tup .. :: _, _, _, h => by simp [toDens] at h
  | _ :: _, .fn .. :: _, _, _, h => by simp [toDens] at h
  | _ :: _, .nn .. :: _, _, _, h => by simp [toDens] at h
  | _ :: _, .ifc .. :: _, _, _, h => by simp [toDens] at h
theorem fitsD_of : ∀ {ts : List Ty} {x : dens ts}, FitsV (ofDens ts x) → FitsD ts x
  | [], _, _ => trivial
  | t :: ts, x, h => ⟨h.1, fitsD_of h.2⟩
/-- a contract more -/
theorem add_ok {T : Tab} {g : FuncId} {C : Ctx} {fn : Func} (s : Sp) (hT : TabFar Try.prog T) (hC : RowsOK Try.prog C) (hf : Try.prog.funcs[g]? = some fn) (hn : (fn.name == "runtime.NumGoroutine") = false) (hb : fn.body.isNone = false)
    (h : s.Ok T C fn) : TabFar Try.prog (tabAdd T g s.ts s.F) := by
  intro i ts' F' hi
  unfold tabAdd at hi
  split at hi
  · rename_i he
    obtain rfl := Nat.eq_of_beq_eq_true he
    simp only [Option.some.injEq, Prod.mk.injEq] at hi
    obtain ⟨rfl, rfl⟩ := hi
    intro vs xs v h1 h2
    refine .inl ⟨⟨fn, hf, hn, hb⟩, ?_⟩
    intro m w us R hl hr hR
    obtain ⟨x, rfl, h3⟩ := toDens_some h2
    obtain ⟨h4, rfl⟩ := Prod.mk.inj (Option.some.inj h3)
    obtain ⟨F, d, h5⟩ := h x (fitsD_of (argsV_fits h1 hr)) h4
    exact far_fn hC (tabFar_ok hT) (inl_ok (fun _ => rows_ok _) (tabFar_ok hT) mixed fnsOK d) mixed F hf h5 m w us R hl hr hR
  · exact hT i ts' F' hi
/-- what is handed out, all of it as data -/
def exportW1 : V → (V → Option V) → Option V
  | .d t x, k => k (.d t x)
  | .own _ t xs, k => k (.d (.li t) xs)
  | .un, k => k .un
  | _, _ => none
def exportWs : List V → (List V → Option V) → Option V
  | [], k => k []
  | v :: vs, k => exportW1 v fun v => exportWs vs fun vs => k (v :: vs)
def exportW : V → Option V
  | .tup vs => exportWs vs fun vs => some (.tup vs)
  | v => exportW1 v some
theorem exportW1_rep {v r : V} {k : V → Option V} (h : exportW1 v k = some r) : ∃ v', k v' = some r ∧ (∀ S j, exportV1 S v' j = j v') ∧ (∀ E u, RepV E v u → RepV E v' u) ∧ (∀ vs, v' ≠ .tup vs) := by
  cases v with
  | d t x => exact ⟨_, h, fun _ _ => rfl, fun _ _ h => h, fun _ => by simp⟩
  | own o t xs => exact ⟨_, h, fun _ _ => rfl, fun _ _ h => by simp only [RepV] at h ⊢; exact h.1, fun _ => by simp⟩
  | un => exact ⟨_, h, fun _ _ => rfl, fun _ _ h => h, fun _ => by simp⟩
  | _ => simp [exportW1] at h
theorem exportWs_rep : ∀ {vs : List V} {r : V} {k : List V → Option V}, exportWs vs k = some r → ∃ vs', k vs' = some r ∧ (∀ S j, exportVs S vs' j = j vs') ∧ ∀ E us, RepVs E vs us → RepVs E vs' us
  | [], _, _, h => ⟨[], h, fun _ _ => rfl, fun _ _ h => h⟩
  | v :: vs, r, k, h => by
    rw [exportWs] at h
    obtain ⟨v', h1, h2, h3, _⟩ := exportW1_rep h
    obtain ⟨vs', k1, k2, k3⟩ := exportWs_rep h1
    refine ⟨v' :: vs', k1, fun S j => by rw [exportVs, h2, k2], ?_⟩
    intro E us hr
    cases us with
    | nil => simp [RepVs] at hr
    | cons u us => simp only [RepVs] at hr ⊢; exact ⟨h3 E u hr.1, k3 E us hr.2⟩
theorem exportWs_notBad : ∀ {vs : List V} {r : V} {k : List V → Option V}, exportWs vs k = some r → vs.all (fun v => match v with | .bad => false | _ => true) = true
  | [], _, _, _ => rfl
  | v :: vs, r, k, h => by
    rw [exportWs] at h
    rw [List.all_cons]
    cases v with
    | d t x => exact exportWs_notBad (vs := vs) h
    | own o t xs => exact exportWs_notBad (vs := vs) h
    | un => exact exportWs_notBad (vs := vs) h
    | _ => simp [exportW1] at h
theorem exportW_rep {v r : V} (h : exportW v = some r) : notBad v = true ∧ (∀ S, exportV S r = some r) ∧ ∀ E u, RepV E v u → RepV E r u := by
  unfold exportW at h
  split at h
  · rename_i vs
    obtain ⟨vs', k1, k2, k3⟩ := exportWs_rep h
    simp only [Option.some.injEq] at k1
    subst k1
    refine ⟨?_, fun S => by simp only [exportV, k2], fun E u hr => ?_⟩
    · exact exportWs_notBad h
    · simp only [RepV] at hr ⊢
      obtain ⟨us, h1, h2⟩ := hr
      exact ⟨us, h1, k3 E us h2⟩
  · rename_i hn
    obtain ⟨v', h1, h2, h3, h4⟩ := exportW1_rep h
    simp only [Option.some.injEq] at h1
    subst h1
    refine ⟨?_, fun S => ?_, h3⟩
    · cases v <;> first | rfl | simp [exportW1] at h
    · have := h2 S some
      unfold exportV
      split
      · rename_i vs; exact absurd rfl (h4 vs)
      · exact this
theorem far_fnW {P : Program} {C : Ctx} {tab : Tab} {call : CallH V} (hC : RowsOK P C) (hT : TabOK P tab) (hcall : CallOK P call) (hm : P.follows .mixedOrders = true) (fuel : Nat) {f : FuncId} {fn : Func} (hf : P.funcs[f]? = some fn) {args : List V} {v : V}
    (h : evFn C tab call fuel fn args [] (fun v S => exportW v) = some v) : FarRes P f args v := by
  obtain ⟨v', S', h1, h2⟩ := fn_ok hC hT hcall hm fuel hf h
  obtain ⟨e1, e2, e3⟩ := exportW_rep h1
  have h3 := h2 e1
  intro m w us R hl hr hR
  refine h3.2 w.heap.size w (Env.of m) w us R (sim_start hl) hr ?_
  intro E' u w' k1 k0 k2 k3
  exact hR E' S' v u w' k1 k2 (e3 E' u k3) (e2 S')
def Sp.OkW (s : Sp) (T : Tab) (C : Ctx) (fn : Func) : Prop :=
  ∀ x : dens s.ts, FitsD s.ts x → s.pre x = true → ∃ F d, evFn C T (inl T F d) F fn (ofDens s.ts x) [] (fun v S => exportW v) = some (s.res x)
theorem add_okW {T : Tab} {g : FuncId} {C : Ctx} {fn : Func} (s : Sp) (hT : TabFar Try.prog T) (hC : RowsOK Try.prog C) (hf : Try.prog.funcs[g]? = some fn) (hn : (fn.name == "runtime.NumGoroutine") = false) (hb : fn.body.isNone = false)
    (h : s.OkW T C fn) : TabFar Try.prog (tabAdd T g s.ts s.F) := by
  intro i ts' F' hi
  unfold tabAdd at hi
  split at hi
  · rename_i he
    obtain rfl := Nat.eq_of_beq_eq_true he
    simp only [Option.some.injEq, Prod.mk.injEq] at hi
    obtain ⟨rfl, rfl⟩ := hi
    intro vs xs v h1 h2
    refine .inl ⟨⟨fn, hf, hn, hb⟩, ?_⟩
    intro m w us R hl hr hR
    obtain ⟨x, rfl, h3⟩ := toDens_some h2
    obtain ⟨h4, rfl⟩ := Prod.mk.inj (Option.some.inj h3)
    obtain ⟨F, d, h5⟩ := h x (fitsD_of (argsV_fits h1 hr)) h4
    exact far_fnW hC (tabFar_ok hT) (inl_ok (fun _ => rows_ok _) (tabFar_ok hT) mixed fnsOK d) mixed F hf h5 m w us R hl hr hR
  · exact hT i ts' F' hi
/-- a contract more, told of the machine in some other way -/
theorem add_far {T : Tab} {g : FuncId} {fn : Func} (s : Sp) (hT : TabFar Try.prog T) (hf : Try.prog.funcs[g]? = some fn) (hn : (fn.name == "runtime.NumGoroutine") = false) (hb : fn.body.isNone = false)
    (h : ∀ x : dens s.ts, s.pre x = true → FarRes Try.prog g (ofDens s.ts x) (s.res x)) : TabFar Try.prog (tabAdd T g s.ts s.F) := by
  intro i ts' F' hi
  unfold tabAdd at hi
  split at hi
  · rename_i he
    obtain rfl := Nat.eq_of_beq_eq_true he
    simp only [Option.some.injEq, Prod.mk.injEq] at hi
    obtain ⟨rfl, rfl⟩ := hi
    intro vs xs v h1 h2
    obtain ⟨x, rfl, h3⟩ := toDens_some h2
    obtain ⟨h4, rfl⟩ := Prod.mk.inj (Option.some.inj h3)
    exact .inl ⟨⟨fn, hf, hn, hb⟩, h x h4⟩
  · exact hT i ts' F' hi
theorem add_ext {T : Tab} {g : FuncId} (s : Sp) (hT : TabFar Try.prog T) (h : ∀ x : dens s.ts, s.pre x = true → ExtRes Try.prog g (ofDens s.ts x) (s.res x)) : TabFar Try.prog (tabAdd T g s.ts s.F) := by
  intro i ts' F' hi
  unfold tabAdd at hi
  split at hi
  · rename_i he
    obtain rfl := Nat.eq_of_beq_eq_true he
    simp only [Option.some.injEq, Prod.mk.injEq] at hi
    obtain ⟨rfl, rfl⟩ := hi
    intro vs xs v h1 h2
    obtain ⟨x, rfl, h3⟩ := toDens_some h2
    obtain ⟨h4, rfl⟩ := Prod.mk.inj (Option.some.inj h3)
    exact .inr (h x h4)
  · exact hT i ts' F' hi

theorem fitsD_rep {E : Env} : ∀ {ts : List Ty} {x : dens ts} {us : List Value}, RepVs E (ofDens ts x) us → FitsD ts x
  | [], _, _, _ => trivial
  | t :: ts, x, [], h => by simp [ofDens, RepVs] at h
  | t :: ts, x, u :: us, h => by
    simp only [ofDens, RepVs] at h
    refine ⟨?_, fitsD_rep h.2⟩
    have := h.1
    simp only [RepV] at this
    obtain ⟨zs, h1, _⟩ := this
    exact RepL.fits _ _ _ h1
/-- a contract for all data, of the machine -/
theorem far_of_ok {T : Tab} {g : FuncId} {C : Ctx} {fn : Func} (s : Sp) (hT : TabFar Try.prog T) (hC : RowsOK Try.prog C) (hf : Try.prog.funcs[g]? = some fn) (h : s.Ok T C fn) (x : dens s.ts) (hp : FitsD s.ts x → s.pre x = true) : FarRes Try.prog g (ofDens s.ts x) (s.res x) := by
  intro m w us R hl hr hR
  have hx := fitsD_rep hr
  obtain ⟨F, d, h5⟩ := h x hx (hp hx)
  exact far_fn hC (tabFar_ok hT) (inl_ok (fun _ => rows_ok _) (tabFar_ok hT) mixed fnsOK d) mixed F hf h5 m w us R hl hr hR
/-- a contract that a table has may be laid on top -/
theorem on_top {T : Tab} {g : FuncId} {s : Sp} (h : T g = s.ent) : T = tabAdd T g s.ts s.F := by
  funext i
  unfold tabAdd
  split
  · rename_i he
    obtain rfl := Nat.eq_of_beq_eq_true he
    exact h
  · rfl
theorem add_new {T : Tab} {g : FuncId} (s : Sp) : tabAdd T g s.ts s.F g = s.ent := by
  have : Nat.beq g g = true := Nat.beq_refl g
  simp only [tabAdd, this]
theorem add_old {T : Tab} {g i : FuncId} (s r : Sp) (hne : Nat.beq i g = false) (h : T i = r.ent) : tabAdd T g s.ts s.F i = r.ent := by
  simp only [tabAdd, hne]; exact h

theorem fits_by {l : List Int} : Fits (.li (.it .u8)) l ↔ l.length ≤ 140737488355328 ∧ ∀ x ∈ l, 0 ≤ x ∧ x ≤ 255 := Iff.rfl
theorem fits_i64 {n : Int} : Fits (.it .i64) n ↔ -9223372036854775808 ≤ n ∧ n ≤ 9223372036854775807 := Iff.rfl
theorem fits_u64 {n : Int} : Fits (.it .u64) n ↔ 0 ≤ n ∧ n ≤ 18446744073709551615 := Iff.rfl
theorem fits_u32 {n : Int} : Fits (.it .u32) n ↔ 0 ≤ n ∧ n ≤ 4294967295 := Iff.rfl
theorem fits_u8 {n : Int} : Fits (.it .u8) n ↔ 0 ≤ n ∧ n ≤ 255 := Iff.rfl
end Go.Proofs.Ytdhbelpejaobdaa.Ev
