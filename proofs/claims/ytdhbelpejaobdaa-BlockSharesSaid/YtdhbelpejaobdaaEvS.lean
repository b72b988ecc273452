/- Where the order of a region's operations is left open: operations that are apart may be exchanged. -/
import Derived.Test.YtdhbelpejaobdaaEvR
namespace Go.Proofs.Ytdhbelpejaobdaa.Ev
open Go Go.RowKit
set_option linter.unusedVariables false
set_option linter.unusedSimpArgs false

section
variable {P : Program} {C : Ctx} {tab : Tab} {all : Array Oper}

theorem evOp_ext [tI : Tst] {o : Oper} {id : Nat} {r r' : Operand → V} {S : List Ent} (h : ∀ x ∈ o.op.operands, r x = r' x) : evOp C o id r S = evOp C o id r' S := by
  obtain ⟨dst, op, type, pos, after, guard⟩ := o
  have pairs : ∀ ps : Array (Nat × Operand), (∀ x ∈ ps.toList.map (·.2), r x = r' x) → (ps.toList.map fun (i, x) => (i, r x)) = (ps.toList.map fun (i, x) => (i, r' x)) := fun ps hp =>
    List.map_congr_left fun p hm => by
      obtain ⟨i, x⟩ := p
      simp only [hp x (List.mem_map.2 ⟨(i, x), hm, rfl⟩)]
  cases op <;> simp only [Op.operands] at h <;> simp only [evOp]
  case build t ps => rw [pairs ps fun x hx => h x (by simpa using hx)]
  case buildSlice t n ps => rw [pairs ps fun x hx => h x (by simpa using hx)]
  case makeFunc fn first captured =>
    cases fn <;> simp only []
    rw [List.map_congr_left (l := captured.toList) fun x hx => h x (by simp; right; simpa using hx), List.map_congr_left (l := first.toList) fun x hx => h x (by simp; left; simpa using hx)]
  case call c =>
    obtain ⟨callee, args, argTypes⟩ := c
    cases callee with
    | value f => rfl
    | invoke rv m => rfl
    | builtin b =>
      simp only [Call.operands] at h
      have hh : ∀ x ∈ args.toList, r x = r' x := fun x hx => h x (by simpa using hx)
      simp only []
      split
      · rename_i x t ha hat; rw [hh x (by rw [ha]; simp)]
      · rename_i s x st xt ha hat; rw [hh s (by rw [ha]; simp), hh x (by rw [ha]; simp)]
      · rename_i x y ha; rw [hh x (by rw [ha]; simp), hh y (by rw [ha]; simp)]
      · rename_i x y ha; rw [hh x (by rw [ha]; simp), hh y (by rw [ha]; simp)]
      · rfl
  case slice t x lo hi mx => cases lo <;> cases hi <;> cases mx <;> simp_all
  all_goals (first | rfl | (simp_all; done))
theorem touch_ext {o : Oper} {r r' : Operand → V} (h : ∀ x ∈ o.op.operands, r x = r' x) : touch tab o r = touch tab o r' := by
  obtain ⟨dst, op, type, pos, after, guard⟩ := o
  cases op <;> simp only [Op.operands] at h <;> simp only [touch]
  case call c =>
    obtain ⟨callee, args, argTypes⟩ := c
    cases callee with
    | value f => simp only [Call.operands] at h; dsimp only; rw [h f (by simp)]
    | invoke rv m => rfl
    | builtin b =>
      simp only [Call.operands] at h
      cases b <;> dsimp only
      cases ha : args.toList with
      | nil => simp
      | cons x xs =>
        have := h x (by have : x ∈ args.toList := by rw [ha]; simp
                        simpa using this)
        simp [this]
  case slice t x lo hi mx => cases mx <;> rfl
  case assign x => rw [h x (by simp)]
  case load t x => rw [h x (by simp)]
  case store t x y => rw [h x (by simp)]
  case convert s d x => rw [h x (by simp)]

theorem evOp_loc [tI : Tst] {o : Oper} {id : Nat} {r : Operand → V} {S S' : List Ent} (h : ∀ n, touch tab o r = .rd n ∨ touch tab o r = .wr n → ent S n = ent S' n) : evOp C o id r S = evOp C o id r S' := by
  obtain ⟨dst, op, type, pos, after, guard⟩ := o
  cases op <;> simp only [touch] at h <;> simp only [evOp]
  case makeFunc fn _ _ => cases fn <;> rfl
  case convert s d x =>
    have : convS C s d (r x) S = convS C s d (r x) S' := by
      unfold convS
      split
      · rename_i e n xs hsd htd hx
        rw [hsd, hx] at h
        rw [h n (.inr rfl)]
      · rfl
    rw [this]
  case load t x =>
    unfold loadV
    split
    · rfl
    · split
      · rename_i n a hx; rw [hx] at h; rw [h n (.inl rfl)]
      · rfl
      · rename_i n a s hx; rw [hx] at h; rw [h n (.inl rfl)]
      · rfl
  case store t x y =>
    unfold storeV
    split
    · rfl
    · split
      · rename_i n a hx; rw [hx] at h; rw [h n (.inr rfl)]
      · rename_i n a s hx; rw [hx] at h; rw [h n (.inr rfl)]
      · rfl
  case call c =>
    obtain ⟨callee, args, argTypes⟩ := c
    cases callee with
    | value f => rfl
    | invoke rv m => rfl
    | builtin b =>
      simp only []
      split
      · rfl
      · rename_i s x st xt ha hat
        unfold appendV
        split
        · simp only [forceTy_eq]
          congr 1
          funext y
          obtain ⟨g, ys⟩ := y
          simp only []
          split
          · rfl
          · rename_i n t' xs' hs
            simp only [ha, List.getElem?_cons_zero, Option.map_some, hs] at h
            rw [h n (.inr rfl)]
          · rfl
        · rfl
      · rfl
      · rfl
      · rfl

theorem zeroFams_lt : ∀ (ts : List Ty) (id : Nat), ∀ x ∈ zeroFams ts id, x.1 < id + slices ts
  | [], _, _, h => by simp [zeroFams] at h
  | t :: ts, id, x, h => by
    cases t <;> simp only [zeroFams, List.mem_cons] at h <;> simp only [slices] <;> first
      | exact zeroFams_lt ts id x h
      | (rcases h with rfl | h
         · simp only []; omega
         · have := zeroFams_lt ts (id + 1) x h; omega)

theorem val_nil {v v' : V} {g : Bool} {us : List (Nat × Ent)} (h : val v = some (g, v', us)) : us = [] := by
  simp only [val, Option.some.injEq, Prod.mk.injEq] at h; exact h.2.2.symm

theorem evOp_foot [tI : Tst] {o : Oper} {id : Nat} {r : Operand → V} {S : List Ent} {g : Bool} {v : V} {us : List (Nat × Ent)} (h : evOp C o id r S = some (g, v, us)) :
    ∀ p ∈ us, (id ≤ p.1 ∧ p.1 < id + need C o ∧ (touch tab o r = .new ∨ ∃ n, touch tab o r = .wr n)) ∨ touch tab o r = .wr p.1 := by
  have nil : us = [] → ∀ p ∈ us, (id ≤ p.1 ∧ p.1 < id + need C o ∧ (touch tab o r = .new ∨ ∃ n, touch tab o r = .wr n)) ∨ touch tab o r = .wr p.1 := by
    rintro rfl p hp; simp at hp
  obtain ⟨dst, op, type, pos, after, guard⟩ := o
  cases op <;> simp only [evOp] at h
  case move x => exact nil (val_nil h)
  case assign x =>
    split at h
    · rename_i hx
      split at h
      · rename_i t hty
        simp only [Option.some.injEq, Prod.mk.injEq] at h
        obtain ⟨-, -, rfl⟩ := h
        intro p hp
        simp only [List.mem_singleton] at hp
        subst hp
        left
        refine ⟨Nat.le_refl _, by simp [need, hty], .inl ?_⟩
        simp [touch, hx]
      · exact nil (val_nil h)
    · exact nil (val_nil h)
  case pick c a b =>
    split at h
    · exact nil (val_nil h)
    · simp at h
  case alloc t =>
    split at h
    · simp only [Option.some.injEq, Prod.mk.injEq] at h
      obtain ⟨-, -, rfl⟩ := h
      intro p hp
      left
      refine ⟨?_, ?_, .inl (by simp [touch])⟩
      · rcases List.mem_cons.1 hp with rfl | hp
        · exact Nat.le_refl _
        · have := zeroFams_ne _ _ p hp; omega
      · simp only [need]
        rcases List.mem_cons.1 hp with rfl | hp
        · simp only []; omega
        · have := zeroFams_lt _ _ p hp; omega
    · simp at h
  case box t x =>
    simp only [Option.map_eq_some_iff, Prod.mk.injEq] at h
    obtain ⟨vs, -, -, -, rfl⟩ := h
    intro p hp
    simp only [List.mem_singleton] at hp
    subst hp
    exact .inl ⟨Nat.le_refl _, by simp [need], .inl (by simp [touch])⟩
  case build t ps =>
    split at h
    · simp only [Option.bind_eq_some_iff] at h; obtain ⟨_, _, h⟩ := h; exact nil (val_nil h)
    · simp only [Option.bind_eq_some_iff] at h; obtain ⟨_, _, h⟩ := h; exact nil (val_nil h)
    · simp at h
  case buildSlice t n ps =>
    split at h
    · split at h
      · simp only [forceTy_eq, Option.bind_eq_some_iff, Option.some.injEq, Prod.mk.injEq] at h
        obtain ⟨xs, -, -, -, rfl⟩ := h
        intro p hp
        simp only [List.mem_singleton] at hp
        subst hp
        exact .inl ⟨Nat.le_refl _, by simp [need], .inl (by simp [touch])⟩
      · simp at h
    · simp at h
  case load t x =>
    unfold loadV at h
    split at h
    · simp at h
    · split at h
      · split at h
        · split at h
          · split at h
            · exact nil (val_nil h)
            · split at h
              · exact nil (val_nil h)
              · simp at h
          · simp at h
        · simp at h
      · split at h
        · exact nil (val_nil h)
        · simp at h
      · split at h
        · split at h
          · simp only [Option.some.injEq, Prod.mk.injEq] at h; exact nil h.2.2.symm
          · simp at h
        · simp at h
      · simp at h
  case store t x y =>
    unfold storeV at h
    split at h
    · simp at h
    · split at h
      · rename_i n a hx
        split at h
        · simp only [Option.bind_eq_some_iff] at h
          obtain ⟨⟨vs, fs⟩, h1, h2⟩ := h
          simp only at h1 h2
          split at h2
          · simp only [Option.some.injEq, Prod.mk.injEq] at h2
            obtain ⟨-, -, rfl⟩ := h2
            have ht : touch tab { dst := dst, op := Op.store t x y, type := type, pos := pos, after := after, guard := guard } r = .wr n := by simp [touch, hx]
            intro p hp
            rcases List.mem_cons.1 hp with rfl | hp
            · exact .inr ht
            · split at h1
              · split at h1
                · rename_i e hty
                  simp only [Option.some.injEq, Prod.mk.injEq] at h1
                  obtain ⟨-, rfl⟩ := h1
                  simp only [List.mem_singleton] at hp
                  subst hp
                  exact .inl ⟨Nat.le_refl _, by simp [need, hty], .inr ⟨_, ht⟩⟩
                · simp at h1
              · simp only [Option.map_eq_some_iff, Prod.mk.injEq] at h1
                obtain ⟨_, _, _, rfl⟩ := h1
                simp at hp
          · simp at h2
        · simp at h
      · rename_i n a s hx
        split at h
        · split at h
          · simp only [Option.map_eq_some_iff, Prod.mk.injEq] at h
            obtain ⟨z, -, -, -, rfl⟩ := h
            intro p hp
            simp only [List.mem_singleton] at hp
            subst hp
            exact .inr (by simp [touch, hx])
          · simp at h
        · simp at h
      · simp at h
  case nilCheck x => split at h <;> first | exact nil (val_nil h) | simp at h
  case binOp op t x y yt =>
    simp only [Option.map_eq_some_iff, Prod.mk.injEq] at h
    obtain ⟨_, _, _, _, h⟩ := h
    exact nil h.symm
  case unOp op t x => simp only [Option.bind_eq_some_iff] at h; obtain ⟨_, _, h⟩ := h; exact nil (val_nil h)
  case convert s d x =>
    split at h
    · rename_i out hcs
      simp only [Option.some.injEq] at h; subst h
      unfold convS at hcs
      split at hcs
      · rename_i e n xs hsd htd hx
        split at hcs
        · simp only [Option.some.injEq, Prod.mk.injEq] at hcs
          obtain ⟨-, -, rfl⟩ := hcs
          intro p hp
          simp only [List.mem_singleton] at hp
          subst hp
          right
          simp only [touch, hsd, hx]
        · simp at hcs
      · simp at hcs
    · simp only [Option.bind_eq_some_iff] at h; obtain ⟨_, _, h⟩ := h; exact nil (val_nil h)
  case makeInterface t x =>
    split at h
    · exact nil (val_nil h)
    · simp at h
  case makeFunc fn first cap =>
    cases fn <;> simp only [] at h
    case func f => exact nil (val_nil h)
    all_goals simp at h
  case slice t x lo hi mx =>
    unfold sliceV at h
    split at h
    · split at h
      · split at h
        · simp only [Option.map_eq_some_iff, Prod.mk.injEq] at h
          obtain ⟨_, _, _, _, h⟩ := h
          exact nil h.symm
        · simp at h
      · simp at h
    · split at h
      · split at h
        · simp only [Option.map_eq_some_iff, Prod.mk.injEq] at h
          obtain ⟨_, _, _, _, h⟩ := h
          exact nil h.symm
        · simp at h
      · simp at h
    · split at h
      · simp only [Option.map_eq_some_iff, Prod.mk.injEq] at h
        obtain ⟨_, _, _, _, h⟩ := h
        exact nil h.symm
      · simp at h
    · split at h
      · simp only [Option.bind_eq_some_iff] at h
        obtain ⟨⟨s, xs⟩, -, h⟩ := h
        simp only at h
        split at h
        · simp only [Option.map_eq_some_iff] at h
          obtain ⟨⟨g', a, b, m⟩, hb, h⟩ := h
          cases m with
          | none => simp only [Prod.mk.injEq] at h; exact nil h.2.2.symm
          | some m =>
            simp only [Prod.mk.injEq] at h
            obtain ⟨-, -, rfl⟩ := h
            cases mx with
            | none =>
              simp only [boundsV, Option.map_none, Option.bind_eq_some_iff] at hb
              obtain ⟨_, _, _, _, hb⟩ := hb
              simp at hb
            | some mv =>
              intro p hp
              simp only [List.mem_singleton] at hp
              subst hp
              exact .inl ⟨Nat.le_refl _, by simp [need], .inl (by simp [touch])⟩
        · simp at h
      · simp at h
  case fieldAddr t x f => 
    unfold fieldAddrV at h
    repeat' (split at h)
    all_goals first | exact nil (val_nil h) | simp at h
  case field t x f =>
    unfold fieldV at h
    repeat' (split at h)
    all_goals first | exact nil (val_nil h) | simp at h
  case indexAddr t x i =>
    unfold indexAddrV at h
    repeat' (split at h)
    all_goals first | (simp only [Option.some.injEq, Prod.mk.injEq] at h; exact nil h.2.2.symm) | simp at h
  case index t x i =>
    unfold indexV at h
    repeat' (split at h)
    all_goals first | (simp only [Option.some.injEq, Prod.mk.injEq] at h; exact nil h.2.2.symm) | simp at h
  case typeAssert x xt t ok =>
    repeat' (split at h)
    all_goals first | exact nil (val_nil h) | simp at h
  case extract x i =>
    repeat' (split at h)
    all_goals first | exact nil (val_nil h) | simp at h
  case call c =>
    obtain ⟨callee, args, argTypes⟩ := c
    cases callee with
    | value f => simp at h
    | invoke rv m => simp at h
    | builtin b =>
      simp only [] at h
      split at h
      · simp only [Option.bind_eq_some_iff] at h; obtain ⟨_, _, h⟩ := h; exact nil (val_nil h)
      · rename_i s x st xt ha hat
        unfold appendV at h
        split at h
        · simp only [forceTy_eq, Option.bind_eq_some_iff] at h
          obtain ⟨⟨g', ys⟩, -, h⟩ := h
          simp only at h
          split at h
          · rename_i hs
            simp only [Option.some.injEq, Prod.mk.injEq] at h
            obtain ⟨-, -, rfl⟩ := h
            intro p hp
            simp only [List.mem_singleton] at hp
            subst hp
            refine .inl ⟨Nat.le_refl _, by simp [need], .inl ?_⟩
            simp [touch, ha, hs]
          · rename_i n t' xs' hs
            simp only [Option.bind_eq_some_iff] at h
            obtain ⟨xs, -, h⟩ := h
            split at h
            · simp only [Option.some.injEq, Prod.mk.injEq] at h
              obtain ⟨-, -, rfl⟩ := h
              intro p hp
              simp only [List.mem_singleton] at hp
              subst hp
              right
              simp [touch, ha, hs]
            · simp only [Option.some.injEq, Prod.mk.injEq] at h
              obtain ⟨-, -, rfl⟩ := h
              intro p hp
              simp only [List.mem_singleton] at hp
              subst hp
              right
              simp [touch, ha, hs]
            · simp at h
          · simp at h
        · simp at h
      · simp only [Option.bind_eq_some_iff] at h; obtain ⟨_, _, h⟩ := h; exact nil (val_nil h)
      · simp only [Option.bind_eq_some_iff] at h; obtain ⟨_, _, h⟩ := h; exact nil (val_nil h)
      · simp at h
  all_goals simp at h

/-! ### exchanging two steps -/
theorem look_setAt [tI : Tst] {sl : List V} {dst : Option Tmp} {v : V} {t : Nat} (h : ∀ d, dst = some d → d ≠ t) : look (setAt sl dst v) t = look sl t := by
  cases dst with
  | none => rfl
  | some d =>
    have := h d rfl
    simp [setAt, look_eq, List.getD_eq_getElem?_getD, List.getElem?_set, this]
theorem setAt_comm {sl : List V} {d e : Option Tmp} {u v : V} (h : ∀ x, d = some x → e ≠ some x) : setAt (setAt sl d u) e v = setAt (setAt sl e v) d u := by
  cases d with
  | none => rfl
  | some d =>
    cases e with
    | none => rfl
    | some e =>
      have hne : d ≠ e := by rintro rfl; exact h d rfl rfl
      simp only [setAt]
      exact List.set_comm _ _ hne
theorem apartAt_spec {o p : Oper} (h : apartAt all o p = true) :
    (∀ d, o.dst = some d → d ∉ reads all p) ∧ (∀ d, o.dst = some d → p.dst ≠ some d) ∧ (∀ d, p.dst = some d → d ∉ reads all o) := by
  refine ⟨fun d hd => ?_, fun d hd => ?_, fun d hd => ?_⟩ <;> simp [apartAt, hd] at h
  · exact h.1.1
  · exact h.1.2
  · exact h.2
theorem opd_setAt [tI : Tst] {sl : List V} {p : Oper} {dst : Option Tmp} {v : V} (h : ∀ d, dst = some d → d ∉ reads all p) : ∀ x ∈ p.op.operands, opd (setAt sl dst v) x = opd sl x := by
  intro x hx
  cases x with
  | tmp t =>
    refine look_setAt fun d hd e => ?_
    subst e
    exact h d hd (List.mem_append_left _ (List.mem_filterMap.2 ⟨.tmp d, by simpa using hx, rfl⟩))
  | const v => rfl
  | func f => rfl
  | global g => rfl
theorem guard_slot {p : Oper} {j d : Nat} {want : Bool} (hg : p.guard = some (j, want)) (hd : (all[j]?).bind (·.dst) = some d) : d ∈ reads all p := by
  refine List.mem_append_right _ ?_
  rw [hg]
  simp [hd]
theorem guardIs_setAt [tI : Tst] {sl : List V} {p : Oper} {dst : Option Tmp} {v : V} (h : ∀ d, dst = some d → d ∉ reads all p) : guardIs all p (setAt sl dst v) ↔ guardIs all p sl := by
  unfold guardIs
  cases hg : p.guard with
  | none => simp
  | some gw =>
    obtain ⟨j, want⟩ := gw
    constructor <;> rintro ⟨d, h1, h2⟩ <;> refine ⟨d, h1, ?_⟩
    · rwa [look_setAt (fun e he => by rintro rfl; exact h _ he (guard_slot hg h1))] at h2
    · rwa [look_setAt (fun e he => by rintro rfl; exact h _ he (guard_slot hg h1))]
theorem guardNot_setAt [tI : Tst] {sl : List V} {p : Oper} {dst : Option Tmp} {v : V} (h : ∀ d, dst = some d → d ∉ reads all p) : guardNot all p (setAt sl dst v) ↔ guardNot all p sl := by
  unfold guardNot
  cases hg : p.guard with
  | none => simp
  | some gw =>
    obtain ⟨j, want⟩ := gw
    constructor <;> rintro ⟨d, h1, h2⟩ <;> refine ⟨d, h1, ?_⟩
    · rwa [look_setAt (fun e he => by rintro rfl; exact h _ he (guard_slot hg h1))] at h2
    · rwa [look_setAt (fun e he => by rintro rfl; exact h _ he (guard_slot hg h1))]

theorem sets_comm [tI : Tst] : ∀ (us vs : List (Nat × Ent)) (S : List Ent), (∀ x ∈ us, ∀ y ∈ vs, x.1 ≠ y.1) → sets (sets S us) vs = sets (sets S vs) us
  | [], _, _, _ => rfl
  | (n, e) :: us, vs, S, h => by
    simp only [sets]
    rw [sets_comm us vs _ (fun x hx y hy => h x (List.mem_cons_of_mem _ hx) y hy), sets_set vs S n e (fun y hy e' => h (n, e) (List.mem_cons_self ..) y hy e'.symm)]

/-- a step may be gone from elsewhere, where what it looks at is the same -/
theorem Step.move [tI : Tst] {i id : Nat} {sl sl1 : List V} {S S1 : List Ent} {t : Touch} (st : Step P C tab all i id sl S t sl1 S1) {o : Oper} (ho : all[i]? = some o) :
    ∃ v, sl1 = setAt sl o.dst v ∧
      ((t ≠ .all ∧ ∃ us, S1 = sets S us ∧ (∀ p ∈ us, (id ≤ p.1 ∧ p.1 < id + need C o ∧ t ≠ .no ∧ ∀ n, t ≠ .rd n) ∨ t = .wr p.1) ∧
          ∀ slx Sx, (∀ x ∈ o.op.operands, opd slx x = opd sl x) → (guardIs all o slx ↔ guardIs all o sl) → (guardNot all o slx ↔ guardNot all o sl) → (∀ n, t = .rd n ∨ t = .wr n → ent Sx n = ent S n) →
            Step P C tab all i id slx Sx t (setAt slx o.dst v) (sets Sx us)) ∨
       (t = .all ∧ ∀ slx, (∀ x ∈ o.op.operands, opd slx x = opd sl x) → (guardIs all o slx ↔ guardIs all o sl) → (guardNot all o slx ↔ guardNot all o sl) → Step P C tab all i id slx S .all (setAt slx o.dst v) S1)) := by
  cases st with
  | skip o' ho' hg =>
    rw [ho] at ho'; simp only [Option.some.injEq] at ho'; subst ho'
    exact ⟨.un, rfl, .inl ⟨by simp, [], rfl, by simp, fun slx Sx _ _ h2 _ => .skip o ho (h2.2 hg)⟩⟩
  | op o' ho' hg hp v us he =>
    rw [ho] at ho'; simp only [Option.some.injEq] at ho'; subst ho'
    have hta : touch tab o (opd sl) ≠ .all := by
      obtain ⟨dst, op, type, pos, after, guard⟩ := o
      intro hall
      cases op <;> simp only [touch] at hall
      case assign x => split at hall <;> simp at hall
      case slice t x lo hi mx => cases mx <;> simp at hall
      case load t x => split at hall <;> simp at hall
      case store t x y => split at hall <;> simp at hall
      case convert s d x => split at hall <;> simp at hall
      case call c =>
        obtain ⟨callee, args, argTypes⟩ := c
        cases callee with
        | value f => exact hp.1 f args argTypes rfl
        | invoke rv m => exact hp.2 rv m args argTypes rfl
        | builtin b => cases b <;> simp only [] at hall <;> (try split at hall) <;> simp at hall
      all_goals simp at hall
    refine ⟨v, rfl, .inl ⟨hta, us, rfl, ?_, ?_⟩⟩
    · intro p hp'
      rcases evOp_foot (tab := tab) he p hp' with ⟨h1, h2, h3⟩ | h
      · refine .inl ⟨h1, h2, ?_, ?_⟩
        · rcases h3 with h3 | ⟨n, h3⟩ <;> rw [h3] <;> simp
        · intro m; rcases h3 with h3 | ⟨n, h3⟩ <;> rw [h3] <;> simp
      · exact .inr h
    · intro slx Sx h1 h2 h3 h4
      have ht : touch tab o (opd slx) = touch tab o (opd sl) := touch_ext h1
      have := Step.op (P := P) (C := C) (tab := tab) (all := all) (i := i) (id := id) (sl := slx) (S := Sx) o ho (h2.2 hg) hp v us (by
        rw [evOp_ext h1, evOp_loc (tab := tab) (S' := S) (fun n hn => h4 n hn)]
        exact he)
      rwa [ht] at this
  | tab o' ho' hg f as ts hop g fi cap hf v us he =>
    rw [ho] at ho'; simp only [Option.some.injEq] at ho'; subst ho'
    refine ⟨v, rfl, .inl ⟨by simp, us, rfl, ?_, ?_⟩⟩
    · intro p hp
      left
      have hneed : need C o = 1 := by simp [need, hop]
      unfold tabV at he
      split at he
      · simp only [Option.bind_eq_some_iff, Option.map_eq_some_iff, Prod.mk.injEq] at he
        obtain ⟨_, _, _, _, _, _, he⟩ := he
        split at he
        · obtain rfl := he
          simp only [List.mem_singleton] at hp
          subst hp
          exact ⟨Nat.le_refl _, by simp only [hneed]; omega, by simp, by simp⟩
        · obtain rfl := he; simp at hp
      · simp at he
    · intro slx Sx h1 h2 h3 _
      have hff : f ∈ o.op.operands := by rw [hop]; simp [Op.operands, Call.operands]
      have has : as.toList.map (opd slx) = as.toList.map (opd sl) := List.map_congr_left fun x hx => h1 x (by rw [hop]; simp only [Op.operands, Call.operands]; simp; right; simpa using hx)
      exact .tab o ho (h2.2 hg) f as ts hop g fi cap (by rw [h1 f hff]; exact hf) v us (by rw [has]; exact he)
  | call o' ho' hg f as ts hop g fi cap hf v S' he =>
    rw [ho] at ho'; simp only [Option.some.injEq] at ho'; subst ho'
    refine ⟨v, rfl, .inr ⟨rfl, ?_⟩⟩
    intro slx h1 h2 h3
    have hff : f ∈ o.op.operands := by rw [hop]; simp [Op.operands, Call.operands]
    have has : as.toList.map (opd slx) = as.toList.map (opd sl) := List.map_congr_left fun x hx => h1 x (by rw [hop]; simp only [Op.operands, Call.operands]; simp; right; simpa using hx)
    exact .call o ho (h2.2 hg) f as ts hop g fi cap (by rw [h1 f hff]; exact hf) v S1 (by rw [has]; exact he)

theorem Step.swap [tI : Tst] {i j idi idj : Nat} {oi oj : Oper} (hi : all[i]? = some oi) (hj : all[j]? = some oj) (hap : apartAt all oj oi = true) {sl sl1 sl2 : List V} {S S1 S2 : List Ent} {ti tj : Touch} (ht : tj.apart ti = true)
    (hdis : ∀ x, idi ≤ x → x < idi + need C oi → ¬ (idj ≤ x ∧ x < idj + need C oj)) (hoj : tj.off idi (idi + need C oi) = true) (hoi : ti.off idj (idj + need C oj) = true)
    (hstj : Step P C tab all j idj sl S tj sl1 S1) (hsti : Step P C tab all i idi sl1 S1 ti sl2 S2) : ∃ sl' S', Step P C tab all i idi sl S ti sl' S' ∧ Step P C tab all j idj sl' S' tj sl2 S2 := by
  obtain ⟨h1, h2, h3⟩ := apartAt_spec hap
  obtain ⟨vj, rfl, mj⟩ := hstj.move hj
  obtain ⟨vi, rfl, mi⟩ := hsti.move hi
  have agI : (∀ x ∈ oi.op.operands, opd sl x = opd (setAt sl oj.dst vj) x) ∧ (guardIs all oi sl ↔ guardIs all oi (setAt sl oj.dst vj)) ∧ (guardNot all oi sl ↔ guardNot all oi (setAt sl oj.dst vj)) :=
    ⟨fun x hx => (opd_setAt h1 x hx).symm, (guardIs_setAt h1).symm, (guardNot_setAt h1).symm⟩
  have agJ : (∀ x ∈ oj.op.operands, opd (setAt sl oi.dst vi) x = opd sl x) ∧ (guardIs all oj (setAt sl oi.dst vi) ↔ guardIs all oj sl) ∧ (guardNot all oj (setAt sl oi.dst vi) ↔ guardNot all oj sl) :=
    ⟨fun x hx => opd_setAt h3 x hx, guardIs_setAt h3, guardNot_setAt h3⟩
  have hcomm : setAt (setAt sl oi.dst vi) oj.dst vj = setAt (setAt sl oj.dst vj) oi.dst vi := (setAt_comm h2).symm
  have off : ∀ {t : Touch} {a b n : Nat}, t.off a b = true → (t = .rd n ∨ t = .wr n) → ¬ (a ≤ n ∧ n < b) := by
    rintro t a b n h (rfl | rfl) <;> simp [Touch.off] at h <;> omega
  rcases mj with ⟨haj, usj, rfl, footj, movej⟩ | ⟨rfl, movej⟩
  · rcases mi with ⟨hai, usi, rfl, footi, movei⟩ | ⟨rfl, movei⟩
    · have neI : ∀ n, (ti = .rd n ∨ ti = .wr n) → ∀ x ∈ usj, x.1 ≠ n := by
        intro n hn x hx e
        rcases footj x hx with ⟨k1, k2, k3, k4⟩ | k
        · exact off hoi hn ⟨by omega, by omega⟩
        · rcases hn with rfl | rfl <;> rw [k] at ht <;> simp [Touch.apart] at ht <;> omega
      have neJ : ∀ n, (tj = .rd n ∨ tj = .wr n) → ∀ x ∈ usi, x.1 ≠ n := by
        intro n hn x hx e
        rcases footi x hx with ⟨k1, k2, k3, k4⟩ | k
        · exact off hoj hn ⟨by omega, by omega⟩
        · rcases hn with rfl | rfl <;> rw [k] at ht <;> simp [Touch.apart] at ht <;> omega
      have stI := movei sl S agI.1 agI.2.1 agI.2.2 (fun n hn => (ent_sets_other usj S n (neI n hn)).symm)
      have stJ := movej (setAt sl oi.dst vi) (sets S usi) agJ.1 agJ.2.1 agJ.2.2 (fun n hn => ent_sets_other usi S n (neJ n hn))
      refine ⟨_, _, stI, ?_⟩
      rw [hcomm] at stJ
      rw [sets_comm usj usi S ?_]
      · exact stJ
      · intro x hx y hy e
        rcases footj x hx with ⟨k1, k2, k3, k4⟩ | k
        · rcases footi y hy with ⟨l1, l2, l3, l4⟩ | l
          · exact hdis y.1 l1 l2 ⟨by omega, by omega⟩
          · exact neI y.1 (.inr l) x hx e
        · exact neJ x.1 (.inr k) y hy e.symm
    · have hjn : tj = .no := by cases tj <;> simp [Touch.apart] at ht ⊢
      subst hjn
      have hnil : usj = [] := by
        cases usj with
        | nil => rfl
        | cons x l => rcases footj x (List.mem_cons_self ..) with ⟨_, _, k, _⟩ | k <;> simp at k
      subst hnil
      have stI := movei sl agI.1 agI.2.1 agI.2.2
      have stJ := movej (setAt sl oi.dst vi) S2 agJ.1 agJ.2.1 agJ.2.2 (by simp)
      refine ⟨_, _, stI, ?_⟩
      rw [hcomm] at stJ
      exact stJ
  · have hin : ti = .no := by cases ti <;> simp [Touch.apart] at ht ⊢
    subst hin
    rcases mi with ⟨hai, usi, rfl, footi, movei⟩ | ⟨k, _⟩
    · have hnil : usi = [] := by
        cases usi with
        | nil => rfl
        | cons x l => rcases footi x (List.mem_cons_self ..) with ⟨_, _, k, _⟩ | k <;> simp at k
      subst hnil
      have stI := movei sl S agI.1 agI.2.1 agI.2.2 (by simp)
      have stJ := movej (setAt sl oi.dst vi) agJ.1 agJ.2.1 agJ.2.2
      refine ⟨_, _, stI, ?_⟩
      rw [hcomm] at stJ
      exact stJ
    · simp at k
end
end Go.Proofs.Ytdhbelpejaobdaa.Ev
