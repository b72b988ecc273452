/- All operations at once. -/
import Derived.Test.YtdhbelpejaobdaaEvO
namespace Go.Proofs.Ytdhbelpejaobdaa.Ev
open Go Go.RowKit
set_option linter.unusedVariables false
set_option linter.unusedSimpArgs false

section
variable {P : Program} {C : Ctx} {E : Env} {w w0 : World} {base : Nat} {S : List Ent}

theorem append_ok [tI : Tst] (hC : RowsOK P C) (sim : Sim base w0 E S w) {st xt tt : TypeId} {id : Nat} {s x v : V} {u y : Value} {us : List (Nat × Ent)} {g : Bool} (h : appendV C id S st xt s x = some (g, v, us)) (hg : g = true) (hs : RepV E s u) (hx : RepV E x y)
    (hid : ¬ E.live id ∧ id < S.length) :
    ∃ z w' E', (Builtin.append_ #[st, xt] tt #[u, y]).run P w = .ok z w' ∧ E.Le E' ∧ Sim base w0 E' (sets S us) w' ∧ RepV E' v z ∧ ∀ i, E'.live i → E.live i ∨ i = id := by
  unfold appendV at h
  split at h
  case h_2 => simp at h
  rename_i e hst
  rw [forceTy_eq] at h
  simp only [Option.bind_eq_some_iff] at h
  obtain ⟨⟨g1, ys⟩, hn, h⟩ := h
  simp only at h hn
  have arg : g1 = true → List.length ys * (C.row e).bytes ≤ 140737488355328 → ∃ news, AppArg P C E w st xt tt e y (C.row e).ty ys news ∧ List.length ys ≤ maxL := by
    intro hg1 hb
    split at hn
    · rename_i k j n hxt
      simp only [Option.some.injEq, Prod.mk.injEq] at hn
      obtain ⟨rfl, rfl⟩ := hn
      simp only [Bool.and_eq_true, tst_iff] at hg1
      obtain ⟨rfl, -⟩ := rep_int_iff.1 hx
      rw [List.length_replicate] at hb ⊢
      exact appArg_zeros hC hst hxt hg1.1 hg1.2 hb
    · rename_i l hxt
      simp only [Option.map_eq_some_iff, Prod.mk.injEq] at hn
      obtain ⟨l', hl, -, rfl⟩ := hn
      exact appArg_string hC hst hxt rfl hx hl
    · rename_i f hxt
      simp only [Option.map_eq_some_iff, Prod.mk.injEq] at hn
      obtain ⟨l', hl, -, rfl⟩ := hn
      exact appArg_slice hC sim.mem hst hxt hx hl
    · simp at hn
  have hbytes : 0 < (C.row e).size := (hC.slice hst).2.2.2.2
  split at h
  · simp only [Option.some.injEq, Prod.mk.injEq] at h
    obtain ⟨rfl, rfl, rfl⟩ := h
    simp only [Bool.and_eq_true, tst_iff] at hg
    simp only [RepV] at hs; subst hs
    obtain ⟨news, ha, hm⟩ := arg hg.1 hg.2
    exact sim.appendNil hid ha hg.2 hm
  · rename_i o t' xs'
    simp only [Option.bind_eq_some_iff] at h
    obtain ⟨xs, hcast, h⟩ := h
    have fam : ∀ (S1 : List Ent), Sim base w0 E S1 w → ∀ n, ent S1 o = .fam n → n = List.length xs → g1 = true → (List.length xs + ys.length) * (C.row e).bytes ≤ 140737488355328 →
        ∃ z w' E', (Builtin.append_ #[st, xt] tt #[u, y]).run P w = .ok z w' ∧ E.Le E' ∧ Sim base w0 E' (S1.set o (.fam (List.length (xs ++ ys)))) w' ∧ RepV E' (.own o (C.row e).ty (xs ++ ys)) z ∧ ∀ i, E'.live i → E.live i ∨ i = id := by
      intro S1 sim n hent hg2 hg1 hg3
      obtain ⟨he, hxs⟩ := cast_rep hcast
      simp only [Ty.li.injEq] at he
      have hs' : RepV E (.own o (C.row e).ty xs) u := by
        subst he
        simp only at hxs
        subst hxs
        exact hs
      obtain ⟨news, ha, hm⟩ := arg hg1 (by rw [Nat.add_mul] at hg3; omega)
      have hb := ((hC.row (hC.slice hst).2.2.2.1).byte).resolve_left (by omega)
      have hmax : List.length xs + List.length ys ≤ maxL := by
        have := Nat.le_mul_of_pos_right (List.length xs + List.length ys) hb
        simp only [maxL]; omega
      obtain ⟨z, w', E', k1, k2, k3, k4, k5⟩ := sim.append hs' (by rw [hent, hg2]) ha hg3 hmax
      rw [← List.length_append] at k3
      exact ⟨z, w', E', k1, k2, k3, k4, fun i l => .inl (k5 i l)⟩
    split at h
    · rename_i n hent
      simp only [Option.some.injEq, Prod.mk.injEq] at h
      obtain ⟨rfl, rfl, rfl⟩ := h
      simp only [Bool.and_eq_true, tst_iff] at hg
      obtain ⟨⟨hg1, hg2⟩, hg3⟩ := hg
      exact fam S sim n hent hg2 hg1 hg3
    · rename_i n hent
      simp only [Option.some.injEq, Prod.mk.injEq] at h
      obtain ⟨rfl, rfl, rfl⟩ := h
      simp only [Bool.and_eq_true, tst_iff] at hg
      obtain ⟨⟨hg1, hg2⟩, hg3⟩ := hg
      have hlt : o < S.length := by simp only [RepV] at hs; exact sim.lt o hs.2.1
      obtain ⟨z, w', E', k1, k2, k3, k4, k5⟩ := fam _ (sim.delit hlt hent) n (ent_set_same _ hlt) hg2 hg1 hg3
      rw [List.set_set] at k3
      exact ⟨z, w', E', k1, k2, k3, k4, k5⟩
    · simp at h
  · simp at h

theorem cell_freeze (w : World) (p : Addr) (n : Nat) (a : Addr) : (w.freeze p n).cell? a = w.cell? a := by
  unfold World.freeze
  split
  · rfl
  · unfold World.cell?
    simp only [Array.getElem?_modify]
    by_cases h : p.block = a.block
    · rw [if_pos h]
      cases hx : w.heap[a.block]? with
      | none => rfl
      | some x => cases x <;> rfl
    · rw [if_neg h]
theorem heap_freeze (w : World) (p : Addr) (n k : Nat) (h : k ≠ p.block) : (w.freeze p n).heap[k]? = w.heap[k]? := by
  unfold World.freeze
  split
  · rfl
  · simp only [Array.getElem?_modify]
    rw [if_neg (fun e => h e.symm)]
theorem convS_ok [tI : Tst] (hC : RowsOK P C) (sim : Sim base w0 E S w) {src dst : TypeId} {x v : V} {u : Value} {us : List (Nat × Ent)} {g : Bool} (h : convS C src dst x S = some (g, v, us)) (hg : g = true) (hx : RepV E x u) :
    ∃ w', (convert src dst u).run P w = .ok u w' ∧ Sim base w0 E (sets S us) w' ∧ RepV E v u := by
  unfold convS at h
  split at h
  case h_2 => simp at h
  rename_i e o xs hsd htd
  split at h
  case h_2 => simp at h
  rename_i n he hent
  simp only [Option.some.injEq, Prod.mk.injEq] at h
  obtain ⟨rfl, rfl, rfl⟩ := h
  obtain rfl := Nat.eq_of_beq_eq_true hsd
  have hn := tst_iff.1 hg
  simp only [RepV] at hx
  obtain ⟨x1, x2, x3, x4, x5⟩ := hx
  have hE := sim.ents o
  rw [hent] at hE
  obtain ⟨⟨-, e2, e3⟩, b, e4⟩ := hE
  unfold FamOK at e3
  rw [e4] at e3
  obtain ⟨cap, cur, ty, f1, f2, f3, -⟩ := e3
  have hu := x5 (by omega)
  rw [f1] at hu
  subst hu
  have hlt := sim.lt o x2
  have hown : owns E o (ent S o) = some b := by rw [hent]; exact e4
  refine ⟨w.freeze ⟨b, cur.size, none⟩ 1, ?_, ?_, by simp only [RepV]; exact x1⟩
  · have hsh : w.shape? b = some (ty, cur.size) := by simp [World.shape?, f3]
    simp [convert, run_underlying (hC.slice htd).1, run_underlying (hC.int he).1, markStringish, hsh]
  · refine sim.step (Env.Le.refl E) ?_ (fun i => i = o) ?_ ?_ ?_ ?_ ?_ ?_ ?_ (fun _ _ _ => rfl)
    · refine ⟨by unfold World.freeze; split <;> rfl, by unfold World.freeze; split <;> rfl, by unfold World.freeze; split <;> rfl, by unfold World.freeze; split <;> simp, fun k hk => heap_freeze _ _ _ _ (by simp only; omega)⟩
    · intro i hi
      exact ⟨ent_set_ne _ hi, fun _ => ⟨rfl, rfl⟩⟩
    · intro i B hi hB
      have hne : B ≠ b := by
        rintro rfl
        exact sim.apart i o B hi hB hown
      exact ⟨heap_freeze _ _ _ _ hne, fun _ => rfl⟩
    · intro b' j v hv
      rw [cell_freeze]
      exact sim.mem b' j v hv
    · rintro i rfl
      simp only [sets]
      rw [ent_set_same _ hlt]; trivial
    · rintro i B rfl hB
      simp only [sets] at hB
      rw [ent_set_same _ hlt] at hB; simp [owns] at hB
    · rintro i i' B rfl rfl hne; exact absurd rfl hne
    · intro i l
      rw [length_sets]; exact sim.lt i l

theorem done_run {id n : Nat} {res : Result Next} {v : V} {us : List (Nat × Ent)} {z : Value} {w' : World} {E' : Env} (h : res = .ok (.value z) w') (h1 : E.Le E') (h2 : Sim base w0 E' (sets S us) w') (h3 : RepV E' v z) (h4 : ∀ o, E'.live o → E.live o ∨ (id ≤ o ∧ o < id + n)) :
    Done base w0 E S w id n res v us := ⟨z, w', E', .inl h, h1, h2, h3, h4⟩

theorem repVs_map {r : Operand → V} {q : Operand → Value} (hr : ∀ x, RepV E (r x) (q x)) : ∀ l : List Operand, RepVs E (l.map r) (l.map q)
  | [] => by simp [RepVs]
  | x :: l => by simp only [List.map_cons, RepVs]; exact ⟨hr x, repVs_map hr l⟩
theorem repO_map {r : Operand → V} {q : Operand → Value} (hr : ∀ x, RepV E (r x) (q x)) (o : Option Operand) : RepO E (o.map r) (o.map q) := by
  cases o with
  | none => trivial
  | some x => exact hr x

theorem minmax_ok [tI : Tst] {mx : Bool} {x y v : V} {a b : Value} (h : minmax mx [x, y] = some v) (hx : RepV E x a) (hy : RepV E y b) :
    ∃ z, (if mx then Builtin.max2 a b else Builtin.min2 a b).run P w = .ok z w ∧ RepV E v z := by
  unfold minmax at h
  split at h
  case h_2 => simp at h
  rename_i k m j n heq
  simp only [List.cons.injEq, and_true] at heq
  obtain ⟨rfl, rfl⟩ := heq
  split at h
  case isFalse => simp at h
  rename_i hk
  subst hk
  simp only [Option.some.injEq] at h
  subst h
  obtain ⟨rfl, h1⟩ := rep_int_iff.1 hx
  obtain ⟨rfl, h2⟩ := rep_int_iff.1 hy
  cases mx with
  | true =>
    refine ⟨_, by simp only [if_true, Builtin.max2, Sem.run_pure]; rfl, ?_⟩
    simp only [if_true]
    exact rep_int (by split <;> assumption)
  | false =>
    refine ⟨_, by simp only [Bool.false_eq_true, if_false, Builtin.min2, Sem.run_pure]; rfl, ?_⟩
    simp only [Bool.false_eq_true, if_false]
    exact rep_int (by split <;> assumption)
theorem op_ok [tI : Tst] (hC : RowsOK P C) (sim : Sim base w0 E S w) {o : Oper} {id : Nat} {r : Operand → V} {q : Operand → Value} (hr : ∀ x, RepV E (r x) (q x)) {g : Bool} {v : V} {us : List (Nat × Ent)} (h : evOp C o id r S = some (g, v, us)) (hg : g = true)
    (hid : ∀ j, id ≤ j → j < id + need C o → ¬ E.live j ∧ j < S.length) : Done base w0 E S w id (need C o) ((execOp q o).run P w) v us := by
  unfold evOp at h
  split at h
  case h_1 x hop =>   -- move
    simp only [val, Option.some.injEq, Prod.mk.injEq] at h
    obtain ⟨-, rfl, rfl⟩ := h
    simp only [execOp, hop, Sem.run_pure]
    exact Done.pure sim (hr x)
  case h_2 x hop =>   -- assign
    have hrun : (execOp q o).run P w = .ok (.value (q x)) w := by simp only [execOp, hop, Sem.run_pure]
    have hx := hr x
    split at h
    · rename_i hn
      rw [hn] at hx
      simp only [RepV] at hx
      split at h
      · rename_i t hty
        simp only [Option.some.injEq, Prod.mk.injEq] at h
        obtain ⟨-, rfl, rfl⟩ := h
        have hneed : need C o = 1 := by simp [need, hop, hty]
        rw [hneed] at hid ⊢
        obtain ⟨E', k1, k2, k3, k4⟩ := sim.nilfam (hid id (Nat.le_refl _) (by omega)).1 (hid id (Nat.le_refl _) (by omega)).2 t
        exact done_run (by rw [hrun, hx]) k1 k2 k3 (fun o l => (k4 o l).imp_right fun e => by omega)
      · simp only [val, Option.some.injEq, Prod.mk.injEq] at h
        obtain ⟨-, rfl, rfl⟩ := h
        rw [hrun]
        exact Done.pure sim (by simp only [RepV]; exact hx)
    · simp only [val, Option.some.injEq, Prod.mk.injEq] at h
      obtain ⟨-, rfl, rfl⟩ := h
      rw [hrun]
      exact Done.pure sim hx
  case h_3 c a b hop =>   -- pick
    have hc := hr c
    split at h
    case h_2 => simp at h
    rename_i x hx
    rw [hx] at hc
    obtain hc := rep_bool_iff.1 hc
    simp only [val, Option.some.injEq, Prod.mk.injEq] at h
    obtain ⟨-, rfl, rfl⟩ := h
    have hrun : (execOp q o).run P w = .ok (.value (if x then q a else q b)) w := by simp [execOp, hop, hc, asBool]
    rw [hrun]
    refine Done.pure sim ?_
    cases x
    · exact hr b
    · exact hr a
  case h_4 t hop =>   -- alloc
    split at h
    case isFalse => simp at h
    rename_i hgood
    simp only [Option.some.injEq, Prod.mk.injEq] at h
    obtain ⟨-, rfl, rfl⟩ := h
    have hneed : need C o = 1 + slices (C.row t).cells := by simp [need, hop]
    rw [hneed] at hid ⊢
    obtain ⟨u, w', E', k0, k1, k2, k3, k4⟩ := alloc_ok hC sim hgood hid
    exact done_run (by simp only [execOp, hop, Sem.run_bind, k0, Result.andThen_ok, Sem.run_pure]) k1 k2 k3 k4
  case h_5 t x hop =>   -- box
    simp only [Option.map_eq_some_iff, Prod.mk.injEq] at h
    obtain ⟨vs, hf, -, rfl, rfl⟩ := h
    have hneed : need C o = 1 := by simp [need, hop]
    rw [hneed] at hid ⊢
    obtain ⟨z, w', E', k0, k1, k2, k3, k4⟩ := box_ok (P := P) sim (t := t) (hid id (Nat.le_refl _) (by omega)) (hr x) hf
    exact done_run (by simp only [execOp, hop, Sem.run_bind, k0, Result.andThen_ok, Sem.run_pure]) k1 k2 k3 (fun o l => (k4 o l).imp_right fun e => by omega)
  case h_6 t ps hop =>   -- build
    obtain ⟨rfl, z, k0, k1⟩ := build_ok (P := P) (w := w) hC hr (S := S) (id := id) hop (us := us) (g := g) (v := v) (by unfold evOp; rw [hop]; exact h)
    have hrun : (execOp q o).run P w = .ok (.value z) w := by simp only [execOp, hop, Sem.run_bind, k0, Result.andThen_ok, Sem.run_pure]
    rw [hrun]
    exact Done.pure sim k1
  case h_7 t n ps hop =>   -- buildSlice
    split at h
    case h_2 => simp at h
    rename_i e ht
    split at h
    case isFalse => simp at h
    rename_i hn
    simp only [forceTy_eq, Option.bind_eq_some_iff, Option.some.injEq, Prod.mk.injEq] at h
    obtain ⟨xs, hx, -, rfl, rfl⟩ := h
    have hneed : need C o = 1 := by simp [need, hop]
    rw [hneed] at hid ⊢
    obtain ⟨z, w', E', k0, k1, k2, k3, k4⟩ := buildSlice_ok (P := P) hC sim hr (hid id (Nat.le_refl _) (by omega)) ht hn hx
    exact done_run (by simp only [execOp, hop, Sem.run_bind, k0, Result.andThen_ok, Sem.run_pure]) k1 k2 k3 (fun o l => (k4 o l).imp_right fun e => by omega)
  case h_8 t a hop =>   -- load
    obtain ⟨rfl, z, k0, k1⟩ := load_ok (P := P) hC sim h hg (hr a)
    have hrun : (execOp q o).run P w = .ok (.value z) w := by simp only [execOp, hop, Sem.run_bind, k0, Result.andThen_ok, Sem.run_pure]
    rw [hrun]
    exact Done.pure sim k1
  case h_9 t a x hop =>   -- store
    have hneed : (∃ e, (C.row t).ty = .li e) → need C o = 1 := by
      rintro ⟨e, hty⟩
      simp [need, hop, hty]
    obtain ⟨rfl, w', E', k0, k1, k2, k3⟩ := store_ok (P := P) hC sim h hg (hr a) (hr x) (fun hn => hid id (Nat.le_refl _) (by rw [hneed hn]; omega))
    refine ⟨undef, w', E', .inr ⟨by simp only [execOp, hop, Sem.run_bind, k0, Result.andThen_ok, Sem.run_pure], rfl⟩, k1, k2, by simp [RepV], fun o' l => ?_⟩
    rcases k3 o' l with l | ⟨hn, rfl⟩
    · exact .inl l
    · rw [hneed hn]; right; omega
  case h_10 x hop =>   -- nilCheck
    have hx := hr x
    have hrun : ∀ z, q x = z → (∀ a, z = .pointer a → a.isSome = true) → (∀ f fs c, z = .func f fs c → ∃ i, f = .func i) → (∃ a, z = .pointer a) ∨ (∃ f fs c, z = .func f fs c) → (execOp q o).run P w = .ok (.value z) w := by
      intro z hz hp hf hk
      rcases hk with ⟨a, rfl⟩ | ⟨f, fs, c, rfl⟩
      · obtain ⟨a, rfl⟩ := Option.isSome_iff_exists.1 (hp a rfl)
        simp [execOp, hop, hz]
      · obtain ⟨i, rfl⟩ := hf f fs c rfl
        simp [execOp, hop, hz]
    split at h
    · rename_i hv
      simp only [val, Option.some.injEq, Prod.mk.injEq] at h
      obtain ⟨-, rfl, rfl⟩ := h
      rw [hv] at hx
      have hx' := hx
      simp only [RepV] at hx'
      rw [hrun _ hx'.2 (by rintro a h; simp at h; subst h; rfl) (by simp) (.inl ⟨_, rfl⟩)]
      rw [hx'.2] at hx
      exact Done.pure sim hx
    · rename_i hv
      simp only [val, Option.some.injEq, Prod.mk.injEq] at h
      obtain ⟨-, rfl, rfl⟩ := h
      rw [hv] at hx
      have hx' := hx
      simp only [RepV] at hx'
      obtain ⟨b, off, us, e, _⟩ := hx'
      rw [hrun _ e (by rintro a h; simp at h; subst h; rfl) (by simp) (.inl ⟨_, rfl⟩)]
      rw [e] at hx
      exact Done.pure sim hx
    · rename_i hv
      simp only [val, Option.some.injEq, Prod.mk.injEq] at h
      obtain ⟨-, rfl, rfl⟩ := h
      rw [hv] at hx
      have hx' := hx
      simp only [RepV] at hx'
      rw [hrun _ hx'.2.2 (by rintro a h; simp at h; subst h; rfl) (by simp) (.inl ⟨_, rfl⟩)]
      rw [hx'.2.2] at hx
      exact Done.pure sim hx
    · rename_i hv
      simp only [val, Option.some.injEq, Prod.mk.injEq] at h
      obtain ⟨-, rfl, rfl⟩ := h
      rw [hv] at hx
      have hx' := hx
      simp only [RepV] at hx'
      obtain ⟨zs, us, e, _⟩ := hx'
      rw [hrun _ e (by simp) (by rintro f fs c h; simp at h; exact ⟨_, h.1.symm⟩) (.inr ⟨_, _, _, rfl⟩)]
      rw [e] at hx
      exact Done.pure sim hx
    · simp at h
  case h_11 op t x y yt hop =>   -- binOp
    simp only [Option.map_eq_some_iff, Prod.mk.injEq] at h
    obtain ⟨⟨g', v'⟩, h1, rfl, rfl, rfl⟩ := h
    obtain ⟨z, k0, k1⟩ := binV_ok (P := P) (w := w) hC h1 hg (hr x) (hr y) x y
    have hrun : (execOp q o).run P w = .ok (.value z) w := by simp only [execOp, hop, Sem.run_bind, Sem.run_pure] at k0 ⊢; rw [k0]; rfl
    rw [hrun]
    exact Done.pure sim k1
  case h_12 op t x hop =>   -- unOp
    simp only [Option.bind_eq_some_iff, val, Option.some.injEq, Prod.mk.injEq] at h
    obtain ⟨v', h1, -, rfl, rfl⟩ := h
    obtain ⟨z, k0, k1⟩ := unV_ok (P := P) (w := w) h1 (hr x)
    have hrun : (execOp q o).run P w = .ok (.value z) w := by simp only [execOp, hop, Sem.run_bind, k0, Result.andThen_ok, Sem.run_pure]
    rw [hrun]
    exact Done.pure sim k1
  case h_13 src dst x hop =>   -- convert
    split at h
    · rename_i out hcs
      simp only [Option.some.injEq] at h; subst h
      obtain ⟨w', k0, k1, k2⟩ := convS_ok (P := P) hC sim hcs hg (hr x)
      exact done_run (by simp only [execOp, hop, Sem.run_bind, k0, Result.andThen_ok, Sem.run_pure]) (Env.Le.refl E) k1 k2 (fun o l => .inl l)
    simp only [Option.bind_eq_some_iff, val, Option.some.injEq, Prod.mk.injEq] at h
    obtain ⟨v', h1, -, rfl, rfl⟩ := h
    by_cases hd : ∃ e, (C.row dst).td = .slice e
    · obtain ⟨e, hd⟩ := hd
      obtain ⟨z, w', E', k0, k1, k2, k3, k4⟩ := conv_new (P := P) hC sim h1 (hr x) hd
      exact done_run (by simp only [execOp, hop, Sem.run_bind, k0, Result.andThen_ok, Sem.run_pure]) k1 k2 k3 (fun o l => .inl (k4 o l))
    · obtain ⟨z, k0, k1⟩ := conv_ok (P := P) hC sim.mem h1 (hr x) (fun e he => hd ⟨e, he⟩)
      have hrun : (execOp q o).run P w = .ok (.value z) w := by simp only [execOp, hop, Sem.run_bind, k0, Result.andThen_ok, Sem.run_pure]
      rw [hrun]
      exact Done.pure sim k1
  case h_14 t x hop =>   -- makeInterface
    split at h
    case isFalse => simp at h
    rename_i hgood
    simp only [val, Option.some.injEq, Prod.mk.injEq] at h
    obtain ⟨-, rfl, rfl⟩ := h
    obtain ⟨d, hd, hb⟩ := (hC.row hgood).desc
    have hrun : (execOp q o).run P w = .ok (.value (.iface t (q x))) w := by
      have : (Instr.makeInterface t (q x)).run P w = .ok (.iface t (q x)) w := by
        simp only [Instr.makeInterface, Sem.run_bind, run_underlying hd, Result.andThen_ok]
        unfold descB at hb
        split at hb <;> first | rfl | simp at hb
      simp only [execOp, hop, Sem.run_bind, this, Result.andThen_ok, Sem.run_pure]
    rw [hrun]
    refine Done.pure sim ?_
    simp only [RepV]
    exact ⟨_, rfl, hr x⟩
  case h_15 f first cap hop =>   -- makeFunc
    simp only [val, Option.some.injEq, Prod.mk.injEq] at h
    obtain ⟨-, rfl, rfl⟩ := h
    have hrun : (execOp q o).run P w = .ok (.value (.func (.func f) (first.toList.map q).toArray (cap.toList.map q).toArray)) w := by
      have e1 : (first.toList.map q).toArray = first.map q := by apply Array.ext'; simp
      have e2 : (cap.toList.map q).toArray = cap.map q := by apply Array.ext'; simp
      rw [e1, e2]
      simp [execOp, hop, Instr.makeFunc]
    rw [hrun]
    refine Done.pure sim ?_
    simp only [RepV]
    exact ⟨_, _, rfl, repVs_map hr _, repVs_map hr _⟩
  case h_16 t x lo hi mx hop =>   -- slice
    have hneed : (mx.map r).isSome = true → need C o = 1 := by
      intro hm
      cases mx with
      | none => simp at hm
      | some m => simp [need, hop]
    obtain ⟨z, E', k0, k1, k2, k3, k4⟩ := slice_ok (P := P) hC sim h hg (hr x) (repO_map hr lo) (repO_map hr hi) (repO_map hr mx) (fun hm => hid id (Nat.le_refl _) (by rw [hneed hm]; omega))
    refine done_run (by simp only [execOp, hop, Sem.run_bind, k0, Result.andThen_ok, Sem.run_pure]) k1 k2 k3 (fun o' l => ?_)
    rcases k4 o' l with l | ⟨hm, rfl⟩
    · exact .inl l
    · rw [hneed hm]; right; omega
  case h_17 t x f hop =>   -- fieldAddr
    obtain ⟨rfl, z, k0, k1⟩ := fieldAddr_ok (P := P) (w := w) hC h (hr x)
    have hrun : (execOp q o).run P w = .ok (.value z) w := by simp only [execOp, hop, Sem.run_bind, k0, Result.andThen_ok, Sem.run_pure]
    rw [hrun]
    exact Done.pure sim k1
  case h_18 t x f hop =>   -- field
    obtain ⟨rfl, z, k0, k1⟩ := field_ok (P := P) (w := w) hC h (hr x)
    have hrun : (execOp q o).run P w = .ok (.value z) w := by simp only [execOp, hop, Sem.run_bind, k0, Result.andThen_ok, Sem.run_pure]
    rw [hrun]
    exact Done.pure sim k1
  case h_19 t x i hop =>   -- indexAddr
    obtain ⟨rfl, z, k0, k1⟩ := indexAddr_ok (P := P) (w := w) hC h hg (hr x) (hr i)
    have hrun : (execOp q o).run P w = .ok (.value z) w := by simp only [execOp, hop, Sem.run_bind, k0, Result.andThen_ok, Sem.run_pure]
    rw [hrun]
    exact Done.pure sim k1
  case h_20 t x i hop =>   -- index
    obtain ⟨rfl, z, k0, k1⟩ := index_ok (P := P) (w := w) hC h hg (hr x) (hr i)
    have hrun : (execOp q o).run P w = .ok (.value z) w := by simp only [execOp, hop, Sem.run_bind, k0, Result.andThen_ok, Sem.run_pure]
    rw [hrun]
    exact Done.pure sim k1
  case h_21 x xt t ok hop =>   -- typeAssert
    have hx := hr x
    split at h
    case h_2 => simp at h
    rename_i s v' hv
    rw [hv] at hx
    simp only [RepV] at hx
    obtain ⟨u, hu, hru⟩ := hx
    split at h
    case isFalse => simp at h
    rename_i hc
    obtain ⟨hgood, rfl⟩ := hc
    obtain ⟨d, hd, hb⟩ := (hC.row hgood).desc
    have hrun : (Instr.typeAssert (q x) xt s ok).run P w = .ok (if ok then .tuple #[u, .bool true] else u) w := by
      rw [hu]
      simp only [Instr.typeAssert, Sem.run_bind, run_underlying hd, Result.andThen_ok]
      unfold descB at hb
      split at hb <;> first | (simp only [if_true, Sem.run_pure]; done) | (simp only [if_true, Sem.run_pure]; rfl) | simp at hb
    have hrun' : (execOp q o).run P w = .ok (.value (if ok then .tuple #[u, .bool true] else u)) w := by simp only [execOp, hop, Sem.run_bind, hrun, Result.andThen_ok, Sem.run_pure]
    rw [hrun']
    cases ok with
    | true =>
      simp only [if_true, val, Option.some.injEq, Prod.mk.injEq] at h ⊢
      obtain ⟨-, rfl, rfl⟩ := h
      refine Done.pure sim ?_
      simp only [RepV]
      exact ⟨[u, .bool true], rfl, by simp only [RepVs, and_true]; exact ⟨hru, rep_bool true⟩⟩
    | false =>
      simp only [Bool.false_eq_true, if_false, val, Option.some.injEq, Prod.mk.injEq] at h ⊢
      obtain ⟨-, rfl, rfl⟩ := h
      exact Done.pure sim hru
  case h_22 x i hop =>   -- extract
    have hx := hr x
    split at h
    case h_2 => simp at h
    rename_i vs hv
    rw [hv] at hx
    simp only [RepV] at hx
    obtain ⟨us', hu, hrs⟩ := hx
    split at h
    case h_2 => simp at h
    rename_i v' hvi
    simp only [val, Option.some.injEq, Prod.mk.injEq] at h
    obtain ⟨-, rfl, rfl⟩ := h
    have hi : i < us'.length := by rw [← hrs.length]; exact (List.getElem?_eq_some_iff.1 hvi).1
    have hg' := RepVs.get i hrs (List.getElem?_eq_getElem hi)
    rw [look_eq, List.getD_eq_getElem?_getD, hvi] at hg'
    have hrun : (execOp q o).run P w = .ok (.value us'[i]) w := by
      simp [execOp, hop, hu, Instr.extract, List.getElem?_eq_getElem hi]
    rw [hrun]
    exact Done.pure sim hg'
  case h_23 b args argTypes hop =>   -- a builtin
    have hneed : need C o = 1 := by simp [need, hop]
    split at h
    · rename_i x t ha hat
      simp only [Option.bind_eq_some_iff, val, Option.some.injEq, Prod.mk.injEq] at h
      obtain ⟨n, h1, -, rfl, rfl⟩ := h
      obtain ⟨z, k0, k1⟩ := len_ok (P := P) (w := w) (ty := o.type) hC h1 (hr x)
      have ha' : args = #[x] := by cases args; simp_all
      have hat' : argTypes = #[t] := by cases argTypes; simp_all
      have hrun : (execOp q o).run P w = .ok (.value z) w := by
        simp [execOp, hop, resolve, invoke, builtin, ha', hat', k0]
      rw [hrun]
      exact Done.pure sim k1
    · rename_i s x st xt ha hat
      rw [hneed] at hid ⊢
      obtain ⟨z, w', E', k0, k1, k2, k3, k4⟩ := append_ok (P := P) (tt := o.type) hC sim h hg (hr s) (hr x) (hid id (Nat.le_refl _) (by omega))
      have ha' : args = #[s, x] := by cases args; simp_all
      have hat' : argTypes = #[st, xt] := by cases argTypes; simp_all
      refine done_run ?_ k1 k2 k3 (fun o l => (k4 o l).imp_right fun e => by omega)
      simp [execOp, hop, resolve, invoke, builtin, ha', hat', k0]
    · rename_i x y ha
      simp only [Option.bind_eq_some_iff, val, Option.some.injEq, Prod.mk.injEq] at h
      obtain ⟨n, h1, -, rfl, rfl⟩ := h
      obtain ⟨z, k0, k1⟩ := minmax_ok (P := P) (w := w) h1 (hr x) (hr y)
      have ha' : args = #[x, y] := by cases args; simp_all
      have hrun : (execOp q o).run P w = .ok (.value z) w := by
        simp only [Bool.false_eq_true, if_false] at k0
        simp [execOp, hop, resolve, invoke, builtin, ha', Builtin.min_, k0]
      rw [hrun]
      exact Done.pure sim k1
    · rename_i x y ha
      simp only [Option.bind_eq_some_iff, val, Option.some.injEq, Prod.mk.injEq] at h
      obtain ⟨n, h1, -, rfl, rfl⟩ := h
      obtain ⟨z, k0, k1⟩ := minmax_ok (P := P) (w := w) h1 (hr x) (hr y)
      have ha' : args = #[x, y] := by cases args; simp_all
      have hrun : (execOp q o).run P w = .ok (.value z) w := by
        simp only [if_true] at k0
        simp [execOp, hop, resolve, invoke, builtin, ha', Builtin.max_, k0]
      rw [hrun]
      exact Done.pure sim k1
    · simp at h
  case h_24 => simp at h
end
end Go.Proofs.Ytdhbelpejaobdaa.Ev
