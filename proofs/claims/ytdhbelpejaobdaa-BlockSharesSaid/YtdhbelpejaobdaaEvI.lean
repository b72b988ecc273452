/- One operation after the other, continued: stores; what is made anew. -/
import Derived.Test.YtdhbelpejaobdaaEvH
import Derived.Laws.IdiomStrings
namespace Go.Proofs.Ytdhbelpejaobdaa.Ev
open Go Go.RowKit
set_option linter.unusedVariables false
set_option linter.unusedSimpArgs false

section
variable {P : Program} {C : Ctx} {E : Env} {w w0 : World} {base : Nat} {S : List Ent}

theorem run_storeVar_at [tI : Tst] (hC : RowsOK P C) {t : TypeId} (hg : (C.row t).td.good = true) {g off : Nat} {cur : List Value} {ty : TypeId} (hh : w.heap[g]? = some (.cells cur.toArray ty (0, 0))) {u : Value} {zs : List Value}
    (hz : u.cells = zs.toArray) (hl : zs.length = (C.row t).size) (h1 : ∀ z ∈ zs, z.oneCell' = true) (hfit : off + zs.length ≤ cur.length) :
    (storeVar t ⟨g, off, none⟩ u).run P w = .ok () (w.setRow g (cur.take off ++ zs ++ cur.drop (off + zs.length)).toArray) := by
  have := run_storeCells_at (P := P) g off ty zs 0 cur.toArray w hh (by simpa using hfit) h1
  simp only [Nat.add_zero] at this
  simp [storeVar, size_pos_info hC hg, hz, hl, this]

/-- a store turns its own object alone -/
theorem Sim.store [tI : Tst] (sim : Sim base w0 E S w) {o : Nat} {us us' : List Value} {ty : TypeId} {E' : Env} (hle : E.Le E') (hm : E'.m = E.m) (ch : Nat → Prop) (S' : List Ent)
    (ho : ch o) (hown : owns E o (ent S o) = some (E.blk o)) (hh : w.heap[E.blk o]? = some (.cells us.toArray ty (0, 0))) (hnone : ∀ j, E.m (E.blk o) j = none)
    (hsame : ∀ i, ¬ ch i → ent S' i = ent S i ∧ (E.live i → E'.ex i = E.ex i ∧ E'.len i = E.len i))
    (hnew : ∀ i, ch i → EntOK E' base (w.setRow (E.blk o) us'.toArray) i (ent S' i))
    (hch : ∀ i B, ch i → owns E' i (ent S' i) = some B → i = o ∧ B = E.blk o)
    (hlt : ∀ i, E'.live i → i < S'.length) : Sim base w0 E' S' (w.setRow (E.blk o) us'.toArray) := by
  have hB := owns_lt sim hown
  refine sim.step hle (below_setRow (Below.refl base w) hB.1 _) ch hsame ?_ ?_ hnew ?_ ?_ hlt (fun b _ j => by rw [hm])
  · intro i B hi hb
    have hne : B ≠ E.blk o := by
      rintro rfl
      exact sim.apart i o _ (by rintro rfl; exact hi ho) hb hown
    exact ⟨setRow_other w _ _ _ hne, fun j => by rw [hm]⟩
  · rw [hm]
    intro b i v hv
    have hne : b ≠ E.blk o := by rintro rfl; rw [hnone] at hv; simp at hv
    rw [cell_setRow_other w _ _ _ hne]
    exact sim.mem b i v hv
  · intro i B hi hb i' hi' hb'
    obtain ⟨rfl, rfl⟩ := hch i B hi hb
    exact sim.apart i i' _ (by rintro rfl; exact hi' hi) hown hb'
  · intro i i' B hi hi' hne h1 h2
    exact hne ((hch i B hi h1).1.trans (hch i' B hi' h2).1.symm)

theorem cast_rep {s t : Ty} {x : s.den} {y : t.den} (h : cast? s t x = some y) : ∃ e : s = t, e ▸ x = y := by
  unfold cast? at h
  split at h
  · rename_i e
    exact ⟨e, by simpa using h⟩
  · simp at h

theorem cellT_rep [tI : Tst] {t : Ty} (ht : t.agg = false) {v : V} {u : Value} {x : t.den} (h : cellT t v = some x) (r : RepV E v u) : RepL E.m t x [u] := by
  cases v with
  | d s y =>
    simp only [cellT] at h
    obtain ⟨rfl, rfl⟩ := cast_rep h
    simp only [RepV] at r
    obtain ⟨us, h1, rfl⟩ := r
    obtain ⟨z, rfl⟩ := h1.single ht
    rw [ht]; exact h1
  | own o s ys =>
    simp only [cellT] at h
    obtain ⟨rfl, rfl⟩ := cast_rep h
    simp only [RepV] at r
    exact repl_sub.2 r.1
  | nn s ys =>
    simp only [cellT] at h
    obtain ⟨rfl, rfl⟩ := cast_rep h
    simp only [RepV] at r
    exact repl_sub.2 r.1
  | nils =>
    cases t with
    | li t =>
      simp only [cellT, Option.some.injEq] at h; subst h
      simp only [RepV] at r; subst r
      exact ⟨none, 0, rfl, Nat.le_refl _, Nat.zero_le _, Nat.zero_le _, rfl, rfl⟩
    | _ => simp [cellT] at h
  | _ => simp [cellT] at h

theorem unflat_rep [tI : Tst] : ∀ (t : Ty) (cs : List V) (us : List Value) (x : t.den) (rest : List V), unflat t cs = some (x, rest) → RepVs E cs us → ∃ u1 u2, us = u1 ++ u2 ∧ RepL E.m t x u1 ∧ RepVs E rest u2
  | .ue, cs, us, x, rest, h, r => by
    simp only [unflat, Option.some.injEq, Prod.mk.injEq] at h
    obtain ⟨-, rfl⟩ := h
    exact ⟨[], us, rfl, rfl, r⟩
  | .co t s, cs, us, x, rest, h, r => by
    simp only [unflat, Option.bind_eq_some_iff, Option.map_eq_some_iff, Prod.mk.injEq] at h
    obtain ⟨⟨y, r1⟩, h1, ⟨z, r2⟩, h2, rfl, rfl⟩ := h
    obtain ⟨u1, u2, rfl, k1, k2⟩ := unflat_rep t _ _ _ _ h1 r
    obtain ⟨u3, u4, rfl, k3, k4⟩ := unflat_rep s _ _ _ _ h2 k2
    exact ⟨u1 ++ u3, u4, by simp, ⟨u1, u3, rfl, k1, k3⟩, k4⟩
  | .ar n t, cs, us, x, rest, h, r => by
    simp only [unflat, Option.map_eq_some_iff] at h
    obtain ⟨⟨y, r1⟩, h1, h2⟩ := h
    simp only [Prod.mk.injEq] at h2
    obtain ⟨rfl, rfl⟩ := h2
    have key : ∀ (n : Nat) (cs : List V) (us : List Value) (y : List t.den) (rest : List V), unflat.go (unflat t) n cs = some (y, rest) → RepVs E cs us →
        ∃ u1 u2, us = u1 ++ u2 ∧ (List.length y = n ∧ u1.length = n * t.size ∧ ∀ i (hi : i < List.length y), RepL E.m t y[i] ((u1.drop (i * t.size)).take t.size)) ∧ RepVs E rest u2 := by
      intro n
      induction n with
      | zero =>
        intro cs us y rest h r
        simp only [unflat.go, Option.some.injEq, Prod.mk.injEq] at h
        obtain ⟨rfl, rfl⟩ := h
        exact ⟨[], us, rfl, ⟨rfl, by simp, by intro i hi; simp at hi⟩, r⟩
      | succ n ih =>
        intro cs us y rest h r
        simp only [unflat.go, Option.bind_eq_some_iff, Option.map_eq_some_iff, Prod.mk.injEq] at h
        obtain ⟨⟨a, r1⟩, h1, ⟨b, r2⟩, h2, rfl, rfl⟩ := h
        obtain ⟨u1, u2, rfl, k1, k2⟩ := unflat_rep t _ _ _ _ h1 r
        obtain ⟨u3, u4, rfl, ⟨k3, k4, k5⟩, k6⟩ := ih _ _ _ _ h2 k2
        have hl := RepL.len _ _ _ k1
        refine ⟨u1 ++ u3, u4, by simp, ⟨by simp [k3], by rw [List.length_append, hl, k4, Nat.add_mul, Nat.one_mul, Nat.add_comm], ?_⟩, k6⟩
        intro i hi
        cases i with
        | zero => simp only [Nat.zero_mul, List.drop_zero, List.getElem_cons_zero]; rw [← hl, List.take_left]; exact k1
        | succ i =>
          have : (i + 1) * t.size = u1.length + i * t.size := by rw [hl, Nat.add_mul, Nat.one_mul, Nat.add_comm]
          rw [this, ← List.drop_drop, List.drop_left]
          exact k5 i (by simpa using hi)
    obtain ⟨u1, u2, rfl, k1, k2⟩ := key n cs us _ _ h1 r
    exact ⟨u1, u2, rfl, k1, k2⟩
  | .bo, v :: cs, u :: us, x, rest, h, r => by
    simp only [unflat, Option.map_eq_some_iff, Prod.mk.injEq] at h
    obtain ⟨y, h1, rfl, rfl⟩ := h
    simp only [RepVs] at r
    exact ⟨[u], us, rfl, cellT_rep rfl h1 r.1, r.2⟩
  | .it k, v :: cs, u :: us, x, rest, h, r => by
    simp only [unflat, Option.map_eq_some_iff, Prod.mk.injEq] at h
    obtain ⟨y, h1, rfl, rfl⟩ := h
    simp only [RepVs] at r
    exact ⟨[u], us, rfl, cellT_rep rfl h1 r.1, r.2⟩
  | .st, v :: cs, u :: us, x, rest, h, r => by
    simp only [unflat, Option.map_eq_some_iff, Prod.mk.injEq] at h
    obtain ⟨y, h1, rfl, rfl⟩ := h
    simp only [RepVs] at r
    exact ⟨[u], us, rfl, cellT_rep rfl h1 r.1, r.2⟩
  | .ni, v :: cs, u :: us, x, rest, h, r => by
    simp only [unflat, Option.map_eq_some_iff, Prod.mk.injEq] at h
    obtain ⟨y, h1, -, rfl⟩ := h
    simp only [RepVs] at r
    exact ⟨[u], us, rfl, cellT_rep (t := .ni) (x := y) rfl h1 r.1, r.2⟩
  | .li t, v :: cs, u :: us, x, rest, h, r => by
    simp only [unflat, Option.map_eq_some_iff, Prod.mk.injEq] at h
    obtain ⟨y, h1, rfl, rfl⟩ := h
    simp only [RepVs] at r
    exact ⟨[u], us, rfl, cellT_rep rfl h1 r.1, r.2⟩
  | .bo, [], _, _, _, h, _ => by simp [unflat] at h
  | .it _, [], _, _, _, h, _ => by simp [unflat] at h
  | .st, [], _, _, _, h, _ => by simp [unflat] at h
  | .ni, [], _, _, _, h, _ => by simp [unflat] at h
  | .li _, [], _, _, _, h, _ => by simp [unflat] at h
  | .bo, _ :: _, [], _, _, _, r => by simp [RepVs] at r
  | .it _, _ :: _, [], _, _, _, r => by simp [RepVs] at r
  | .st, _ :: _, [], _, _, _, r => by simp [RepVs] at r
  | .ni, _ :: _, [], _, _, _, r => by simp [RepVs] at r
  | .li _, _ :: _, [], _, _, _, r => by simp [RepVs] at r

/-- seen as data of a kind: its cells -/
theorem asT_rep [tI : Tst] {t : Ty} {v : V} {u : Value} {x : t.den} (h : asT t v = some x) (r : RepV E v u) : ∃ zs : List Value, u.cells = zs.toArray ∧ RepL E.m t x zs := by
  cases v with
  | d s y =>
    simp only [asT] at h
    obtain ⟨rfl, rfl⟩ := cast_rep h
    simp only [RepV] at r
    obtain ⟨us, h1, h2, h3⟩ := r.cells
    exact ⟨us, h3, h1⟩
  | agg cs =>
    simp only [asT] at h
    split at h
    case isFalse => simp at h
    split at h
    · rename_i y hu
      simp only [Option.some.injEq] at h; subst h
      simp only [RepV] at r
      obtain ⟨us, rfl, h2, h3⟩ := r
      obtain ⟨u1, u2, rfl, k1, k2⟩ := unflat_rep t _ _ _ _ hu h2
      cases u2 with
      | nil => exact ⟨u1, by simp [Value.cells], k1⟩
      | cons z u2 => simp [RepVs] at k2
    · simp at h
  | own o s ys =>
    simp only [asT, cellT] at h
    obtain ⟨rfl, rfl⟩ := cast_rep h
    simp only [RepV] at r
    have := repl_sub.2 r.1
    obtain ⟨a, c, hu, _⟩ := id this
    simp only [List.cons.injEq, and_true] at hu; subst hu
    exact ⟨_, rfl, this⟩
  | nn s ys =>
    simp only [asT, cellT] at h
    obtain ⟨rfl, rfl⟩ := cast_rep h
    simp only [RepV] at r
    have := repl_sub.2 r.1
    obtain ⟨a, c, hu, _⟩ := id this
    simp only [List.cons.injEq, and_true] at hu; subst hu
    exact ⟨_, rfl, this⟩
  | nils =>
    simp only [asT] at h
    cases t with
    | li t =>
      have := cellT_rep (E := E) rfl h r
      simp only [RepV] at r; subst r
      exact ⟨_, rfl, this⟩
    | _ => simp [cellT] at h
  | _ => simp [asT, cellT] at h

theorem asT_one [tI : Tst] {t : Ty} (ht : t.agg = false) {v : V} {u : Value} {x : t.den} (h : asT t v = some x) (r : RepV E v u) : RepL E.m t x [u] := by
  cases v with
  | d s y =>
    simp only [asT] at h
    obtain ⟨rfl, rfl⟩ := cast_rep h
    simp only [RepV] at r
    obtain ⟨us, h1, rfl⟩ := r
    obtain ⟨z, rfl⟩ := h1.single ht
    rw [ht]; exact h1
  | agg cs => simp [asT, ht] at h
  | own o s ys => exact cellT_rep ht (v := .own o s ys) (by simpa only [asT] using h) r
  | nn s ys => exact cellT_rep ht (v := .nn s ys) (by simpa only [asT] using h) r
  | nils => exact cellT_rep ht (v := .nils) (by simpa only [asT] using h) r
  | _ => simp [asT, cellT] at h
theorem elems_repl {t : Ty} {zs : List Value} {i n : Nat} {ys : List Value} (hl : zs.length = n * t.size) (hi : i < n) (hy : ys.length = t.size) (j : Nat) (hj : j < n) :
    (((zs.take (i * t.size) ++ ys ++ zs.drop (i * t.size + ys.length)).drop (j * t.size)).take t.size) = if j = i then ys else (zs.drop (j * t.size)).take t.size := by
  have h1 : i * t.size + t.size ≤ zs.length := by rw [hl, ← Nat.succ_mul]; exact Nat.mul_le_mul_right _ (by omega)
  have ht : (zs.take (i * t.size)).length = i * t.size := by rw [List.length_take]; omega
  split
  · rename_i e; subst e
    have hd : (zs.take (j * t.size) ++ ys ++ zs.drop (j * t.size + ys.length)).drop (j * t.size) = ys ++ zs.drop (j * t.size + ys.length) := by
      rw [List.append_assoc]
      exact List.drop_left' ht
    rw [hd, ← hy, List.take_left]
  · rename_i e
    apply List.ext_getElem?
    intro k
    simp only [List.getElem?_take, List.getElem?_drop]
    by_cases hk : k < t.size
    · rw [if_pos hk, if_pos hk]
      rcases Nat.lt_or_gt_of_ne e with hlt | hgt
      · have : j * t.size + k < i * t.size := by
          have := Nat.mul_le_mul_right t.size (show j + 1 ≤ i from hlt)
          rw [Nat.add_mul, Nat.one_mul] at this; omega
        rw [List.append_assoc, List.getElem?_append_left (by omega), List.getElem?_take, if_pos this]
      · have : i * t.size + t.size ≤ j * t.size + k := by
          have := Nat.mul_le_mul_right t.size (show i + 1 ≤ j from hgt)
          rw [Nat.add_mul, Nat.one_mul] at this; omega
        rw [List.getElem?_append_right (by rw [List.length_append, ht, hy]; omega), List.length_append, ht, List.getElem?_drop, hy]
        congr 1; omega
    · rw [if_neg hk, if_neg hk]

theorem store_ok [tI : Tst] (hC : RowsOK P C) (sim : Sim base w0 E S w) {t : TypeId} {id : Nat} {a x v : V} {u y : Value} {us : List (Nat × Ent)} {g : Bool} (h : storeV C id S t a x = some (g, v, us)) (hg : g = true) (ha : RepV E a u) (hx : RepV E x y)
    (hid : (∃ e, (C.row t).ty = .li e) → ¬ E.live id ∧ id < S.length) : v = .un ∧ ∃ w' E', (Instr.storeAt t u y).run P w = .ok () w' ∧ E.Le E' ∧ Sim base w0 E' (sets S us) w' ∧ ∀ o, E'.live o → E.live o ∨ ((∃ e, (C.row t).ty = .li e) ∧ o = id) := by
  unfold storeV at h
  split at h
  · simp at h
  rename_i hgood
  have hgood : (C.row t).td.good = true := by simpa using hgood
  have hrow := hC.row hgood
  split at h
  · rename_i o off
    split at h
    · rename_i cs hent
      have he := sim.ents o
      rw [hent] at he
      obtain ⟨e1, e2, zs, ty, e3, e4, e5, e6⟩ := he
      have hlen := e4.length
      have hown : owns E o (ent S o) = some (E.blk o) := by rw [hent]; rfl
      simp only [RepV] at ha
      obtain ⟨-, rfl⟩ := ha
      simp only [Option.bind_eq_some_iff] at h
      obtain ⟨⟨vs, fs⟩, h1, h2⟩ := h
      simp only at h2
      split at h2
      case isFalse => simp at h2
      rename_i hc
      simp only [Option.some.injEq, Prod.mk.injEq] at h2
      obtain ⟨rfl, rfl, rfl⟩ := h2
      refine ⟨rfl, ?_⟩
      by_cases hn : x = .nils
      · subst hn
        simp only [RepV] at hx; subst hx
        split at h1
        case h_2 hne => exact absurd rfl hne
        split at h1
        case h_2 => simp at h1
        rename_i e hty
        obtain ⟨hid, hlt⟩ := hid ⟨e, hty⟩
        simp only [Option.some.injEq, Prod.mk.injEq] at h1
        obtain ⟨rfl, rfl⟩ := h1
        have hne : o ≠ id := by rintro rfl; exact hid e1
        have hle := Env.le_add hid 0 e.size (.slice none 0 0) 0 none
        have hst := run_storeVar_at (P := P) (w := w) hC hgood e3 (u := .slice none 0 0) (zs := [.slice none 0 0]) (off := off) rfl (by simpa using hc.1) (by simp [Value.oneCell']) (by simp at hc ⊢; omega)
        refine ⟨_, _, (by simp only [Instr.storeAt, Instr.sureAddr, Sem.run_bind, Sem.run_pure, Result.andThen_ok]; exact hst), hle, ?_, ?_⟩
        · refine sim.store hle rfl (fun i => i = o ∨ i = id) _ (.inl rfl) hown e3 e6 ?_ ?_ ?_ ?_
          · intro i hi
            simp only [not_or] at hi
            refine ⟨?_, fun l => ⟨if_neg (h := instDecidableEqNat i id) hi.2, if_neg (h := instDecidableEqNat i id) hi.2⟩⟩
            rw [sets, sets, sets, ent_set_ne _ hi.2, ent_set_ne _ hi.1]
          · rintro i (rfl | rfl)
            · have : ent (sets S [(i, Ent.obj (replV cs off [V.own id e ([] : List e.den)])), (id, Ent.fam 0)]) i = Ent.obj (replV cs off [V.own id e ([] : List e.den)]) := by
                rw [sets, sets, sets, ent_set_ne _ hne, ent_set_same _ (sim.lt _ e1)]
              rw [this]
              refine ⟨hle.live _ e1, by rw [hle.blk _ e1]; exact e2, _, ty, by rw [hle.blk _ e1]; exact setRow_heap w _ _ _ ty _ e3, ?_, ?_, fun j => by rw [hle.blk _ e1]; exact e6 j⟩
              · refine RepVs.repl off (RepVs.mono hle _ _ e4) ?_ hc.2
                simp only [RepVs, and_true, RepV]
                refine ⟨⟨_, ⟨none, 0, rfl, Nat.le_refl _, Nat.zero_le _, Nat.zero_le _, rfl, rfl⟩, rfl⟩, .inl rfl, by simp [Env.add], by simp, by simp [Env.add]⟩
              · intro z hz
                rcases List.mem_append.1 hz with hz | hz
                · rcases List.mem_append.1 hz with hz | hz
                  · exact e5 z (List.mem_of_mem_take hz)
                  · simp at hz; subst hz; rfl
                · exact e5 z (List.mem_of_mem_drop hz)
            · have : ent (sets S [(o, Ent.obj (replV cs off [V.own i e ([] : List e.den)])), (i, Ent.fam 0)]) i = Ent.fam 0 := by
                rw [sets, sets, sets, ent_set_same _ (by rw [List.length_set]; exact hlt)]
              rw [this]
              refine ⟨.inl rfl, by simp [Env.add], ?_⟩
              unfold FamOK
              simp [Env.add]
          · rintro i B (rfl | rfl) hb
            · refine ⟨rfl, ?_⟩
              have : ent (sets S [(i, Ent.obj (replV cs off [V.own id e ([] : List e.den)])), (id, Ent.fam 0)]) i = Ent.obj (replV cs off [V.own id e ([] : List e.den)]) := by
                rw [sets, sets, sets, ent_set_ne _ hne, ent_set_same _ (sim.lt _ e1)]
              rw [this] at hb
              simp only [owns, Option.some.injEq] at hb
              rw [← hb, hle.blk _ e1]
            · have : ent (sets S [(o, Ent.obj (replV cs off [V.own i e ([] : List e.den)])), (i, Ent.fam 0)]) i = Ent.fam 0 := by
                rw [sets, sets, sets, ent_set_same _ (by rw [List.length_set]; exact hlt)]
              rw [this] at hb
              simp [owns, Env.add] at hb
          · rintro i (rfl | l)
            · rw [length_sets]; exact hlt
            · rw [length_sets]; exact sim.lt _ l
        · rintro i (rfl | l)
          · exact .inr ⟨⟨e, hty⟩, rfl⟩
          · exact .inl l
      · have h1' : (flatV x).map (fun vs => (vs, ([] : List (Nat × Ent)))) = some (vs, fs) := by
          cases x <;> first | exact h1 | exact absurd rfl hn
        simp only [Option.map_eq_some_iff, Prod.mk.injEq] at h1'
        obtain ⟨vs', h1', rfl, rfl⟩ := h1'
        obtain ⟨ys, k1, k2, k3⟩ := flatV_rep h1' hx
        have hl := k2.length
        have hst := run_storeVar_at (P := P) (w := w) hC hgood e3 (u := y) (zs := ys) (off := off) k1 (by omega) k3 (by omega)
        refine ⟨_, E, (by simp only [Instr.storeAt, Instr.sureAddr, Sem.run_bind, Sem.run_pure, Result.andThen_ok]; exact hst), Env.Le.refl E, ?_, fun _ l => .inl l⟩
        have hent' : ent (sets S [(o, Ent.obj (replV cs off vs'))]) o = Ent.obj (replV cs off vs') := by
          rw [sets, sets, ent_set_same _ (sim.lt _ e1)]
        refine sim.store (Env.Le.refl E) rfl (fun i => i = o) _ rfl hown e3 e6 ?_ ?_ ?_ ?_
        · intro i hi
          refine ⟨?_, fun _ => ⟨rfl, rfl⟩⟩
          rw [sets, sets, ent_set_ne _ hi]
        · rintro i rfl
          rw [hent']
          refine ⟨e1, e2, _, ty, setRow_heap w _ _ _ ty _ e3, RepVs.repl off e4 k2 hc.2, ?_, e6⟩
          intro z hz
          rcases List.mem_append.1 hz with hz | hz
          · rcases List.mem_append.1 hz with hz | hz
            · exact e5 z (List.mem_of_mem_take hz)
            · exact k3 z hz
          · exact e5 z (List.mem_of_mem_drop hz)
        · rintro i B rfl hb
          rw [hent'] at hb
          simp only [owns, Option.some.injEq] at hb
          exact ⟨rfl, hb.symm⟩
        · intro i l; rw [length_sets]; exact sim.lt _ l
    · simp at h
  · rename_i o i sz
    split at h
    · rename_i s xs hent
      split at h
      · rename_i hsz
        simp only [Option.map_eq_some_iff] at h
        obtain ⟨z, h1, h2⟩ := h
        simp only [Prod.mk.injEq] at h2
        obtain ⟨rfl, rfl, rfl⟩ := h2
        have hlt := tst_iff.1 hg
        have he := sim.ents o
        rw [hent] at he
        obtain ⟨e1, e2, e3, zs, ty, e4, e5, e6, e7⟩ := he
        have hown : owns E o (ent S o) = some (E.blk o) := by rw [hent]; rfl
        simp only [RepV] at ha
        obtain ⟨-, k2, rfl⟩ := ha
        have hnn : x = .nils → False ∨ True := fun _ => .inr trivial
        obtain ⟨ys, k3, k4⟩ := asT_rep h1 hx
        have hl := RepL.len _ _ _ k4
        have hle : i * s.size + s.size ≤ zs.length := by rw [e5, ← Nat.succ_mul]; exact Nat.mul_le_mul_right _ (by omega)
        have hst := run_storeVar_at (P := P) (w := w) hC hgood e4 (u := y) (zs := ys) (off := i * s.size) k3 (by omega) (RepL.one _ _ _ k4) (by omega)
        rw [show i * s.size = i * sz from by rw [← e3, k2]] at hst
        refine ⟨rfl, _, E, (by simp only [Instr.storeAt, Instr.sureAddr, Sem.run_bind, Sem.run_pure, Result.andThen_ok]; exact hst), Env.Le.refl E, ?_, fun _ l => .inl l⟩
        have hent' : ent (sets S [(o, Ent.row s (List.set xs i z))]) o = Ent.row s (List.set xs i z) := by
          rw [sets, sets, ent_set_same _ (sim.lt _ e1)]
        refine sim.store (Env.Le.refl E) rfl (fun i => i = o) _ rfl hown e4 e7 ?_ ?_ ?_ ?_
        · intro j hj
          refine ⟨?_, fun _ => ⟨rfl, rfl⟩⟩
          rw [sets, sets, ent_set_ne _ hj]
        · rintro j rfl
          rw [hent']
          rw [show i * sz = i * s.size from by rw [← e3, k2]]
          refine ⟨e1, e2, e3, _, ty, setRow_heap w _ _ _ ty _ e4, ?_, ?_, e7⟩
          · simp only [List.length_append, List.length_take, List.length_drop, List.length_set]
            omega
          · intro n hn
            simp only [List.length_set] at hn
            rw [elems_repl e5 hlt hl n hn, List.getElem_set]
            split
            · rename_i e; subst e; rw [if_pos rfl]; exact k4
            · rename_i e; rw [if_neg (fun k => e k.symm)]; exact e6 n hn
        · rintro j B rfl hb
          rw [hent'] at hb
          simp only [owns, Option.some.injEq] at hb
          exact ⟨rfl, hb.symm⟩
        · intro j l; rw [length_sets]; exact sim.lt _ l
      · simp at h
    · simp at h
  · simp at h
end
end Go.Proofs.Ytdhbelpejaobdaa.Ev
