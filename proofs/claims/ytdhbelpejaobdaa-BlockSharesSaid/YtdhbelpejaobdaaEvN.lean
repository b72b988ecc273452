/- One operation after the other, continued: append. -/
import Derived.Test.YtdhbelpejaobdaaEvM
namespace Go.Proofs.Ytdhbelpejaobdaa.Ev
open Go Go.RowKit
set_option linter.unusedVariables false
set_option linter.unusedSimpArgs false

section
variable {P : Program} {C : Ctx} {E : Env} {w w0 : World} {base : Nat} {S : List Ent}

/-- what is appended: its cells, and how an append of it runs -/
structure AppArg (P : Program) (C : Ctx) (E : Env) (w : World) (st xt tt e : TypeId) (x : Value) (t : Ty) (ys : List t.den) (news : List Value) : Prop where
  nlen : news.length = List.length ys * t.size
  one : ∀ u ∈ news, u.oneCell' = true
  el : ∀ i (h : i < List.length ys), RepL E.m t ys[i] ((news.drop (i * t.size)).take t.size)
  nul : List.length ys = 0 → ∀ a n cap, n ≤ cap → (Builtin.append_ #[st, xt] tt #[.slice a n cap, x]).run P w = .ok (.slice a n cap) w
  room : ∀ g n cap (cur : Array Value) ty, w.heap[g]? = some (.cells cur ty (0, 0)) → n + List.length ys ≤ cap → n * t.size + news.length ≤ cur.size →
    (Builtin.append_ #[st, xt] tt #[.slice (some ⟨g, 0, none⟩) n cap, x]).run P w = .ok (.slice (some ⟨g, 0, none⟩) (n + List.length ys) cap) (w.setRow g (cur.toList.take (n * t.size) ++ news ++ cur.toList.drop (n * t.size + news.length)).toArray)
  grow : ∀ a n cap (olds : List Value), (Builtin.firstCells t.size n (.slice a n cap)).run P w.drew = .ok olds.toArray w.drew → cap < n + List.length ys → n + List.length ys ≤ 9223372036854775807 → (n + List.length ys) * (C.row e).bytes ≤ 140737488355328 →
    ∃ rest : List Value, rest.length = (grownCap w (n + List.length ys) cap e - (n + List.length ys)) * t.size ∧
    (Builtin.append_ #[st, xt] tt #[.slice a n cap, x]).run P w = .ok (.slice (some ⟨w.heap.size, 0, none⟩) (n + List.length ys) (grownCap w (n + List.length ys) cap e)) (w.drew.alloc (.cells (olds ++ news ++ rest).toArray e))

theorem appArg_of [tI : Tst] (hC : RowsOK P C) {st xt tt e : TypeId} (hst : (C.row st).td = .slice e) {x : Value} {dx : TypeDesc} (hx : P.underlying xt = some dx) (hdx : ∀ k, dx ≠ .int k) {ys : List (C.row e).ty.den} {news : List Value}
    (hl : ∀ w, (Builtin.lenOf x).run P w = .ok (List.length ys) w) (hf : ∀ w', w'.heap = w.heap → (Builtin.firstCells (C.row e).size (List.length ys) x).run P w' = .ok news.toArray w')
    (h1 : news.length = List.length ys * (C.row e).ty.size) (h2 : ∀ u ∈ news, u.oneCell' = true) (h3 : ∀ i (h : i < List.length ys), RepL E.m (C.row e).ty ys[i] ((news.drop (i * (C.row e).ty.size)).take (C.row e).ty.size)) :
    AppArg P C E w st xt tt e x (C.row e).ty ys news := by
  obtain ⟨hu, -, -, he, hpos⟩ := hC.slice hst
  have hsz := (hC.row he).size
  obtain ⟨i, z, i1, i2, i3, i4, i5⟩ := (hC.row he).info
  have hs : ∀ w, (sizeOf e).run P w = .ok (C.row e).size w := fun w => size_pos_info hC he
  have hzl : z.cells.size = (C.row e).size := by
    have := (zeros_rep (E := E) _ _ i5).1.length
    have hc := (hC.row he).cells
    simp at this; omega
  refine ⟨h1, h2, h3, ?_, ?_, ?_⟩
  · intro h0 a n cap hn
    have hnil : news = [] := List.eq_nil_of_length_eq_zero (by rw [h1, h0, Nat.zero_mul])
    exact run_app_none hu hx hdx hs (by rw [hl, h0]) (by have := hf w rfl; rw [h0, hnil] at this; exact this) hn
  · intro g n cap cur ty hg hroom hfit
    have := run_app_room (P := P) (w := w) (tt := tt) hu hx hdx hs (hl w) (hf w rfl) hg hroom h2 (by rw [← hsz]; exact hfit)
    rw [← hsz] at this
    exact this
  · intro a n cap olds hfo hg h63 hb
    refine ⟨_, ?_, run_app_grow (P := P) (w := w) (tt := tt) hu hx hdx hs i1 i4 (hl w) (by rw [← hsz]; exact hfo) (hf w.drew rfl) hg h63 ?_⟩
    · simp [Builtin.zeroCells, hzl, hsz]
    · rw [i3]; exact growslice_fits hg hb

theorem appArg_of' [tI : Tst] (hC : RowsOK P C) {st xt tt e : TypeId} (hst : (C.row st).td = .slice e) {t : Ty} (ht : (C.row e).ty = t) {x : Value} {dx : TypeDesc} (hx : P.underlying xt = some dx) (hdx : ∀ k, dx ≠ .int k) {ys : List t.den} {news : List Value}
    (hl : ∀ w, (Builtin.lenOf x).run P w = .ok (List.length ys) w) (hf : ∀ w', w'.heap = w.heap → (Builtin.firstCells (C.row e).size (List.length ys) x).run P w' = .ok news.toArray w')
    (h1 : news.length = List.length ys * t.size) (h2 : ∀ u ∈ news, u.oneCell' = true) (h3 : ∀ i (h : i < List.length ys), RepL E.m t ys[i] ((news.drop (i * t.size)).take t.size)) :
    AppArg P C E w st xt tt e x t ys news := by
  subst ht; exact appArg_of hC hst hx hdx hl hf h1 h2 h3
theorem appArg_slice [tI : Tst] (hC : RowsOK P C) (hm : E.m.lies w) {st xt tt e f : TypeId} (hst : (C.row st).td = .slice e) (hxt : (C.row xt).td = .slice f) {x : V} {u : Value} {ys : List (C.row e).ty.den} (hx : RepV E x u) (ha : asT (.li (C.row e).ty) x = some ys) :
    ∃ news, AppArg P C E w st xt tt e u (C.row e).ty ys news ∧ List.length ys ≤ maxL := by
  obtain ⟨hu, -, -, he, hpos⟩ := hC.slice hst
  have hsz := (hC.row he).size
  obtain ⟨a, c, hu', k1, k2, k3, k4⟩ := asT_one (t := .li (C.row e).ty) rfl ha hx
  simp only [List.cons.injEq, and_true] at hu'
  subst hu'
  cases a with
  | none =>
    have h0 : List.length ys = 0 := k4.1
    refine ⟨[], appArg_of hC hst (hC.slice hxt).1 (by simp) (fun w => by simp [Builtin.lenOf]) (fun w' _ => by simp [Builtin.firstCells]) (by rw [h0]; simp) (by simp) (by intro i hi; omega), k2⟩
  | some ad =>
    obtain ⟨us, l1, l2, l3, l4⟩ := elem_cells k4.2 (List.length ys) (Nat.le_refl _)
    refine ⟨us, appArg_of hC hst (hC.slice hxt).1 (by simp) (fun w => by simp [Builtin.lenOf]) (fun w' hw => ?_) l1 l3 (fun i hi => l4 i hi hi), k2⟩
    have := run_loadCells_list (P := P) w' ad us (by
      intro j v hv
      have := lies_cell' hm (fun hl => k4.1 (by rcases Nat.eq_zero_or_pos (List.length ys) with h | h; (rw [l1, h] at hl; simp at hl); omega)) l2 j v hv
      unfold World.cell? at this ⊢
      rw [hw]; exact this)
    simp only [Builtin.firstCells]
    rw [← hsz, ← l1]
    exact this

/-- a family goes on -/
theorem Sim.append [tI : Tst] (sim : Sim base w0 E S w) {o : Nat} {t : Ty} {xs ys : List t.den} {u : Value} (hx : RepV E (.own o t xs) u) (hent : ent S o = .fam (List.length xs)) {st xt tt e : TypeId} {x : Value} {news : List Value}
    (arg : AppArg P C E w st xt tt e x t ys news) (hb : (List.length xs + List.length ys) * (C.row e).bytes ≤ 140737488355328) (hmax : List.length xs + List.length ys ≤ maxL) :
    ∃ z w' E', (Builtin.append_ #[st, xt] tt #[u, x]).run P w = .ok z w' ∧ E.Le E' ∧ Sim base w0 E' (S.set o (.fam (List.length xs + List.length ys))) w' ∧ RepV E' (.own o t (xs ++ ys)) z ∧ ∀ i, E'.live i → E.live i := by
  have he := sim.ents o
  rw [hent] at he
  obtain ⟨e1, e2, e3⟩ := he
  simp only [RepV] at hx
  obtain ⟨hr, -, hsz, hle, hplc⟩ := hx
  have hu := hplc e2
  have hlt := sim.lt o e1
  have hr' := repl_sub.2 hr
  obtain ⟨a, c, hua, k1, k2, k3, k4⟩ := id hr'
  simp only [List.cons.injEq, and_true] at hua
  by_cases hm0 : List.length ys = 0
  · have hys : ys = [] := List.eq_nil_of_length_eq_zero hm0
    subst hys
    refine ⟨u, w, E, by rw [hua]; exact arg.nul hm0 _ _ _ k1, Env.Le.refl E, ?_, by simp only [List.append_nil, RepV]; exact ⟨hr, e1, hsz, hle, hplc⟩, fun _ l => l⟩
    have hS : S.set o (.fam (List.length xs + 0)) = S := by
      apply List.ext_getElem?
      intro i
      rw [List.getElem?_set]
      split
      · rename_i hi; subst hi
        have := hent
        rw [ent_eq, List.getD_eq_getElem?_getD, List.getElem?_eq_getElem hlt] at this
        rw [List.getElem?_eq_getElem hlt]
        simp only [Option.getD_some] at this
        rw [this, Nat.add_zero]
      · rfl
    rw [show List.length ([] : List t.den) = 0 from rfl, hS]
    exact sim
  unfold FamOK at e3
  have hlen : (xs ++ ys).length = List.length xs + List.length ys := List.length_append
  -- the cells that are there
  have holds : ∃ olds : List Value, olds.length = List.length xs * t.size ∧ (∀ w', w'.heap = w.heap → (Builtin.firstCells t.size (List.length xs) u).run P w' = .ok olds.toArray w') ∧ ∀ i (h : i < List.length xs), RepL E.m t xs[i] ((olds.drop (i * t.size)).take t.size) := by
    cases a with
    | none =>
      have h0 : List.length xs = 0 := k4.1
      exact ⟨[], by rw [h0]; simp, fun w' _ => by rw [hua]; simp [Builtin.firstCells], by intro i hi; omega⟩
    | some ad =>
      obtain ⟨us, l1, l2, l3, l4⟩ := elem_cells k4.2 (List.length xs) (Nat.le_refl _)
      refine ⟨us, l1, fun w' hw => ?_, fun i hi => l4 i hi hi⟩
      have := run_loadCells_list (P := P) w' ad us (by
        intro j v hv
        have := lies_cell' sim.mem (fun hl => k4.1 (by rcases Nat.eq_zero_or_pos (List.length xs) with h | h; (rw [l1, h] at hl; simp at hl); omega)) l2 j v hv
        unfold World.cell? at this ⊢
        rw [hw]; exact this)
      rw [hua]
      simp only [Builtin.firstCells]
      rw [← l1]
      exact this
  obtain ⟨olds, o1, o2, o3⟩ := holds
  by_cases hroom : List.length xs + List.length ys ≤ c
  · -- in place
    cases hex : E.ex o with
    | none =>
      rw [hex] at e3
      obtain ⟨a', e4⟩ := e3
      rw [← hu, hua, ← e2] at e4
      simp only [Value.slice.injEq] at e4
      omega
    | some g =>
      rw [hex] at e3
      obtain ⟨cap, cur, ty, f1, f2, f3, f4, f5, f6, f7⟩ := e3
      rw [← hu, hua, ← e2] at f1
      simp only [Value.slice.injEq] at f1
      obtain ⟨rfl, -, rfl⟩ := f1
      rw [← e2, hsz] at f7
      rw [hsz] at f6
      have hfit : List.length xs * t.size + news.length ≤ cur.size := by rw [arg.nlen, f6, ← Nat.add_mul]; exact Nat.mul_le_mul_right _ hroom
      have hrun := arg.room g (List.length xs) c cur ty f3 hroom hfit
      -- the facts
      let m' : Mem := fun b j => if b = g ∧ List.length xs * t.size ≤ j ∧ j < List.length xs * t.size + news.length then news[j - List.length xs * t.size]? else E.m b j
      have hmle : E.m.le m' := by
        intro b j v hv
        simp only [m']
        rw [if_neg]
        · exact hv
        · rintro ⟨rfl, h1, h2⟩
          rw [f7 j h1] at hv; simp at hv
      let E1 := E.move o (.slice (some ⟨g, 0, none⟩) (List.length xs + List.length ys) c) (List.length xs + List.length ys) (some g)
      have hle1 : E.Le E1 := Env.le_move (by omega) (fun h => by omega)
      have hle2 : E.Le (E1.setM m') := hle1.trans (Env.le_setM hmle)
      refine ⟨_, _, E1.setM m', by rw [hua]; exact hrun, hle2, ?_, ?_, fun _ l => l⟩
      · refine sim.step hle2 (below_setRow (Below.refl base w) f2 _) (fun i => i = o) ?_ ?_ ?_ ?_ ?_ ?_ ?_ (fun b hb j => by show m' b j = _; simp only [m']; rw [if_neg]; rintro ⟨rfl, -, -⟩; omega)
        · intro i hi
          exact ⟨ent_set_ne _ hi, fun _ => ⟨if_neg (h := instDecidableEqNat i o) hi, if_neg (h := instDecidableEqNat i o) hi⟩⟩
        · intro i B hi hB
          have hne : B ≠ g := by
            rintro rfl
            exact sim.apart i o B hi hB (by rw [hent]; exact hex)
          refine ⟨setRow_other w _ _ _ hne, fun j => ?_⟩
          show m' B j = _
          simp only [m']
          rw [if_neg (fun h => hne h.1)]
        · intro b j v hv
          have hv : m' b j = some v := hv
          simp only [m'] at hv
          by_cases hb : b = g
          · subst hb
            rw [cell_setRow_same w b j cur _ ty _ f3]
            have htl : (cur.toList.take (List.length xs * t.size)).length = List.length xs * t.size := by simp; omega
            split at hv
            · rename_i hc
              simp only [List.getElem?_toArray]
              rw [List.append_assoc, List.getElem?_append_right (by omega), htl, List.getElem?_append_left (by omega)]
              exact hv
            · rename_i hc
              have hj : j < List.length xs * t.size := by
                rcases Nat.lt_or_ge j (List.length xs * t.size) with h | h
                · exact h
                · rw [f7 j h] at hv; simp at hv
              have := sim.mem b j v hv
              simp only [World.cell?, f3] at this
              simp only [List.getElem?_toArray]
              rw [List.append_assoc, List.getElem?_append_left (by omega), List.getElem?_take, if_pos hj]
              simpa using this
          · rw [if_neg (fun h => hb h.1)] at hv
            rw [cell_setRow_other w _ _ _ hb]
            exact sim.mem b j v hv
        · rintro i rfl
          rw [ent_set_same _ hlt]
          refine ⟨e1, by simp [E1, Env.move, Env.setM], ?_⟩
          unfold FamOK
          simp only [E1, Env.move, Env.setM, if_true]
          refine ⟨c, _, ty, rfl, f2, setRow_heap w _ _ _ ty _ f3, hroom, f5, ?_, fun j hj => ?_⟩
          · simp only [List.size_toArray, List.length_append, List.length_take, List.length_drop, Array.length_toList]
            rw [hsz, ← f6]; omega
          · simp only [m']
            rw [hsz] at hj
            rw [if_neg (fun h => by rw [arg.nlen, ← Nat.add_mul] at h; omega)]
            exact f7 j (by rw [Nat.add_mul] at hj; omega)
        · rintro i B rfl hB i' hi' hB'
          rw [ent_set_same _ hlt] at hB
          have hB : some g = some B := by simpa [owns, E1, Env.move, Env.setM] using hB
          simp only [Option.some.injEq] at hB; subst hB
          exact sim.apart i' i g hi' hB' (by rw [hent]; exact hex)
        · rintro i i' B rfl rfl hne; exact absurd rfl hne
        · intro i l; rw [List.length_set]; exact sim.lt _ l
      · simp only [RepV]
        refine ⟨repl_sub.1 ?_, e1, hsz, ?_, ?_⟩
        · show RepL m' (.li t) (xs ++ ys) _
          refine ⟨some ⟨g, 0, none⟩, c, by rw [hlen], by rw [hlen]; exact hroom, by rw [hlen]; exact hmax, f5, fun _ => rfl, fun i hi => ?_⟩
          rw [hlen] at hi
          by_cases hix : i < List.length xs
          · obtain ⟨vs, l1, l2⟩ := k4.2 i hix
            refine ⟨vs, l1.mono hmle, ?_⟩
            have : (xs ++ ys)[i] = xs[i] := List.getElem_append_left hix
            rw [this]
            exact RepL.mono hmle _ _ _ l2
          · have hiy : i - List.length xs < List.length ys := by omega
            refine ⟨(news.drop ((i - List.length xs) * t.size)).take t.size, ?_, ?_⟩
            rotate_left
            · have : (xs ++ ys)[i] = ys[i - List.length xs] := List.getElem_append_right (by omega)
              rw [this]
              exact RepL.mono hmle _ _ _ (arg.el _ hiy)
            · intro j v hv
              rw [List.getElem?_take] at hv
              split at hv
              · rename_i hjs
                rw [List.getElem?_drop] at hv
                have hlt' := (List.getElem?_eq_some_iff.1 hv).1
                have e5 : i * t.size = List.length xs * t.size + (i - List.length xs) * t.size := by rw [← Nat.add_mul]; congr 1; omega
                simp only [m', Nat.zero_add]
                rw [if_pos ⟨trivial, by omega, by omega⟩]
                rw [show i * t.size + j - List.length xs * t.size = (i - List.length xs) * t.size + j from by omega]
                exact hv
              · simp at hv
        · show _ ≤ (E1.setM m').len o
          simp only [E1, Env.move, Env.setM, if_true]; omega
        · intro _
          simp [E1, Env.move, Env.setM]
  · -- a new block
    obtain ⟨rest, r1, hrun⟩ := arg.grow a (List.length xs) c olds (by have := o2 w.drew rfl; rw [hua] at this; exact this) (by omega) (by simp only [maxL] at hmax; omega) hb
    have hge := grownCap_ge w (List.length xs + List.length ys) c e
    have hcm := grownCap_small w (old := c) e hmax
    have hput : E.m.le (E.m.put w.heap.size (olds ++ news)) := Mem.le_put (lies_none sim.mem (Nat.le_refl _))
    have hle1 : E.Le (E.move o (.slice (some ⟨w.heap.size, 0, none⟩) (List.length xs + List.length ys) (grownCap w (List.length xs + List.length ys) c e)) (List.length xs + List.length ys) (some w.heap.size)) := Env.le_move (by omega) (fun h => by omega)
    have hle2 := hle1.trans (Env.le_setM (m := E.m.put w.heap.size (olds ++ news)) hput)
    have hnl := arg.nlen
    have hol : (olds ++ news).length = (List.length xs + List.length ys) * t.size := by rw [List.length_append, o1, hnl, Nat.add_mul]
    refine ⟨_, _, _, by rw [hua]; exact hrun, hle2, ?_, ?_, fun _ l => l⟩
    · refine sim.made (Wider.drew_alloc w _) hle2 (fun i => i = o) _ (by rw [List.length_set]) ?_ ?_ (Mem.lies_put ((Wider.drew_alloc w _).lies sim.mem) (heap_alloc_new w.drew _)) ?_ ?_ ?_ (fun i l => .inl l)
      · intro i hi
        exact ⟨ent_set_ne _ hi, fun _ => ⟨if_neg (h := instDecidableEqNat i o) hi, if_neg (h := instDecidableEqNat i o) hi⟩⟩
      · intro b hb' j
        show (E.m.put _ _) b j = _
        unfold Mem.put
        rw [if_neg (by omega)]
      · rintro i rfl
        rw [ent_set_same _ hlt]
        refine ⟨e1, by simp [Env.move, Env.setM], ?_⟩
        unfold FamOK
        simp only [Env.move, Env.setM, if_true]
        refine ⟨_, _, e, rfl, sim.base_le, heap_alloc_new w.drew _, hge, hcm, ?_, fun j hj => ?_⟩
        · rw [hsz]
          simp only [List.size_toArray, List.length_append, r1, o1, hnl, ← Nat.add_mul]
          congr 1; omega
        · unfold Mem.put
          rw [if_pos rfl]
          exact List.getElem?_eq_none (by rw [hol, ← hsz]; exact hj)
      · rintro i B rfl hB
        rw [ent_set_same _ hlt] at hB
        have hB : some w.heap.size = some B := by simpa [owns, Env.move, Env.setM] using hB
        simp only [Option.some.injEq] at hB
        omega
      · rintro i i' B rfl rfl hne; exact absurd rfl hne
    · simp only [RepV]
      refine ⟨repl_sub.1 ?_, e1, hsz, ?_, ?_⟩
      · rw [← hlen] at hge hcm ⊢
        refine repL_new (m := E.m) (us := olds ++ news) hput (fun j v hv => ?_) (fun i hi => ?_) hge (by rw [hlen]; exact hmax) hcm
        · show (E.m.put _ _) _ _ = _
          unfold Mem.put
          rw [if_pos rfl]; exact hv
        · rw [hlen] at hi
          by_cases hix : i < List.length xs
          · have : (xs ++ ys)[i] = xs[i] := List.getElem_append_left hix
            rw [this]
            have h6 : i * t.size + t.size ≤ olds.length := by rw [o1, ← Nat.succ_mul]; exact Nat.mul_le_mul_right _ (by omega)
            rw [List.drop_append_of_le_length (by omega), List.take_append_of_le_length (by rw [List.length_drop]; omega)]
            exact o3 i hix
          · have hiy : i - List.length xs < List.length ys := by omega
            have : (xs ++ ys)[i] = ys[i - List.length xs] := List.getElem_append_right (by omega)
            rw [this]
            have e5 : i * t.size = olds.length + (i - List.length xs) * t.size := by rw [o1, ← Nat.add_mul]; congr 1; omega
            rw [e5, ← List.drop_drop, List.drop_left]
            exact arg.el _ hiy
      · rw [hlen]
        simp [Env.move, Env.setM]
      · intro _
        simp [Env.move, Env.setM]

/-- a nil slice is appended to -/
theorem Sim.appendNil [tI : Tst] (sim : Sim base w0 E S w) {id : Nat} (hid : ¬ E.live id ∧ id < S.length) {t : Ty} {ys : List t.den} {st xt tt e : TypeId} {x : Value} {news : List Value}
    (arg : AppArg P C E w st xt tt e x t ys news) (hb : List.length ys * (C.row e).bytes ≤ 140737488355328) (hmax : List.length ys ≤ maxL) :
    ∃ z w' E', (Builtin.append_ #[st, xt] tt #[.slice none 0 0, x]).run P w = .ok z w' ∧ E.Le E' ∧ Sim base w0 E' (S.set id (.fam (List.length ys))) w' ∧ RepV E' (.own id t ys) z ∧ ∀ i, E'.live i → E.live i ∨ i = id := by
  by_cases hm0 : List.length ys = 0
  · have hys : ys = [] := List.eq_nil_of_length_eq_zero hm0
    subst hys
    obtain ⟨E', k1, k2, k3, k4⟩ := sim.nilfam hid.1 hid.2 t
    exact ⟨_, w, E', arg.nul hm0 none 0 0 (Nat.le_refl _), k1, k2, k3, k4⟩
  · obtain ⟨rest, r1, hrun⟩ := arg.grow none 0 0 [] (by simp [Builtin.firstCells]) (by omega) (by simp only [maxL] at hmax; omega) (by rw [Nat.zero_add]; exact hb)
    have hge := grownCap_ge w (List.length ys) 0 e
    have hcm := grownCap_small w (old := 0) e hmax
    have hnl := arg.nlen
    simp only [Nat.zero_add, List.nil_append] at hrun r1
    obtain ⟨E', k1, k2, k3, k4, -⟩ := sim.newfam hid (t := t) (xs := ys) (Wider.drew_alloc w (.cells (news ++ rest).toArray e)) (us := news) (rest := rest) (ty := e) (cap := grownCap w (List.length ys) 0 e) (heap_alloc_new w.drew _)
      hnl (by rw [List.length_append, hnl, r1, ← Nat.add_mul]; congr 1; omega) hge hcm hmax arg.el
    exact ⟨_, _, E', hrun, k1, k2, k3, k4⟩
end
end Go.Proofs.Ytdhbelpejaobdaa.Ev
