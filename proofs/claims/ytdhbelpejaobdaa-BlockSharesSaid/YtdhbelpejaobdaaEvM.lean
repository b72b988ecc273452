/- One operation after the other, continued: slices of slices, append. -/
import Derived.Test.YtdhbelpejaobdaaEvL
namespace Go.Proofs.Ytdhbelpejaobdaa.Ev
open Go Go.RowKit
set_option linter.unusedVariables false
set_option linter.unusedSimpArgs false

section
variable {P : Program} {C : Ctx} {E : Env} {w w0 : World} {base : Nat} {S : List Ent}

/-- a slice that has no room behind it -/
theorem Sim.capfam [tI : Tst] (sim : Sim base w0 E S w) {id : Nat} (hid : ¬ E.live id ∧ id < S.length) {t : Ty} {xs : List t.den} {a : Option Addr} (hr : RepL E.m (.li t) xs [.slice a (List.length xs) (List.length xs)]) :
    ∃ E', E.Le E' ∧ Sim base w0 E' (S.set id (.fam (List.length xs))) w ∧ RepV E' (.own id t xs) (.slice a (List.length xs) (List.length xs)) ∧ ∀ o, E'.live o → E.live o ∨ o = id := by
  have hle := Env.le_add hid.1 0 t.size (.slice a (List.length xs) (List.length xs)) (List.length xs) none
  refine ⟨_, hle, ?_, ?_, ?_⟩
  · refine sim.made (Wider.refl w) hle (fun i => i = id) _ (by rw [List.length_set]) ?_ (fun _ _ _ => rfl) sim.mem ?_ ?_ ?_ ?_
    · intro i hi
      exact ⟨ent_set_ne _ hi, fun l => ⟨if_neg (h := instDecidableEqNat i id) hi, if_neg (h := instDecidableEqNat i id) hi⟩⟩
    · rintro i rfl
      rw [ent_set_same _ hid.2]
      refine ⟨.inl rfl, by simp [Env.add], ?_⟩
      unfold FamOK
      simp [Env.add]
    · rintro i B rfl hb
      rw [ent_set_same _ hid.2] at hb
      simp [owns, Env.add] at hb
    · rintro i i' B rfl rfl hne; exact absurd rfl hne
    · rintro i (rfl | l)
      · exact .inr hid.2
      · exact .inl l
  · simp only [RepV, Env.add, if_true]
    exact ⟨repl_sub.1 hr, .inl trivial, trivial, Nat.le_refl _, fun _ => trivial⟩
  · rintro i (rfl | l)
    · exact .inr rfl
    · exact .inl l

theorem repL_sub {m : Mem} {t : Ty} {xs : List t.den} {a : Option Addr} {c : Nat} (h : RepL m (.li t) xs [.slice a (List.length xs) c]) {l b m' : Nat} (h1 : l ≤ b) (h2 : b ≤ List.length xs) (h3 : b ≤ m') (h4 : m' ≤ c) :
    RepL m (.li t) ((List.take b xs).drop l) [.slice (if m' = l then a else a.map (·.add (l * t.size))) (b - l) (m' - l)] := by
  obtain ⟨a', c', hu, k1, k2, k3, k4⟩ := h
  simp only [List.cons.injEq, Value.slice.injEq, true_and, and_true] at hu
  obtain ⟨rfl, rfl⟩ := hu
  have hlen : ((List.take b xs).drop l).length = b - l := by rw [List.length_drop, List.length_take]; omega
  have hz : ∀ A : Option Addr, m' = l → (A = none → c = 0 ∧ List.length xs = 0) → RepL m (.li t) ((List.take b xs).drop l) [.slice A (b - l) (m' - l)] := by
    intro A hml hn
    refine ⟨A, m' - l, by rw [hlen], by omega, by omega, by simp only [maxLen] at *; omega, ?_⟩
    cases A with
    | none => have := hn rfl; exact ⟨by omega, by omega⟩
    | some ad => exact ⟨fun h => by omega, fun i hi => by omega⟩
  by_cases hml : m' = l
  · rw [if_pos hml]
    refine hz a hml (fun e => ?_)
    subst e; exact ⟨k4.2, k4.1⟩
  · rw [if_neg hml]
    cases a with
    | none =>
      have : List.length xs = 0 := k4.1
      have : c = 0 := k4.2
      omega
    | some ad =>
      obtain ⟨bb, oo, ss⟩ := ad
      obtain ⟨k5, k6⟩ := k4
      have k5 := k5 (by omega)
      simp only at k5; subst k5
      refine ⟨_, m' - l, by rw [hlen], by omega, by omega, by simp only [maxLen] at *; omega, ?_⟩
      simp only [Option.map_some, Addr.add_lit]
      refine ⟨fun _ => trivial, fun i hi => ?_⟩
      rw [hlen] at hi
      obtain ⟨vs, k7, k8⟩ := k6 (l + i) (by omega)
      refine ⟨vs, by rw [Nat.add_assoc, ← Nat.add_mul]; exact k7, ?_⟩
      have : ((List.take b xs).drop l)[i]'(by rw [hlen]; exact hi) = xs[l + i] := by simp only [List.getElem_drop, List.getElem_take]
      rw [this]; exact k8

theorem list_slice {m : Mem} {t : Ty} {xs : List t.den} {u : Value} (h : RepL m (.li t) xs [u]) : ∃ a c, u = .slice a (List.length xs) c ∧ List.length xs ≤ c := by
  obtain ⟨a, c, hu, k1, _⟩ := h
  simp only [List.cons.injEq, and_true] at hu
  exact ⟨a, c, hu, k1⟩

theorem slice_ok [tI : Tst] (hC : RowsOK P C) (sim : Sim base w0 E S w) {t : TypeId} {id : Nat} {x v : V} {lo hi mx : Option V} {lo' hi' mx' : Option Value} {u : Value} {us : List (Nat × Ent)} {g : Bool} (h : sliceV C id t x lo hi mx = some (g, v, us)) (hg : g = true) (hx : RepV E x u)
    (h1 : RepO E lo lo') (h2 : RepO E hi hi') (h3 : RepO E mx mx') (hid : mx.isSome = true → ¬ E.live id ∧ id < S.length) :
    ∃ z E', (Instr.sliceAt t u lo' hi' mx').run P w = .ok z w ∧ E.Le E' ∧ Sim base w0 E' (sets S us) w ∧ RepV E' v z ∧ ∀ o, E'.live o → E.live o ∨ (mx.isSome = true ∧ o = id) := by
  have tdcase : ∀ {s : Ty} {xs : List s.den}, RepL E.m (.li s) xs [u] → ∀ {e : TypeId}, (C.row t).td = .slice e → (C.row e).size = s.size →
      (boundsV xs.length lo hi mx).map (fun (g, a, b, m) => match m with
        | none => (g, V.d (.li s) ((List.take b xs).drop a), ([] : List (Nat × Ent)))
        | some m => (g && tst (m = b), V.own id s ((List.take b xs).drop a), [(id, Ent.fam (List.length ((List.take b xs).drop a)))])) = some (g, v, us) →
      ∃ z E', (Instr.sliceAt t u lo' hi' mx').run P w = .ok z w ∧ E.Le E' ∧ Sim base w0 E' (sets S us) w ∧ RepV E' v z ∧ ∀ o, E'.live o → E.live o ∨ (mx.isSome = true ∧ o = id) := by
    intro s xs hr e ht hsz hb
    obtain ⟨hu, -, -, he, hpos⟩ := hC.slice ht
    have hes := size_pos_info (P := P) (w := w) hC he
    simp only [Option.map_eq_some_iff] at hb
    obtain ⟨⟨g', a, b, m⟩, hbd, hb⟩ := hb
    obtain ⟨ad, c, rfl, hc⟩ := list_slice hr
    have run : g' = true → (Instr.sliceAt t (.slice ad (List.length xs) c) lo' hi' mx').run P w = .ok (.slice (if m.getD c = a then ad else ad.map (·.add (a * s.size))) (b - a) (m.getD c - a)) w := by
      intro hg'
      obtain ⟨k1, -⟩ := bounds_ok (P := P) (w := w) hbd hg' h1 h2 h3 true hc
      simp only [Instr.sliceAt, Instr.slice, Sem.run_bind, run_underlying hu, Result.andThen_ok, k1, hes, Sem.run_pure, hsz]
    cases m with
    | none =>
      simp only [Prod.mk.injEq] at hb
      obtain ⟨rfl, rfl, rfl⟩ := hb
      obtain ⟨-, k2, k3, k4, k5, k6⟩ := bounds_ok (P := P) (w := w) hbd hg h1 h2 h3 true hc
      exact ⟨_, E, run hg, Env.Le.refl E, sim, rep_li_iff.2 (repL_sub hr k2 k3 k4 k5), fun o l => .inl l⟩
    | some m =>
      simp only [Prod.mk.injEq] at hb
      obtain ⟨rfl, rfl, rfl⟩ := hb
      simp only [Bool.and_eq_true, tst_iff] at hg
      obtain ⟨hg, rfl⟩ := hg
      obtain ⟨-, k2, k3, k4, k5, k6⟩ := bounds_ok (P := P) (w := w) hbd hg h1 h2 h3 true hc
      have hmx : mx.isSome = true := by
        cases mx with
        | none => simp at k6
        | some _ => rfl
      have hrs := repL_sub hr k2 k3 k4 k5
      have hl : ((List.take m xs).drop a).length = m - a := by rw [List.length_drop, List.length_take]; omega
      have hrs' := hrs
      simp only [Option.getD_some] at hrs'
      rw [← hl] at hrs'
      obtain ⟨E', l1, l2, l3, l4⟩ := sim.capfam (hid hmx) hrs'
      refine ⟨_, E', run hg, l1, ?_, ?_, fun o l => (l4 o l).imp_right fun h => ⟨hmx, h⟩⟩
      · exact l2
      · rw [hl] at l3; exact l3
  unfold sliceV at h
  split at h
  · rename_i l
    split at h
    case h_2 => simp at h
    rename_i ht
    split at h
    case isFalse => simp at h
    rename_i hmx
    obtain rfl : mx = none := by simpa using hmx
    simp only [Option.map_eq_some_iff] at h
    obtain ⟨⟨g', a, b, m⟩, hbd, h⟩ := h
    simp only [Prod.mk.injEq] at h
    obtain ⟨rfl, rfl, rfl⟩ := h
    obtain ⟨s, rfl, rfl, hs⟩ := rep_str_iff.1 hx
    have hlen : (strInts s).length = s.size := by simp [strInts]
    cases mx' with
    | some _ => simp [RepO] at h3
    | none =>
    rw [hlen] at hbd
    obtain ⟨k1, k2, k3, k4, k5, k6⟩ := bounds_ok (P := P) (w := w) hbd hg h1 h2 h3 false (Nat.le_refl _)
    obtain rfl := k6 rfl
    refine ⟨.string (s.extract a b), E, ?_, Env.Le.refl E, sim, rep_str_iff.2 ⟨_, rfl, ?_, ?_⟩, fun o l => .inl l⟩
    · simp [Instr.sliceAt, Instr.slice, run_underlying (hC.str ht), k1]
    · simp only [strInts, ByteArray.data_extract, Array.toList_extract, List.extract_eq_take_drop, List.drop_take, List.map_take, List.map_drop]
    · rw [ByteArray.size_extract]; omega
  · rename_i o off n c z
    split at h
    case h_2 => simp at h
    rename_i e ht
    split at h
    case isFalse => simp at h
    rename_i hc
    obtain ⟨hu, -, -, he, hpos⟩ := hC.slice ht
    have hes := size_pos_info (P := P) (w := w) hC he
    simp only [Option.map_eq_some_iff] at h
    obtain ⟨⟨g', a, b, m⟩, hbd, h⟩ := h
    simp only [Prod.mk.injEq] at h
    obtain ⟨rfl, rfl, rfl⟩ := h
    obtain ⟨k1, k2, k3, k4, k5, k6⟩ := bounds_ok (P := P) (w := w) hbd hg h1 h2 h3 true hc.2
    simp only [RepV] at hx
    obtain ⟨l1, l2, ⟨ad, rfl, l3⟩, l4, l5⟩ := hx
    refine ⟨.slice (if m.getD c = a then some ad else (some ad).map (·.add (a * (C.row e).size))) (b - a) (m.getD c - a), E, ?_, Env.Le.refl E, sim, ?_, fun o l => .inl l⟩
    · simp only [Instr.sliceAt, Instr.slice, Sem.run_bind, run_underlying hu, Result.andThen_ok, k1, hes, Sem.run_pure]
    · simp only [RepV]
      refine ⟨l1, l2, ?_, by omega, by omega⟩
      by_cases hm : m.getD c = a
      · rw [if_pos hm]
        exact ⟨ad, rfl, fun h => by omega⟩
      · rw [if_neg hm]
        obtain rfl := l3 (by omega)
        refine ⟨_, rfl, fun _ => ?_⟩
        show Addr.add _ _ = _
        rw [Addr.add_lit, hc.1, ← Nat.add_mul]
  · split at h
    case h_2 => simp at h
    rename_i e ht
    obtain ⟨hu, -, -, he, hpos⟩ := hC.slice ht
    have hes := size_pos_info (P := P) (w := w) hC he
    simp only [Option.map_eq_some_iff] at h
    obtain ⟨⟨g', a, b, m⟩, hbd, h⟩ := h
    simp only [Prod.mk.injEq] at h
    obtain ⟨rfl, rfl, rfl⟩ := h
    obtain ⟨k1, k2, k3, k4, k5, k6⟩ := bounds_ok (P := P) (w := w) hbd hg h1 h2 h3 true (Nat.le_refl _)
    simp only [RepV] at hx; subst hx
    refine ⟨.slice (if m.getD 0 = a then none else (none : Option Addr).map (·.add (a * (C.row e).size))) (b - a) (m.getD 0 - a), E, ?_, Env.Le.refl E, sim, ?_, fun o l => .inl l⟩
    · simp only [Instr.sliceAt, Instr.slice, Sem.run_bind, run_underlying hu, Result.andThen_ok, k1, hes, Sem.run_pure]
    · simp only [RepV]
      have e1 : b - a = 0 := by omega
      have e2 : m.getD 0 - a = 0 := by omega
      rw [e1, e2]
      split <;> rfl
  · split at h
    case h_2 => simp at h
    rename_i e ht
    simp only [Option.bind_eq_some_iff] at h
    obtain ⟨⟨s, xs⟩, hl, h⟩ := h
    simp only at h
    split at h
    case isFalse => simp at h
    rename_i hsz
    exact tdcase (listRep hl hx) ht hsz h

/-! ### append -/
theorem run_app_room {st xt tt e : TypeId} {dx : TypeDesc} (ht : P.underlying st = some (.slice e)) (hx : P.underlying xt = some dx) (hdx : ∀ k, dx ≠ .int k) {size : Nat} (hs : ∀ w, (sizeOf e).run P w = .ok size w)
    {x : Value} {m : Nat} {news : List Value} (hl : (Builtin.lenOf x).run P w = .ok m w) (hf : (Builtin.firstCells size m x).run P w = .ok news.toArray w)
    {g n cap : Nat} {cur : Array Value} {ty : TypeId} (hg : w.heap[g]? = some (.cells cur ty (0, 0))) (hroom : n + m ≤ cap) (h1 : ∀ u ∈ news, u.oneCell' = true) (hfit : n * size + news.length ≤ cur.size) :
    (Builtin.append_ #[st, xt] tt #[.slice (some ⟨g, 0, none⟩) n cap, x]).run P w =
      .ok (.slice (some ⟨g, 0, none⟩) (n + m) cap) (w.setRow g (cur.toList.take (n * size) ++ news ++ cur.toList.drop (n * size + news.length)).toArray) := by
  have hst := run_storeCells_at P g (n * size) ty news 0 cur w hg (by simpa using hfit) h1
  simp only [Nat.add_zero] at hst
  have hz : (match dx with | .int _ => true | _ => false) = false := by cases dx with | int k => exact absurd rfl (hdx k) | _ => rfl
  simp [Builtin.append_, run_underlying ht, run_underlying hx, hs, hz, hl, hroom, hf, Addr.add_lit, hst]

theorem run_app_none {st xt tt e : TypeId} {dx : TypeDesc} (ht : P.underlying st = some (.slice e)) (hx : P.underlying xt = some dx) (hdx : ∀ k, dx ≠ .int k) {size : Nat} (hs : ∀ w, (sizeOf e).run P w = .ok size w)
    {x : Value} (hl : (Builtin.lenOf x).run P w = .ok 0 w) (hf : (Builtin.firstCells size 0 x).run P w = .ok #[] w) {a : Option Addr} {n cap : Nat} (hroom : n ≤ cap) :
    (Builtin.append_ #[st, xt] tt #[.slice a n cap, x]).run P w = .ok (.slice a n cap) w := by
  have hz : (match dx with | .int _ => true | _ => false) = false := by cases dx with | int k => exact absurd rfl (hdx k) | _ => rfl
  cases a <;> simp [Builtin.append_, run_underlying ht, run_underlying hx, hs, hz, hl, hroom, hf, storeCells]

theorem run_app_grow {st xt tt e : TypeId} {dx : TypeDesc} (ht : P.underlying st = some (.slice e)) (hx : P.underlying xt = some dx) (hdx : ∀ k, dx ≠ .int k) {size : Nat} (hs : ∀ w, (sizeOf e).run P w = .ok size w)
    {i : TypeInfo} {z : Value} (hi : P.info? e = some i) (hz : i.zero = some z)
    {x : Value} {m : Nat} {olds news : List Value} (hl : (Builtin.lenOf x).run P w = .ok m w) {a : Option Addr} {n cap : Nat} (hfo : (Builtin.firstCells size n (.slice a n cap)).run P w.drew = .ok olds.toArray w.drew) (hf : (Builtin.firstCells size m x).run P w.drew = .ok news.toArray w.drew)
    (hg : cap < n + m) (h63 : n + m ≤ 9223372036854775807) (hfit : Builtin.nextslicecap (n + m) cap * i.bytes ≤ 281474976710656) :
    (Builtin.append_ #[st, xt] tt #[.slice a n cap, x]).run P w =
      .ok (.slice (some ⟨w.heap.size, 0, none⟩) (n + m) (grownCap w (n + m) cap e)) (w.drew.alloc (.cells (olds ++ news ++ (Builtin.zeroCells z.cells (grownCap w (n + m) cap e - (n + m))).toList).toArray e)) := by
  have hn : ¬ (n + m ≤ cap) := by omega
  have h63' : ¬ (9223372036854775807 < ((n : Int) + (m : Int))) := by omega
  have h48' : ¬ (281474976710656 < Builtin.nextslicecap (n + m) cap * i.bytes) := by omega
  have hzz : (match dx with | .int _ => true | _ => false) = false := by cases dx with | int k => exact absurd rfl (hdx k) | _ => rfl
  simp [Builtin.append_, run_underlying ht, run_underlying hx, hs, hzz, hl, typeInfo, zeroValue, hi, hz, hn, h63', h48', Question.forced, hf, hfo, newRow, grownCap]
  congr 2
  apply Array.ext'
  simp
end
end Go.Proofs.Ytdhbelpejaobdaa.Ev
