/- One operation after the other, continued: what is made anew; slices of slices; append. -/
import Derived.Test.YtdhbelpejaobdaaEvI
namespace Go.Proofs.Ytdhbelpejaobdaa.Ev
open Go Go.RowKit
set_option linter.unusedVariables false
set_option linter.unusedSimpArgs false

section
variable {P : Program} {C : Ctx} {E : Env} {w w0 : World} {base : Nat} {S : List Ent}

/-- nothing that was there is turned: blocks are new, draws are made -/
structure Wider (w w' : World) : Prop where
  os : w'.os = w.os
  tape : w'.tape = w.tape
  output : w'.output = w.output
  size : w.heap.size ≤ w'.heap.size
  block : ∀ k, k < w.heap.size → w'.heap[k]? = w.heap[k]?
theorem Wider.refl (w : World) : Wider w w := ⟨rfl, rfl, rfl, Nat.le_refl _, fun _ _ => rfl⟩
theorem Wider.alloc (w : World) (o : Obj) : Wider w (w.alloc o) := ⟨rfl, rfl, rfl, by simp, fun k hk => heap_alloc_old w o k hk⟩
theorem Wider.drew_alloc (w : World) (o : Obj) : Wider w (w.drew.alloc o) := ⟨rfl, rfl, rfl, by simp, fun k hk => heap_alloc_old w.drew o k hk⟩
theorem Wider.below {w w' : World} (h : Wider w w') {B : Nat} (hB : B ≤ w.heap.size) : Below B w w' := ⟨h.os, h.tape, h.output, h.size, fun k hk => h.block k (by omega)⟩
theorem Wider.lies {w w' : World} (h : Wider w w') {m : Mem} (hm : m.lies w) : m.lies w' := by
  intro b o v hv
  have := hm b o v hv
  have hlt := World.block_lt_of_cell? w _ this
  rw [World.cell?_of_block (w := w) (h.block b hlt)]
  exact this

/-- what is made: new entries, new facts on new blocks; all that was there stays -/
theorem Sim.made [tI : Tst] (sim : Sim base w0 E S w) {E' : Env} {w' : World} (hw : Wider w w') (hle : E.Le E') (ch : Nat → Prop) (S' : List Ent) (hlen : S'.length = S.length)
    (hsame : ∀ i, ¬ ch i → ent S' i = ent S i ∧ (E.live i → E'.ex i = E.ex i ∧ E'.len i = E.len i))
    (hmold : ∀ b, b < w.heap.size → ∀ j, E'.m b j = E.m b j) (hm : E'.m.lies w')
    (hnew : ∀ i, ch i → EntOK E' base w' i (ent S' i))
    (hown : ∀ i B, ch i → owns E' i (ent S' i) = some B → w.heap.size ≤ B)
    (hch : ∀ i i' B, ch i → ch i' → i ≠ i' → owns E' i (ent S' i) = some B → owns E' i' (ent S' i') = some B → False)
    (hlt : ∀ i, E'.live i → E.live i ∨ i < S.length) : Sim base w0 E' S' w' := by
  refine sim.step hle (hw.below sim.base_le) ch hsame ?_ hm hnew ?_ hch ?_ (fun b hb j => hmold b (Nat.lt_of_lt_of_le hb sim.base_le) j)
  · intro i B hi hb
    have := owns_lt sim hb
    exact ⟨hw.block B this.2, fun j => hmold B this.2 j⟩
  · intro i B hi hb i' hi' hb'
    have := owns_lt sim hb'
    have := hown i B hi hb
    omega
  · intro i l
    rw [hlen]
    rcases hlt i l with h | h
    · exact sim.lt _ h
    · exact h

/-- a new object -/
theorem Sim.obj [tI : Tst] (sim : Sim base w0 E S w) {id : Nat} (hid : ¬ E.live id) (hlt : id < S.length) {cs : List V} {zs : List Value} (ty : TypeId)
    (hr : RepVs E cs zs) (h1 : ∀ z ∈ zs, z.oneCell' = true) : ∃ E', E.Le E' ∧ Sim base w0 E' (S.set id (.obj cs)) (w.alloc (.cells zs.toArray ty)) ∧ RepV E' (.p id 0) (.pointer (some ⟨w.heap.size, 0, none⟩)) ∧ ∀ o, E'.live o → E.live o ∨ o = id := by
  have hle := Env.le_add hid w.heap.size 0 undef 0 none
  refine ⟨_, hle, ?_, ?_, ?_⟩
  · refine sim.made (Wider.alloc w _) hle (fun i => i = id) _ (by rw [List.length_set]) ?_ (fun _ _ _ => rfl) ((Wider.alloc w _).lies sim.mem) ?_ ?_ ?_ ?_
    · intro i hi
      exact ⟨ent_set_ne _ hi, fun l => ⟨if_neg (h := instDecidableEqNat i id) hi, if_neg (h := instDecidableEqNat i id) hi⟩⟩
    · rintro i rfl
      rw [ent_set_same _ hlt]
      have hb : (E.add i w.heap.size 0 undef 0 none).blk i = w.heap.size := by simp [Env.add]
      refine ⟨.inl rfl, by rw [hb]; exact sim.base_le, zs, ty, by rw [hb]; exact heap_alloc_new w _, RepVs.mono hle _ _ hr, h1, fun j => ?_⟩
      rw [hb]
      exact lies_none sim.mem (Nat.le_refl _) j
    · rintro i B rfl hb
      rw [ent_set_same _ hlt] at hb
      simp only [owns, Env.add, if_true, Option.some.injEq] at hb
      omega
    · rintro i i' B rfl rfl hne; exact absurd rfl hne
    · rintro i (rfl | l)
      · exact .inr hlt
      · exact .inl l
  · simp only [RepV, Env.add, if_true]; exact ⟨.inl trivial, trivial⟩
  · rintro i (rfl | l)
    · exact .inr rfl
    · exact .inl l

/-- a family of no elements yet -/
theorem Sim.nilfam [tI : Tst] (sim : Sim base w0 E S w) {id : Nat} (hid : ¬ E.live id) (hlt : id < S.length) (t : Ty) : ∃ E', E.Le E' ∧ Sim base w0 E' (S.set id (.fam 0)) w ∧ RepV E' (.own id t ([] : List t.den)) (.slice none 0 0) ∧ ∀ o, E'.live o → E.live o ∨ o = id := by
  have hle := Env.le_add hid 0 t.size (.slice none 0 0) 0 none
  refine ⟨_, hle, ?_, ?_, ?_⟩
  · refine sim.made (Wider.refl w) hle (fun i => i = id) _ (by rw [List.length_set]) ?_ (fun _ _ _ => rfl) sim.mem ?_ ?_ ?_ ?_
    · intro i hi
      exact ⟨ent_set_ne _ hi, fun l => ⟨if_neg (h := instDecidableEqNat i id) hi, if_neg (h := instDecidableEqNat i id) hi⟩⟩
    · rintro i rfl
      rw [ent_set_same _ hlt]
      refine ⟨.inl rfl, by simp [Env.add], ?_⟩
      unfold FamOK
      simp [Env.add]
    · rintro i B rfl hb
      rw [ent_set_same _ hlt] at hb
      simp [owns, Env.add] at hb
    · rintro i i' B rfl rfl hne; exact absurd rfl hne
    · rintro i (rfl | l)
      · exact .inr hlt
      · exact .inl l
  · simp only [RepV, Env.add, if_true]
    exact ⟨⟨_, ⟨none, 0, rfl, Nat.le_refl _, Nat.zero_le _, Nat.zero_le _, rfl, rfl⟩, rfl⟩, .inl trivial, trivial, Nat.le_refl _, fun _ => trivial⟩
  · rintro i (rfl | l)
    · exact .inr rfl
    · exact .inl l

/-- families of no elements, as many as there are slices among fresh cells -/
theorem Sim.zeros [tI : Tst] : ∀ (ts : List Ty) (id : Nat) {E : Env} {S : List Ent} {w : World} {zs : List Value}, Sim base w0 E S w → (∀ j, id ≤ j → j < id + slices ts → ¬ E.live j ∧ j < S.length) → zerosB ts zs = true →
    ∃ E', E.Le E' ∧ Sim base w0 E' (sets S (zeroFams ts id)) w ∧ RepVs E' (Ev.zeros ts id) zs ∧ (∀ z ∈ zs, z.oneCell' = true) ∧ ∀ o, E'.live o → E.live o ∨ (id ≤ o ∧ o < id + slices ts)
  | [], id, E, S, w, [], sim, _, _ => ⟨E, Env.Le.refl E, sim, by simp [Ev.zeros, RepVs], by simp, fun _ l => .inl l⟩
  | .bo :: ts, id, E, S, w, z :: zs, sim, hid, hz => by
    simp only [zerosB, Bool.and_eq_true] at hz
    obtain ⟨E', h1, h2, h3, h4, h5⟩ := Sim.zeros ts id sim hid hz.2
    have : z = .bool false := by have := hz.1; unfold zeroB at this; split at this <;> simp_all
    subst this
    refine ⟨E', h1, h2, ?_, by simpa [Value.oneCell'] using h4, h5⟩
    simp only [Ev.zeros, RepVs]; exact ⟨rep_bool false, h3⟩
  | .it k :: ts, id, E, S, w, z :: zs, sim, hid, hz => by
    simp only [zerosB, Bool.and_eq_true] at hz
    obtain ⟨E', h1, h2, h3, h4, h5⟩ := Sim.zeros ts id sim hid hz.2
    have : z = .int k 0 := by have := hz.1; cases z <;> simp [zeroB] at this; simp [this]
    subst this
    refine ⟨E', h1, h2, ?_, by simpa [Value.oneCell'] using h4, h5⟩
    have hr := range_neg k
    simp only [Ev.zeros, RepVs]; exact ⟨rep_int (n := 0) ⟨hr.1, hr.2.1⟩, h3⟩
  | .st :: ts, id, E, S, w, z :: zs, sim, hid, hz => by
    simp only [zerosB, Bool.and_eq_true] at hz
    obtain ⟨E', h1, h2, h3, h4, h5⟩ := Sim.zeros ts id sim hid hz.2
    have : ∃ s : ByteArray, z = .string s ∧ s.size = 0 := by have := hz.1; cases z <;> simp [zeroB] at this; exact ⟨_, rfl, by simp [this]⟩
    obtain ⟨s, rfl, hs⟩ := this
    refine ⟨E', h1, h2, ?_, by simpa [Value.oneCell'] using h4, h5⟩
    simp only [Ev.zeros, RepVs]
    refine ⟨rep_str_iff.2 ⟨s, rfl, ?_, by simp [hs, maxL]⟩, h3⟩
    have : (strInts s).length = 0 := by simp [strInts, hs]
    exact List.eq_nil_of_length_eq_zero this
  | .ni :: ts, id, E, S, w, z :: zs, sim, hid, hz => by
    simp only [zerosB, Bool.and_eq_true] at hz
    obtain ⟨E', h1, h2, h3, h4, h5⟩ := Sim.zeros ts id sim hid hz.2
    have : z = .pointer none := by have := hz.1; unfold zeroB at this; split at this <;> simp_all
    subst this
    refine ⟨E', h1, h2, ?_, by simpa [Value.oneCell'] using h4, h5⟩
    simp only [Ev.zeros, RepVs]; exact ⟨rep_nil_iff.2 rfl, h3⟩
  | .li t :: ts, id, E, S, w, z :: zs, sim, hid, hz => by
    simp only [zerosB, Bool.and_eq_true] at hz
    simp only [slices] at hid
    have : z = .slice none 0 0 := by
      have := hz.1
      unfold zeroB at this
      split at this <;> simp_all
    subst this
    obtain ⟨i1, i2⟩ := hid id (Nat.le_refl _) (by omega)
    obtain ⟨E1, k1, k2, k3, k4⟩ := sim.nilfam i1 i2 t
    obtain ⟨E', h1, h2, h3, h4, h5⟩ := Sim.zeros ts (id + 1) k2 (by
      intro j hj hj'
      obtain ⟨j1, j2⟩ := hid j (by omega) (by omega)
      refine ⟨fun l => ?_, by rw [List.length_set]; exact j2⟩
      rcases k4 j l with l | l
      · exact j1 l
      · omega) hz.2
    refine ⟨E', k1.trans h1, h2, ?_, by simpa [Value.oneCell'] using h4, ?_⟩
    · simp only [Ev.zeros, RepVs]; exact ⟨RepV.mono h1 _ _ k3, h3⟩
    · intro o l
      simp only [slices]
      rcases h5 o l with l | l
      · rcases k4 o l with l | l
        · exact .inl l
        · right; omega
      · right; omega
  | .ue :: ts, id, E, S, w, z :: zs, sim, _, hz => by simp [zerosB, zeroB] at hz
  | .co _ _ :: ts, id, E, S, w, z :: zs, sim, _, hz => by simp [zerosB, zeroB] at hz
  | .ar _ _ :: ts, id, E, S, w, z :: zs, sim, _, hz => by simp [zerosB, zeroB] at hz
  | [], _, _, _, _, _ :: _, _, _, hz => by simp [zerosB] at hz
  | _ :: _, _, _, _, _, [], _, _, hz => by simp [zerosB] at hz

theorem sets_append : ∀ (us vs : List (Nat × Ent)) (S : List Ent), sets S (us ++ vs) = sets (sets S us) vs
  | [], _, _ => rfl
  | (n, e) :: us, vs, S => by simp only [List.cons_append, sets]; exact sets_append us vs _
theorem set_comm (S : List Ent) {a b : Nat} (h : a ≠ b) (x y : Ent) : (S.set a x).set b y = (S.set b y).set a x := List.set_comm _ _ h
theorem sets_set [tI : Tst] : ∀ (us : List (Nat × Ent)) (S : List Ent) (n : Nat) (e : Ent), (∀ x ∈ us, x.1 ≠ n) → sets (S.set n e) us = (sets S us).set n e
  | [], _, _, _, _ => rfl
  | (m, f) :: us, S, n, e, h => by
    simp only [sets]
    have hne := h (m, f) (List.mem_cons_self ..)
    rw [set_comm S (fun k => hne k.symm), sets_set us _ n e (fun x hx => h x (List.mem_cons_of_mem _ hx))]
theorem zeroFams_ne : ∀ (ts : List Ty) (id : Nat), ∀ x ∈ zeroFams ts id, id ≤ x.1
  | [], _, _, h => by simp [zeroFams] at h
  | t :: ts, id, x, h => by
    cases t <;> simp only [zeroFams, List.mem_cons] at h <;> first
      | exact zeroFams_ne ts id x h
      | (rcases h with rfl | h
         · exact Nat.le_refl _
         · have := zeroFams_ne ts (id + 1) x h; omega)

theorem alloc_ok [tI : Tst] (hC : RowsOK P C) (sim : Sim base w0 E S w) {t : TypeId} (hg : (C.row t).td.good = true) {id : Nat} (hid : ∀ j, id ≤ j → j < id + (1 + slices (C.row t).cells) → ¬ E.live j ∧ j < S.length) :
    ∃ u w' E', (Instr.alloc t true (.tuple #[])).run P w = .ok u w' ∧ E.Le E' ∧ Sim base w0 E' (sets S ((id, .obj (Ev.zeros (C.row t).cells (id + 1))) :: zeroFams (C.row t).cells (id + 1))) w' ∧ RepV E' (.p id 0) u ∧
      ∀ o, E'.live o → E.live o ∨ (id ≤ o ∧ o < id + (1 + slices (C.row t).cells)) := by
  obtain ⟨i, z, h1, h2, h3, h4, h5⟩ := (hC.row hg).info
  obtain ⟨E1, k1, k2, k3, k4, k5⟩ := sim.zeros (C.row t).cells (id + 1) (fun j hj hj' => hid j (by omega) (by omega)) h5
  obtain ⟨i1, i2⟩ := hid id (Nat.le_refl _) (by omega)
  have i1' : ¬ E1.live id := by intro l; rcases k5 id l with l | l; exact i1 l; omega
  obtain ⟨E2, l1, l2, l3, l4⟩ := k2.obj i1' (by rw [length_sets]; exact i2) t k3 k4
  refine ⟨_, w.alloc (.cells z.cells.toList.toArray t), E2, ?_, k1.trans l1, ?_, l3, ?_⟩
  · have hz : (zeroValue t).run P w = .ok z w := by simp [zeroValue, typeInfo, h1, h4]
    simp only [Instr.alloc, Sem.run_bind, Sem.run_pure, Result.andThen_ok, hz, newVar, newRow, Array.toArray_toList]
    rfl
  · simp only [sets]
    rw [sets_set _ _ _ _ (fun x hx => by have := zeroFams_ne _ _ x hx; omega)]
    simpa using l2
  · intro o l
    rcases l4 o l with l | rfl
    · rcases k5 o l with l | l
      · exact .inl l
      · right; omega
    · right; omega
theorem box_ok [tI : Tst] (sim : Sim base w0 E S w) {t : TypeId} {id : Nat} (hid : ¬ E.live id ∧ id < S.length) {x : V} {u : Value} {vs : List V} (hx : RepV E x u) (hf : flatV x = some vs) :
    ∃ z w' E', (Instr.box t u).run P w = .ok z w' ∧ E.Le E' ∧ Sim base w0 E' (S.set id (.obj vs)) w' ∧ RepV E' (.p id 0) z ∧ ∀ o, E'.live o → E.live o ∨ o = id := by
  obtain ⟨zs, h1, h2, h3⟩ := flatV_rep hf hx
  obtain ⟨E2, l1, l2, l3, l4⟩ := sim.obj hid.1 hid.2 t h2 h3
  exact ⟨_, _, E2, by simp only [Instr.box, newVar, newRow, h1]; rfl, l1, l2, l3, l4⟩

/-- facts on a new block -/
def Mem.put (m : Mem) (B : Nat) (us : List Value) : Mem := fun b o => if b = B then us[o]? else m b o
theorem Mem.le_put {m : Mem} {B : Nat} {us : List Value} (h : ∀ o, m B o = none) : m.le (m.put B us) := by
  intro b o v hv
  unfold Mem.put
  split
  · rename_i e; subst e; rw [h] at hv; simp at hv
  · exact hv
theorem Mem.lies_put [tI : Tst] {m : Mem} {w' : World} (hm : m.lies w') {B : Nat} {us rest : List Value} {ty : TypeId} {fr : Nat × Nat} (hh : w'.heap[B]? = some (.cells (us ++ rest).toArray ty fr)) : (m.put B us).lies w' := by
  intro b o v hv
  unfold Mem.put at hv
  split at hv
  · rename_i e; subst e
    rw [cell_row hh, List.getElem?_append_left (List.getElem?_eq_some_iff.1 hv).1]
    exact hv
  · exact hm b o v hv
theorem lies_put {m : Mem} {B : Nat} {us : List Value} (a n : Nat) : Lies (m.put B us) B (0 + a) ((us.drop a).take n) := by
  intro i u hu
  rw [List.getElem?_take] at hu
  split at hu
  · rw [List.getElem?_drop] at hu
    unfold Mem.put
    rw [if_pos rfl, Nat.zero_add]
    exact hu
  · simp at hu
/-- a slice that takes a new block up -/
theorem repL_new [tI : Tst] {m m' : Mem} (hle : m.le m') {t : Ty} {xs : List t.den} {B : Nat} {us : List Value} {c : Nat} (hput : ∀ o v, us[o]? = some v → m' B o = some v) (hel : ∀ i (h : i < List.length xs), RepL m t xs[i] ((us.drop (i * t.size)).take t.size))
    (hc : List.length xs ≤ c) (hmax : List.length xs ≤ maxL) (hcm : c ≤ maxLen) : RepL m' (.li t) xs [.slice (some ⟨B, 0, none⟩) (List.length xs) c] := by
  refine ⟨some ⟨B, 0, none⟩, c, rfl, hc, hmax, hcm, fun _ => rfl, fun i hi => ⟨_, ?_, RepL.mono hle _ _ _ (hel i hi)⟩⟩
  intro j u hu
  rw [List.getElem?_take] at hu
  split at hu
  · rw [List.getElem?_drop] at hu
    simp only [Nat.zero_add]
    exact hput _ _ hu
  · simp at hu

/-- new facts on a new block, and no more -/
theorem Sim.facts [tI : Tst] (sim : Sim base w0 E S w) {w' : World} (hw : Wider w w') {us rest : List Value} {ty : TypeId} {fr : Nat × Nat} (hh : w'.heap[w.heap.size]? = some (.cells (us ++ rest).toArray ty fr)) :
    E.Le (E.setM (E.m.put w.heap.size us)) ∧ Sim base w0 (E.setM (E.m.put w.heap.size us)) S w' := by
  have hle : E.Le (E.setM (E.m.put w.heap.size us)) := Env.le_setM (Mem.le_put (lies_none sim.mem (Nat.le_refl _)))
  refine ⟨hle, sim.made hw hle (fun _ => False) S rfl (fun i _ => ⟨rfl, fun _ => ⟨rfl, rfl⟩⟩) ?_ (Mem.lies_put (hw.lies sim.mem) hh) (fun _ h => h.elim) (fun _ _ h => h.elim) (fun _ _ _ h => h.elim) (fun i l => .inl l)⟩
  intro b hb j
  show (E.m.put _ us) b j = _
  unfold Mem.put
  rw [if_neg (by omega)]

/-- an entry told in other words -/
theorem Sim.retell [tI : Tst] (sim : Sim base w0 E S w) {o : Nat} {e : Ent} (ho : o < S.length) (hown : owns E o e = owns E o (ent S o)) (hok : EntOK E base w o e) : Sim base w0 E (S.set o e) w where
  below := sim.below
  base_le := sim.base_le
  mem := sim.mem
  old := sim.old
  lt i l := by rw [List.length_set]; exact sim.lt i l
  ents i := by
    by_cases h : i = o
    · subst h; rw [ent_set_same _ ho]; exact hok
    · rw [ent_set_ne _ h]; exact sim.ents i
  apart i j B hne h1 h2 := by
    have key : ∀ i, owns E i (ent (S.set o e) i) = owns E i (ent S i) := by
      intro i
      by_cases h : i = o
      · subst h; rw [ent_set_same _ ho]; exact hown
      · rw [ent_set_ne _ h]
    rw [key] at h1 h2
    exact sim.apart i j B hne h1 h2
theorem Sim.tolit [tI : Tst] {id n g : Nat} (sim : Sim base w0 E (S.set id (.fam n)) w) (hlt : id < S.length) (hx : E.ex id = some g) : Sim base w0 E (S.set id (.lit n)) w := by
  have h := sim.ents id
  rw [ent_set_same _ hlt] at h
  have := sim.retell (o := id) (e := .lit n) (by rw [List.length_set]; exact hlt) (by rw [ent_set_same _ hlt]; rfl) ⟨h, g, hx⟩
  rwa [List.set_set] at this
theorem Sim.delit [tI : Tst] (sim : Sim base w0 E S w) {o n : Nat} (ho : o < S.length) (he : ent S o = .lit n) : Sim base w0 E (S.set o (.fam n)) w := by
  have h := sim.ents o
  rw [he] at h
  exact sim.retell ho (by rw [he]; rfl) h.1
/-- a new block that a new family takes up -/
theorem Sim.newfam [tI : Tst] (sim : Sim base w0 E S w) {id : Nat} (hid : ¬ E.live id ∧ id < S.length) {t : Ty} {xs : List t.den} {w' : World} (hw : Wider w w') {us rest : List Value} {ty : TypeId} {cap : Nat}
    (hh : w'.heap[w.heap.size]? = some (.cells (us ++ rest).toArray ty (0, 0))) (hl : us.length = List.length xs * t.size) (hcap : (us ++ rest).length = cap * t.size) (hc : List.length xs ≤ cap) (hcm : cap ≤ maxLen) (hmax : List.length xs ≤ maxL)
    (hel : ∀ i (h : i < List.length xs), RepL E.m t xs[i] ((us.drop (i * t.size)).take t.size)) :
    ∃ E', E.Le E' ∧ Sim base w0 E' (S.set id (.fam (List.length xs))) w' ∧ RepV E' (.own id t xs) (.slice (some ⟨w.heap.size, 0, none⟩) (List.length xs) cap) ∧ (∀ o, E'.live o → E.live o ∨ o = id) ∧ E'.ex id = some w.heap.size := by
  have hle1 := Env.le_add hid.1 0 t.size (.slice (some ⟨w.heap.size, 0, none⟩) (List.length xs) cap) (List.length xs) (some w.heap.size)
  have hput : E.m.le (E.m.put w.heap.size us) := Mem.le_put (lies_none sim.mem (Nat.le_refl _))
  have hle : E.Le ((E.add id 0 t.size (.slice (some ⟨w.heap.size, 0, none⟩) (List.length xs) cap) (List.length xs) (some w.heap.size)).setM (E.m.put w.heap.size us)) := hle1.trans (Env.le_setM hput)
  refine ⟨_, hle, ?_, ?_, ?_⟩
  · refine sim.made hw hle (fun i => i = id) _ (by rw [List.length_set]) ?_ ?_ (Mem.lies_put (hw.lies sim.mem) hh) ?_ ?_ ?_ ?_
    · intro i hi
      exact ⟨ent_set_ne _ hi, fun l => ⟨if_neg (h := instDecidableEqNat i id) hi, if_neg (h := instDecidableEqNat i id) hi⟩⟩
    · intro b hb j
      show (E.m.put _ us) b j = _
      unfold Mem.put
      rw [if_neg (by omega)]
    · rintro i rfl
      rw [ent_set_same _ hid.2]
      refine ⟨.inl rfl, by simp [Env.add, Env.setM], ?_⟩
      unfold FamOK
      simp only [Env.add, Env.setM, if_true]
      refine ⟨cap, _, ty, rfl, sim.base_le, hh, hc, hcm, by simpa using hcap, fun j hj => ?_⟩
      unfold Mem.put
      rw [if_pos rfl]
      exact List.getElem?_eq_none (by omega)
    · rintro i B rfl hb
      rw [ent_set_same _ hid.2] at hb
      simp only [owns, Env.add, Env.setM, if_true, Option.some.injEq] at hb
      omega
    · rintro i i' B rfl rfl hne; exact absurd rfl hne
    · rintro i (rfl | l)
      · exact .inr hid.2
      · exact .inl l
  · simp only [RepV, Env.add, Env.setM, if_true]
    refine ⟨repl_sub.1 (repL_new hput (fun o v hv => by unfold Mem.put; rw [if_pos rfl]; exact hv) hel hc hmax hcm), .inl trivial, trivial, Nat.le_refl _, fun _ => trivial⟩
  · refine ⟨?_, by simp [Env.add, Env.setM]⟩
    rintro i (rfl | l)
    · exact .inr rfl
    · exact .inl l

theorem byte_range (b : UInt8) : IntKind.u8.min ≤ (b.toNat : Int) ∧ (b.toNat : Int) ≤ IntKind.u8.max := by
  have := b.toNat_lt
  simp [IntKind.min, IntKind.max, IntKind.bits, IntKind.signed]
  omega
theorem grownCap_small (w : World) {need old : Nat} (e : TypeId) (h : need ≤ maxL) : grownCap w need old e ≤ maxLen := grownCap_le_maxLen w need old e (by simp only [maxL, maxLen] at *; omega)

/-- bytes of a string that the code bears -/
theorem conv_new [tI : Tst] (hC : RowsOK P C) (sim : Sim base w0 E S w) {src dst : TypeId} {x v : V} {u : Value} (h : convV C src dst x = some v) (hx : RepV E x u) {e : TypeId} (hd : (C.row dst).td = .slice e) :
    ∃ z w' E', (convert src dst u).run P w = .ok z w' ∧ E.Le E' ∧ Sim base w0 E' S w' ∧ RepV E' v z ∧ ∀ o, E'.live o → E.live o := by
  unfold convV at h
  rw [hd] at h
  cases hs : (C.row src).td <;> rw [hs] at h <;> simp only [] at h
  all_goals try (simp at h; done)
  split at h
  case h_2 => simp at h
  rename_i he
  split at h
  case h_2 => simp at h
  rename_i l
  simp only [Option.some.injEq] at h; subst h
  obtain ⟨s, rfl, rfl, h3⟩ := rep_str_iff.1 hx
  have hrun := run_bytes_of_string (P := P) w src dst e s (hC.str hs) (hC.slice hd).1 (hC.int he).1
  have hlen : (strInts s).length = s.size := by simp [strInts]
  have hus : bytesRow s (grownCap w s.size 0 e) = ((strInts s).map (Value.int .u8) ++ List.replicate (grownCap w s.size 0 e - s.size) (Value.int .u8 0)).toArray := by
    apply Array.ext'
    simp [bytesRow, strInts, List.map_map, Function.comp_def]
  rw [hus] at hrun
  obtain ⟨h4, h5⟩ := sim.facts (Wider.drew_alloc w _) (us := (strInts s).map (Value.int .u8)) (rest := List.replicate (grownCap w s.size 0 e - s.size) (Value.int .u8 0)) (heap_alloc_new w.drew _)
  refine ⟨_, _, _, hrun, h4, h5, ?_, fun o l => l⟩
  rw [show s.size = (strInts s).length from hlen.symm]
  refine rep_li_iff.2 (repL_new (m := E.m) (us := (strInts s).map (Value.int .u8)) h4.m (fun o v hv => ?_) (fun i hi => ?_) ?_ (by omega) ?_)
  · show (E.m.put _ _) _ _ = _
    unfold Mem.put
    rw [if_pos rfl]; exact hv
  · have : i < (strInts s).length := hi
    have e1 : (((strInts s).map (Value.int .u8)).drop (i * 1)).take 1 = [Value.int .u8 (strInts s)[i]] := by
      rw [Nat.mul_one, List.drop_eq_getElem_cons (by simpa using this), List.take_succ_cons, List.take_zero, List.getElem_map]
    show RepL E.m (.it .u8) (strInts s)[i] ((((strInts s).map (Value.int .u8)).drop (i * 1)).take 1)
    rw [e1]
    refine ⟨rfl, ?_⟩
    have hb : ∃ b : UInt8, (strInts s)[i] = (b.toNat : Int) := by
      have hm := List.getElem_mem this
      unfold strInts at hm
      obtain ⟨b, _, hb⟩ := List.mem_map.1 hm
      exact ⟨b, hb.symm⟩
    obtain ⟨b, hb⟩ := hb
    rw [hb]
    exact byte_range b
  · rw [hlen]; exact grownCap_ge w _ _ _
  · rw [hlen]; exact grownCap_small w e h3
end
end Go.Proofs.Ytdhbelpejaobdaa.Ev
