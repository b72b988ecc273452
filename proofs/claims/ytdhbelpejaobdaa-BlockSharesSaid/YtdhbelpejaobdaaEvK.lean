/- One operation after the other, continued: structs and slices that are built; slices of slices; append. -/
import Derived.Test.YtdhbelpejaobdaaEvJ
namespace Go.Proofs.Ytdhbelpejaobdaa.Ev
open Go Go.RowKit
set_option linter.unusedVariables false
set_option linter.unusedSimpArgs false

section
variable {P : Program} {C : Ctx} {E : Env} {w w0 : World} {base : Nat} {S : List Ent}

def replL {α : Type} (cs : List α) (off : Nat) (vs : List α) : List α := cs.take off ++ vs ++ cs.drop (off + vs.length)
theorem foldl_set (off : Nat) : ∀ (vs : List Value) (k : Nat) (cs : Array Value), off + k + vs.length ≤ cs.size →
    (((vs.zipIdx k).foldl (fun (cs : Array Value) (x : Value × Nat) => cs.setIfInBounds (off + x.2) x.1) cs)).toList = replL cs.toList (off + k) vs
  | [], k, cs, _ => by simp [replL]
  | v :: vs, k, cs, h => by
    simp only [List.length_cons] at h
    simp only [List.zipIdx_cons, List.foldl_cons]
    rw [foldl_set off vs (k + 1) _ (by simp; omega)]
    have hk : off + k < cs.toList.length := by simp; omega
    simp only [replL, Array.toList_setIfInBounds, List.length_cons]
    rw [← Nat.add_assoc off k 1, List.drop_set_of_lt (by omega), List.take_succ_eq_append_getElem (by simpa using hk), List.take_set_of_le (Nat.le_refl _)]
    simp only [List.getElem_set_self, List.append_assoc, List.singleton_append]
    congr 3
    rw [show off + k + 1 + vs.length = off + k + (vs.length + 1) from by omega]
theorem fill_step [tI : Tst] {place : Nat → Option (Nat × Nat)} {cells : Array Value} {i off size : Nat} {v : Value} {rest : List (Nat × Value)} {zs : List Value} (hp : place i = some (off, size)) (hv : v.cells = zs.toArray) (hl : zs.length = size) (hfit : off + size ≤ cells.size) :
    ∃ cells' : Array Value, cells'.toList = replL cells.toList off zs ∧ Instr.fill place cells ((i, v) :: rest) = Instr.fill place cells' rest := by
  have h1 : ¬ (decide (v.cells.size ≠ size) || decide (off + v.cells.size > cells.size)) = true := by rw [hv]; simp; omega
  refine ⟨_, ?_, by rw [Instr.fill, hp]; simp only; rw [if_neg h1]⟩
  rw [hv, ← Array.foldl_toList]
  have := foldl_set off zs 0 cells (by omega)
  simpa using this

/-- a struct, an array, part after part -/
theorem fill_build [tI : Tst] {offs : Nat → Option (Nat × Nat)} : ∀ (ps : List (Nat × V)) (qs : List (Nat × Value)) (cs cs' : List V) (cells : Array Value), buildV offs ps cs = some cs' → ps.map (·.1) = qs.map (·.1) →
    (∀ (i : Nat) (a : Nat × V) (b : Nat × Value), ps[i]? = some a → qs[i]? = some b → RepV E a.2 b.2) → RepVs E cs cells.toList → (∀ u ∈ cells.toList, u.oneCell' = true) →
    ∃ cells' : Array Value, Instr.fill offs cells qs = some cells' ∧ RepVs E cs' cells'.toList ∧ (∀ u ∈ cells'.toList, u.oneCell' = true) ∧ cells'.size = cells.size
  | [], [], cs, cs', cells, h, _, _, hr, h1 => by
    simp only [buildV, Option.some.injEq] at h; subst h
    exact ⟨cells, rfl, hr, h1, rfl⟩
  | (i, v) :: ps, (j, u) :: qs, cs, cs', cells, h, hm, hp, hr, h1 => by
    simp only [List.map_cons, List.cons.injEq] at hm
    obtain ⟨rfl, hm⟩ := hm
    simp only [buildV] at h
    split at h
    · rename_i off size ho
      simp only [Option.bind_eq_some_iff] at h
      obtain ⟨vs, h2, h3⟩ := h
      split at h3
      · rename_i hc
        have hvu := hp 0 (i, v) (i, u) rfl rfl
        obtain ⟨zs, k1, k2, k3⟩ := flatV_rep h2 hvu
        have hl := k2.length
        have hlen := hr.length
        obtain ⟨cells1, l1, l2⟩ := fill_step (rest := qs) ho k1 (by omega) (cells := cells) (by have := hc.2; simp at hlen; omega)
        have hl1 : cells1.size = cells.size := by
          have := congrArg List.length l1
          simp only [replL, List.length_append, List.length_take, List.length_drop, Array.length_toList] at this hlen
          omega
        obtain ⟨cells', m1, m2, m3, m4⟩ := fill_build ps qs _ cs' cells1 h3 hm (fun i a b ha hb => hp (i + 1) a b (by simpa using ha) (by simpa using hb)) (by
          rw [l1]
          exact RepVs.repl off hr k2 (by omega)) (by
          rw [l1]
          intro z hz
          rcases List.mem_append.1 hz with hz | hz
          · rcases List.mem_append.1 hz with hz | hz
            · exact h1 z (List.mem_of_mem_take hz)
            · exact k3 z hz
          · exact h1 z (List.mem_of_mem_drop hz))
        exact ⟨cells', by rw [l2]; exact m1, m2, m3, by omega⟩
      · simp at h3
    · simp at h
  | [], _ :: _, _, _, _, _, hm, _, _, _ => by simp at hm
  | _ :: _, [], _, _, _, _, hm, _, _, _ => by simp at hm

theorem zeros_rep [tI : Tst] : ∀ (ts : List Ty) (zs : List Value), zerosB ts zs = true → RepVs E (ts.map fun t => V.d t t.dflt) zs ∧ ∀ z ∈ zs, z.oneCell' = true
  | [], [], _ => by simp [RepVs]
  | t :: ts, z :: zs, h => by
    simp only [zerosB, Bool.and_eq_true] at h
    obtain ⟨h1, h2⟩ := zeros_rep ts zs h.2
    have key : RepV E (.d t t.dflt) z ∧ z.oneCell' = true := by
      have hz := h.1
      unfold zeroB at hz
      split at hz
      · exact ⟨rep_bool false, rfl⟩
      · simp only [Bool.and_eq_true, beq_iff_eq] at hz
        obtain ⟨rfl, rfl⟩ := hz
        have hr := range_neg ‹IntKind›
        exact ⟨rep_int (n := 0) ⟨hr.1, hr.2.1⟩, rfl⟩
      · rename_i s
        have hs : s.size = 0 := by simpa using hz
        refine ⟨rep_str_iff.2 ⟨s, rfl, ?_, by simp [hs, maxL]⟩, rfl⟩
        exact List.eq_nil_of_length_eq_zero (by simp [strInts, hs])
      · exact ⟨rep_nil_iff.2 rfl, rfl⟩
      · exact ⟨rep_li_iff.2 ⟨none, 0, rfl, Nat.le_refl _, Nat.zero_le _, Nat.zero_le _, rfl, rfl⟩, rfl⟩
      · simp at hz
    simp only [List.map_cons, RepVs]
    exact ⟨⟨key.1, h1⟩, by simpa using ⟨key.2, h2⟩⟩
  | [], _ :: _, h => by simp [zerosB] at h
  | _ :: _, [], h => by simp [zerosB] at h

theorem mapM_fields [tI : Tst] (hC : RowsOK P C) : ∀ (y : Ty) (n : Nat) (fs : List (Nat × TypeId)) (gs : List Field), fieldsB C y n fs gs = true →
    (gs.mapM fun f => do pure (f.offset, ← sizeOf f.type) : Sem _).run P w = .ok (fs.map fun f => (f.1, (C.row f.2).size)) w
  | _, _, [], [], _ => by simp
  | y, n, (off, e) :: fs, g :: gs, h => by
    simp only [fieldsB, Bool.and_eq_true, beq_iff_eq] at h
    obtain ⟨⟨⟨⟨⟨h1, h2⟩, h3⟩, h4⟩, h5⟩, h6⟩ := h
    have ih := mapM_fields hC y (n + 1) fs gs h6
    have hs := size_pos_info (P := P) (w := w) hC h3
    simp only [List.mapM_cons, Sem.run_bind, h2, hs, Result.andThen_ok, Sem.run_pure, ih, h1, List.map_cons]
  | _, _, [], _ :: _, h => by simp [fieldsB] at h
  | _, _, _ :: _, [], h => by simp [fieldsB] at h

theorem build_ok [tI : Tst] (hC : RowsOK P C) {t : TypeId} {ps : Array (Nat × Operand)} {r : Operand → V} {q : Operand → Value} (hr : ∀ x, RepV E (r x) (q x)) {v : V} {us : List (Nat × Ent)} {g : Bool} {id : Nat} {o : Oper} (ho : o.op = .build t ps)
    (h : evOp C o id r S = some (g, v, us)) : us = [] ∧ ∃ z, (Instr.build t (ps.map fun (i, x) => (i, q x))).run P w = .ok z w ∧ RepV E v z := by
  unfold evOp at h
  rw [ho] at h
  simp only at h
  have go : ∀ offs : Nat → Option (Nat × Nat), (C.row t).td.good = true → ∀ cs, buildV offs (ps.toList.map fun (i, x) => (i, r x)) ((C.row t).cells.map fun t => V.d t t.dflt) = some cs →
      ∃ cells : Array Value, ∃ z : Value, (zeroValue t).run P w = .ok z w ∧ Instr.fill offs z.cells (ps.map fun (i, x) => (i, q x)).toList = some cells ∧ RepV E (.agg cs) (.agg cells) := by
    intro offs hg cs hb
    obtain ⟨i, z, h1, h2, h3, h4, h5⟩ := (hC.row hg).info
    obtain ⟨k1, k2⟩ := zeros_rep (E := E) _ _ h5
    obtain ⟨cells, l1, l2, l3, l4⟩ := fill_build (E := E) _ (ps.map fun (i, x) => (i, q x)).toList _ _ z.cells hb (by simp) (by
      intro i a b ha hb
      simp only [List.getElem?_map, Option.map_eq_some_iff, Array.toList_map] at ha hb
      obtain ⟨c, hc, rfl⟩ := ha
      obtain ⟨d, hd, rfl⟩ := hb
      rw [hc] at hd
      simp only [Option.some.injEq] at hd; subst hd
      exact hr _) k1 k2
    refine ⟨cells, z, by simp [zeroValue, typeInfo, h1, h4], l1, ?_⟩
    simp only [RepV]
    exact ⟨cells.toList, by simp, l2, l3⟩
  split at h
  · rename_i fs ht
    simp only [Option.bind_eq_some_iff, val, Option.some.injEq, Prod.mk.injEq] at h
    obtain ⟨cs, h1, rfl, rfl, rfl⟩ := h
    obtain ⟨gs, hu, hb⟩ := hC.struct ht
    have hm := mapM_fields (w := w) hC _ _ _ _ hb
    have hmA : (gs.mapM fun f => do pure (f.offset, ← sizeOf f.type) : Sem _).run P w = .ok (fs.map fun f => (f.1, (C.row f.2).size)).toArray w := by
      rw [← Array.toArray_toList (xs := gs), List.mapM_toArray]
      simp only [Sem.run_map, hm, Result.andThen_ok]
    obtain ⟨cells, z, k1, k2, k3⟩ := go _ (by rw [ht]; rfl) cs h1
    have hoffs : (fun (i : Nat) => ((fs.map fun (f : Nat × TypeId) => (f.1, (C.row f.2).size)).toArray)[i]?) = fun (i : Nat) => (fs[i]?).map fun (f : Nat × TypeId) => (f.1, (C.row f.2).size) := by
      funext i; simp
    refine ⟨rfl, _, ?_, k3⟩
    simp only [Instr.build, Sem.run_bind, k1, Result.andThen_ok, run_underlying hu, hmA, hoffs, k2]
    rfl
  · rename_i n e ht
    simp only [Option.bind_eq_some_iff, val, Option.some.injEq, Prod.mk.injEq] at h
    obtain ⟨cs, h1, rfl, rfl, rfl⟩ := h
    obtain ⟨hu, -, -, he, hpos⟩ := hC.arr ht
    have hes := size_pos_info (P := P) (w := w) hC he
    obtain ⟨cells, z, k1, k2, k3⟩ := go _ (by rw [ht]; rfl) cs h1
    refine ⟨rfl, _, ?_, k3⟩
    simp only [Instr.build, Sem.run_bind, k1, Result.andThen_ok, run_underlying hu, hes, k2]
    rfl
  · simp at h
end
end Go.Proofs.Ytdhbelpejaobdaa.Ev
