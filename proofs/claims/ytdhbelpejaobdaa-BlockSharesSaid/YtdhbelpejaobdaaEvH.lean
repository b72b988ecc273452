/- One operation after the other, continued: memory that is read, written, made. -/
import Derived.Test.YtdhbelpejaobdaaEvG
import Derived.Laws.CopyRow
import Derived.Laws.CopyOwn
namespace Go.Proofs.Ytdhbelpejaobdaa.Ev
open Go Go.RowKit
set_option linter.unusedVariables false
set_option linter.unusedSimpArgs false

/-- a thing more -/
def Env.add (E : Env) (id blk sz : Nat) (plc : Value) (len : Nat) (ex : Option Nat) : Env where
  m := E.m
  blk o := if o = id then blk else E.blk o
  sz o := if o = id then sz else E.sz o
  plc o := if o = id then plc else E.plc o
  len o := if o = id then len else E.len o
  ex o := if o = id then ex else E.ex o
  live o := o = id ∨ E.live o
  m0 := E.m0
theorem Env.le_add [tI : Tst] {E : Env} {id : Nat} (h : ¬ E.live id) (blk sz : Nat) (plc : Value) (len : Nat) (ex : Option Nat) : E.Le (E.add id blk sz plc len ex) where
  m := Mem.le.refl _
  live o l := .inr l
  blk o l := if_neg (h := instDecidableEqNat o id) (by rintro rfl; exact h l)
  sz o l := if_neg (h := instDecidableEqNat o id) (by rintro rfl; exact h l)
  len o l := Nat.le_of_eq (if_neg (h := instDecidableEqNat o id) (by rintro rfl; exact h l)).symm
  plc o l _ := if_neg (h := instDecidableEqNat o id) (by rintro rfl; exact h l)
  m0 := rfl
def Env.setM (E : Env) (m : Mem) : Env := { E with m := m }
theorem Env.le_setM {E : Env} {m : Mem} (h : E.m.le m) : E.Le (E.setM m) := ⟨h, fun _ l => l, fun _ _ => rfl, fun _ _ => rfl, fun _ _ => Nat.le_refl _, fun _ _ _ => rfl, rfl⟩
/-- a family's frontier moves on -/
def Env.move (E : Env) (o : Nat) (plc : Value) (len : Nat) (ex : Option Nat) : Env :=
  { E with plc := fun i => if i = o then plc else E.plc i, len := fun i => if i = o then len else E.len i, ex := fun i => if i = o then ex else E.ex i }
theorem Env.le_move [tI : Tst] {E : Env} {o len : Nat} {plc : Value} {ex : Option Nat} (h : E.len o ≤ len) (hp : len = E.len o → plc = E.plc o) : E.Le (E.move o plc len ex) where
  m := Mem.le.refl _
  live _ l := l
  blk _ _ := rfl
  sz _ _ := rfl
  len i _ := by
    simp only [Env.move]; split
    · rename_i e; subst e; exact h
    · exact Nat.le_refl _
  plc i _ e := by
    simp only [Env.move] at e ⊢; split
    · rename_i k; subst k; rw [if_pos rfl] at e; exact hp e
    · rfl
  m0 := rfl

theorem lies_none {m : Mem} {w : World} (h : m.lies w) {b : Nat} (hb : w.heap.size ≤ b) (o : Nat) : m b o = none := by
  cases hm : m b o with
  | none => rfl
  | some v =>
    have := World.block_lt_of_cell? w _ (h b o v hm)
    simp only at this
    omega
theorem owns_lt {base : Nat} {w0 : World} {E : Env} {S : List Ent} {w : World} (sim : Sim base w0 E S w) {o B : Nat} (h : owns E o (ent S o) = some B) : base ≤ B ∧ B < w.heap.size := by
  have he := sim.ents o
  have lt : ∀ {x : Obj}, w.heap[B]? = some x → B < w.heap.size := fun h => (Array.getElem?_eq_some_iff.1 h).1
  cases hx : ent S o with
  | gone => rw [hx] at h; simp [owns] at h
  | obj cs =>
    rw [hx] at h he
    simp only [owns, Option.some.injEq] at h; subst h
    obtain ⟨_, h2, us, t, h3, _⟩ := he
    exact ⟨h2, lt h3⟩
  | row t xs =>
    rw [hx] at h he
    simp only [owns, Option.some.injEq] at h; subst h
    obtain ⟨_, h2, _, us, ty, h3, _⟩ := he
    exact ⟨h2, lt h3⟩
  | fam n =>
    rw [hx] at h he
    simp only [owns] at h
    obtain ⟨_, _, h3⟩ := he
    unfold FamOK at h3
    rw [h] at h3
    obtain ⟨cap, cur, e, _, h4, h5, _⟩ := h3
    exact ⟨h4, lt h5⟩
  | lit n =>
    rw [hx] at h he
    simp only [owns] at h
    obtain ⟨⟨_, _, h3⟩, _⟩ := he
    unfold FamOK at h3
    rw [h] at h3
    obtain ⟨cap, cur, e, _, h4, h5, _⟩ := h3
    exact ⟨h4, lt h5⟩

section
variable {P : Program} {C : Ctx} {E : Env} {w : World}

theorem flatV_rep [tI : Tst] {v : V} {u : Value} {vs : List V} (h : flatV v = some vs) (r : RepV E v u) : ∃ zs : List Value, u.cells = zs.toArray ∧ RepVs E vs zs ∧ ∀ z ∈ zs, z.oneCell' = true := by
  have one : ∀ (v : V) (u : Value), RepV E v u → u.oneCell' = true → ∃ zs : List Value, u.cells = zs.toArray ∧ RepVs E [v] zs ∧ ∀ z ∈ zs, z.oneCell' = true := by
    intro v u r h1
    refine ⟨[u], ?_, by simp only [RepVs, and_true]; exact r, by simpa using h1⟩
    cases u <;> simp_all [Value.cells, Value.oneCell']
  cases v with
  | bad => simp [flatV] at h
  | un => simp [flatV] at h
  | tup vs => simp [flatV] at h
  | agg cs =>
    simp only [flatV, Option.some.injEq] at h; subst h
    simp only [RepV] at r
    obtain ⟨us, rfl, h2, h3⟩ := r
    exact ⟨us, rfl, h2, h3⟩
  | d t x =>
    simp only [flatV, Option.some.injEq] at h; subst h
    simp only [RepV] at r
    obtain ⟨us, h1, h2, h3⟩ := r.cells
    exact ⟨us, h3, flatT_rep _ _ _ h1, RepL.one _ _ _ h1⟩
  | nils => simp only [flatV, Option.some.injEq] at h; subst h; exact one _ _ r (by simp only [RepV] at r; subst r; rfl)
  | own o t xs =>
    simp only [flatV, Option.some.injEq] at h; subst h
    refine one _ _ r ?_
    simp only [RepV] at r
    obtain ⟨a, c, hu, _⟩ := repl_sub.2 r.1
    simp only [List.cons.injEq, and_true] at hu
    subst hu; rfl
  | p o a => simp only [flatV, Option.some.injEq] at h; subst h; exact one _ _ r (by simp only [RepV] at r; obtain ⟨_, rfl⟩ := r; rfl)
  | ro t x => simp only [flatV, Option.some.injEq] at h; subst h; exact one _ _ r (by simp only [RepV] at r; obtain ⟨b, off, us, rfl, _⟩ := r; rfl)
  | sr o a n c s => simp only [flatV, Option.some.injEq] at h; subst h; exact one _ _ r (by simp only [RepV] at r; obtain ⟨_, _, ⟨_, rfl, _⟩, _⟩ := r; rfl)
  | pr o i s => simp only [flatV, Option.some.injEq] at h; subst h; exact one _ _ r (by simp only [RepV] at r; obtain ⟨_, _, rfl⟩ := r; rfl)
  | fn f fs cs => simp only [flatV, Option.some.injEq] at h; subst h; exact one _ _ r (by simp only [RepV] at r; obtain ⟨zs, us, rfl, _⟩ := r; rfl)
  | nn t xs => simp only [flatV, Option.some.injEq] at h; subst h; exact one _ _ r (by simp only [RepV] at r; obtain ⟨_, _, _, _, rfl⟩ := r; rfl)
  | ifc t x => simp only [flatV, Option.some.injEq] at h; subst h; exact one _ _ r (by simp only [RepV] at r; obtain ⟨us, rfl, _⟩ := r; rfl)

theorem loadVar_at [tI : Tst] (hC : RowsOK P C) {t : TypeId} (hg : (C.row t).td.good = true) {b off : Nat} {us : List Value} (hl : us.length = (C.row t).size) (h1 : (C.row t).isAgg = false → us.length = 1)
    (hc : ∀ i u, us[i]? = some u → w.cell? ⟨b, off + i, none⟩ = some u) : (loadVar t ⟨b, off, none⟩).run P w = .ok (toV (C.row t).isAgg us) w := by
  cases ha : (C.row t).isAgg with
  | true =>
    have := run_loadCells_list (P := P) w ⟨b, off, none⟩ us (by intro j v hv; rw [Addr.add_lit]; exact hc j v hv)
    simp [loadVar, isAgg_run hC hg, ha, size_pos_info hC hg, ← hl, this, toV]
  | false =>
    obtain ⟨u, rfl⟩ := List.length_eq_one_iff.1 (h1 ha)
    have := hc 0 u (by simp)
    simp only [Nat.add_zero] at this
    simp [loadVar, isAgg_run hC hg, ha, this, toV]
theorem row_one [tI : Tst] (hC : RowsOK P C) {t : TypeId} (hg : (C.row t).td.good = true) (ha : (C.row t).isAgg = false) : (C.row t).size = 1 := by
  have h := hC.row hg
  rw [← h.size]; exact size_one (by rw [h.agg, ha])
theorem cell_row {g : Nat} {us : List Value} {e : TypeId} {fr : Nat × Nat} (h : w.heap[g]? = some (.cells us.toArray e fr)) (j : Nat) : w.cell? ⟨g, j, none⟩ = us[j]? := by
  simp [World.cell?, h]

theorem load_ok [tI : Tst] {base : Nat} {w0 : World} {S : List Ent} (hC : RowsOK P C) (sim : Sim base w0 E S w) {t : TypeId} {a v : V} {u : Value} {us : List (Nat × Ent)} {g : Bool} (h : loadV C S t a = some (g, v, us)) (hg : g = true) (ha : RepV E a u) :
    us = [] ∧ ∃ z, (Instr.loadAt t u).run P w = .ok z w ∧ RepV E v z := by
  unfold loadV at h
  split at h
  · simp at h
  rename_i hgood
  have hgood : (C.row t).td.good = true := by simpa using hgood
  have hrow := hC.row hgood
  split at h
  · rename_i o off
    split at h
    · rename_i cs hent
      have he := sim.ents o
      rw [hent] at he
      obtain ⟨e1, e2, zs, ty, e3, e4, e5, e6⟩ := he
      have hlen := e4.length
      simp only [RepV] at ha
      obtain ⟨-, rfl⟩ := ha
      split at h
      · rename_i hle
        have hcell : ∀ i z, ((zs.drop off).take (C.row t).size)[i]? = some z → w.cell? ⟨E.blk o, off + i, none⟩ = some z := by
          intro i z hz
          rw [List.getElem?_take] at hz
          split at hz
          · rw [List.getElem?_drop] at hz; rw [cell_row e3]; exact hz
          · simp at hz
        have hl : ((zs.drop off).take (C.row t).size).length = (C.row t).size := by rw [List.length_take, List.length_drop]; omega
        have run := loadVar_at (P := P) (w := w) hC hgood hl (fun k => by rw [hl]; exact row_one hC hgood k) hcell
        split at h
        · rename_i hagg
          simp only [val, Option.some.injEq, Prod.mk.injEq] at h
          obtain ⟨-, rfl, rfl⟩ := h
          refine ⟨rfl, _, by simpa [Instr.loadAt, Instr.sureAddr] using run, ?_⟩
          rw [hagg]
          simp only [RepV, toV]
          exact ⟨_, rfl, RepVs.take _ (RepVs.drop _ e4), fun z hz => e5 z (List.mem_of_mem_drop (List.mem_of_mem_take hz))⟩
        · rename_i hagg
          have hagg : (C.row t).isAgg = false := by simpa using hagg
          split at h
          · rename_i hs
            simp only [val, Option.some.injEq, Prod.mk.injEq] at h
            obtain ⟨-, rfl, rfl⟩ := h
            refine ⟨rfl, _, by simpa [Instr.loadAt, Instr.sureAddr] using run, ?_⟩
            have hlt : off < zs.length := by omega
            rw [hagg, hs, List.drop_eq_getElem_cons hlt, List.take_succ_cons]
            exact RepVs.get off e4 (List.getElem?_eq_getElem hlt)
          · simp at h
      · simp at h
    · simp at h
  · rename_i s x
    split at h
    · rename_i hc
      simp only [val, Option.some.injEq, Prod.mk.injEq] at h
      obtain ⟨-, rfl, rfl⟩ := h
      simp only [RepV] at ha
      obtain ⟨b, off, zs, rfl, h1, h2⟩ := ha
      have hl : zs.length = (C.row t).size := by rw [← hc.2]; exact RepL.len _ _ _ h1
      have run := loadVar_at (P := P) (w := w) hC hgood hl (fun k => by rw [hl]; exact row_one hC hgood k) (fun i z hz => sim.mem _ _ _ (h2 i z hz))
      refine ⟨rfl, _, by simpa [Instr.loadAt, Instr.sureAddr] using run, ?_⟩
      simp only [RepV]
      exact ⟨zs, h1, by rw [hc.1]⟩
    · simp at h
  · rename_i o i sz
    split at h
    · rename_i s xs hent
      split at h
      · rename_i hc
        simp only [Option.some.injEq, Prod.mk.injEq] at h
        obtain ⟨rfl, rfl, rfl⟩ := h
        have hlt := tst_iff.1 hg
        have he := sim.ents o
        rw [hent] at he
        obtain ⟨e1, e2, e3, zs, ty, e4, e5, e6, e7⟩ := he
        simp only [RepV] at ha
        obtain ⟨-, k2, rfl⟩ := ha
        have hr := e6 i hlt
        have hl := RepL.len _ _ _ hr
        have hl' : ((zs.drop (i * s.size)).take s.size).length = (C.row t).size := by rw [hl, hc.2]
        have hcell : ∀ j z, ((zs.drop (i * s.size)).take s.size)[j]? = some z → w.cell? ⟨E.blk o, i * sz + j, none⟩ = some z := by
          intro j z hz
          rw [List.getElem?_take] at hz
          split at hz
          · rw [List.getElem?_drop] at hz; rw [cell_row e4, ← k2, e3]; exact hz
          · simp at hz
        have run := loadVar_at (P := P) (w := w) hC hgood hl' (fun k => by rw [hl']; exact row_one hC hgood k) hcell
        refine ⟨rfl, _, by simpa [Instr.loadAt, Instr.sureAddr] using run, ?_⟩
        simp only [RepV]
        refine ⟨_, ?_, by rw [hc.1]⟩
        rw [List.getD_eq_getElem?_getD, List.getElem?_eq_getElem hlt]
        exact hr
      · simp at h
    · simp at h
  · simp at h
end
end Go.Proofs.Ytdhbelpejaobdaa.Ev
