/- The walker's memory against the machine's: what holds of both, and how it is kept. -/
import Derived.Test.YtdhbelpejaobdaaEvB
import GoSem.Core.Layout
namespace Go.Proofs.Ytdhbelpejaobdaa.Ev
open Go Go.RowKit
set_option linter.unusedVariables false
set_option linter.unusedSimpArgs false

/-! ### the table of types -/
def zeroB : Ty → Value → Bool
  | .bo, .bool false => true
  | .it k, .int j n => j == k && n == 0
  | .st, .string s => s.size == 0
  | .ni, .pointer none => true
  | .li _, .slice none 0 0 => true
  | _, _ => false
def zerosB : List Ty → List Value → Bool
  | [], [] => true
  | t :: ts, u :: us => zeroB t u && zerosB ts us
  | _, _ => false
def compOf : Nat → Ty → Nat → Option (Nat × Ty)
  | 0, .co t _, off => some (off, t)
  | n + 1, .co t r, off => compOf n r (off + t.size)
  | _, _, _ => none
def fieldsB (C : Ctx) (y : Ty) : Nat → List (Nat × TypeId) → List Field → Bool
  | _, [], [] => true
  | n, (off, e) :: fs, g :: gs => g.offset == off && g.type == e && (C.row e).td.good && decide (0 < (C.row e).size) && compOf n y 0 == some (off, (C.row e).ty) && fieldsB C y (n + 1) fs gs
  | _, _, _ => false
def descB (C : Ctx) (r : TRow) : TypeDesc → Bool := fun d =>
  match r.td, d with
  | .int k, .int j => j == k && r.ty == .it k && r.size == 1
  | .bool, .bool => r.ty == .bo && r.size == 1
  | .str, .string => r.ty == .st && r.size == 1
  | .ptr e, .pointer f => e == f && r.ty == .ni && r.size == 1
  | .slice e, .slice f => e == f && r.ty == .li (C.row e).ty && r.size == 1 && (C.row e).td.good && decide (0 < (C.row e).size)
  | .arr n e, .array m f => n == m && e == f && r.ty == .ar n (C.row e).ty && r.size == n * (C.row e).size && (C.row e).td.good && decide (0 < (C.row e).size)
  | .struct fs, .struct gs => fieldsB C r.ty 0 fs gs.toList
  | _, _ => false
def flatTys : Ty → List Ty
  | .ue => []
  | .co t r => flatTys t ++ flatTys r
  | .ar n t => (List.replicate n (flatTys t)).flatten
  | t => [t]
def rowB (P : Program) (C : Ctx) (t : TypeId) : Bool :=
  !(C.row t).td.good ||
  ((match P.info? t with
    | some i => i.size == (C.row t).size && i.bytes == (C.row t).bytes && (match i.zero with | some z => zerosB (C.row t).cells z.cells.toList | none => false)
    | none => false) &&
   (match P.underlying t with | some d => descB C (C.row t) d | none => false) &&
   (C.row t).ty.size == (C.row t).size && (C.row t).ty.agg == (C.row t).isAgg && decide ((C.row t).cells.length = (C.row t).size) && decide ((C.row t).bytes ≤ 1048576) && decide (flatTys (C.row t).ty = (C.row t).cells) && decide ((C.row t).size = 0 ∨ 0 < (C.row t).bytes))
def RowsOK (P : Program) (C : Ctx) : Prop := ∀ t, rowB P C t = true
theorem rowsOK_of {P : Program} {C : Ctx} (h : (List.range C.rows.length).all (rowB P C) = true) : RowsOK P C := by
  intro t
  by_cases ht : t < C.rows.length
  · exact List.all_eq_true.1 h t (List.mem_range.2 ht)
  · have : C.row t = ⟨.other, 0, 0, .ue, []⟩ := by simp [Ctx.row, List.getD_eq_getElem?_getD, List.getElem?_eq_none (Nat.le_of_not_lt ht)]
    simp [rowB, this, TD.good]

structure RowOK (P : Program) (C : Ctx) (t : TypeId) : Prop where
  info : ∃ i z, P.info? t = some i ∧ i.size = (C.row t).size ∧ i.bytes = (C.row t).bytes ∧ i.zero = some z ∧ zerosB (C.row t).cells z.cells.toList = true
  desc : ∃ d, P.underlying t = some d ∧ descB C (C.row t) d = true
  size : (C.row t).ty.size = (C.row t).size
  agg : (C.row t).ty.agg = (C.row t).isAgg
  cells : (C.row t).cells.length = (C.row t).size
  bytes : (C.row t).bytes ≤ 1048576
  flat : flatTys (C.row t).ty = (C.row t).cells
  byte : (C.row t).size = 0 ∨ 0 < (C.row t).bytes
theorem RowsOK.row {P : Program} {C : Ctx} (h : RowsOK P C) {t : TypeId} (hg : (C.row t).td.good = true) : RowOK P C t := by
  have := h t
  simp only [rowB, hg, Bool.not_true, Bool.false_or, Bool.and_eq_true, beq_iff_eq, decide_eq_true_eq] at this
  obtain ⟨⟨⟨⟨⟨⟨⟨h1, h2⟩, h3⟩, h4⟩, h5⟩, h6⟩, h7⟩, h8⟩ := this
  refine ⟨?_, ?_, h3, h4, h5, h6, h7, h8⟩
  · split at h1
    · rename_i i hi
      simp only [Bool.and_eq_true, beq_iff_eq] at h1
      obtain ⟨⟨a, b⟩, c⟩ := h1
      split at c
      · rename_i z hz; exact ⟨i, z, hi, a, b, hz, c⟩
      · exact absurd c (by simp)
    · exact absurd h1 (by simp)
  · split at h2
    · rename_i d hd; exact ⟨d, hd, h2⟩
    · exact absurd h2 (by simp)

section
variable {P : Program} {C : Ctx} {t : TypeId} (h : RowsOK P C)
include h
theorem RowsOK.slice [tI : Tst] {e : TypeId} (ht : (C.row t).td = .slice e) : P.underlying t = some (.slice e) ∧ (C.row t).ty = .li (C.row e).ty ∧ (C.row t).size = 1 ∧ (C.row e).td.good = true ∧ 0 < (C.row e).size := by
  obtain ⟨d, hd, hb⟩ := (h.row (t := t) (by rw [ht]; rfl)).desc
  cases d <;> simp [descB, ht] at hb
  obtain ⟨⟨⟨⟨rfl, a⟩, b⟩, c⟩, f⟩ := hb
  exact ⟨hd, a, b, c, f⟩
theorem RowsOK.int [tI : Tst] {k : IntKind} (ht : (C.row t).td = .int k) : P.underlying t = some (.int k) ∧ (C.row t).ty = .it k := by
  obtain ⟨d, hd, hb⟩ := (h.row (t := t) (by rw [ht]; rfl)).desc
  simp only [descB, ht] at hb
  split at hb <;> simp_all
theorem RowsOK.bool [tI : Tst] (ht : (C.row t).td = .bool) : P.underlying t = some .bool := by
  obtain ⟨d, hd, hb⟩ := (h.row (t := t) (by rw [ht]; rfl)).desc
  simp only [descB, ht] at hb
  split at hb <;> simp_all
theorem RowsOK.ptr [tI : Tst] {e : TypeId} (ht : (C.row t).td = .ptr e) : P.underlying t = some (.pointer e) := by
  obtain ⟨d, hd, hb⟩ := (h.row (t := t) (by rw [ht]; rfl)).desc
  simp only [descB, ht] at hb
  split at hb <;> simp_all
theorem RowsOK.str [tI : Tst] (ht : (C.row t).td = .str) : P.underlying t = some .string := by
  obtain ⟨d, hd, hb⟩ := (h.row (t := t) (by rw [ht]; rfl)).desc
  simp only [descB, ht] at hb
  split at hb <;> simp_all
theorem RowsOK.arr [tI : Tst] {n : Nat} {e : TypeId} (ht : (C.row t).td = .arr n e) : P.underlying t = some (.array n e) ∧ (C.row t).ty = .ar n (C.row e).ty ∧ (C.row t).size = n * (C.row e).size ∧ (C.row e).td.good = true ∧ 0 < (C.row e).size := by
  obtain ⟨d, hd, hb⟩ := (h.row (t := t) (by rw [ht]; rfl)).desc
  cases d <;> simp [descB, ht] at hb
  obtain ⟨⟨⟨⟨⟨rfl, rfl⟩, a⟩, b⟩, c⟩, f⟩ := hb
  exact ⟨hd, a, b, c, f⟩
omit h in
theorem fieldsB_get {y : Ty} : ∀ {fs : List (Nat × TypeId)} {gs : List Field} {n i : Nat} {off : Nat} {e : TypeId}, fieldsB C y n fs gs = true → fs[i]? = some (off, e) →
    ∃ g, gs[i]? = some g ∧ g.offset = off ∧ g.type = e ∧ (C.row e).td.good = true ∧ 0 < (C.row e).size ∧ compOf (n + i) y 0 = some (off, (C.row e).ty)
  | [], [], _, _, _, _, _, hg => by simp at hg
  | (o, f) :: fs, g :: gs, n, 0, off, e, hb, hg => by
    simp only [fieldsB, Bool.and_eq_true, beq_iff_eq, decide_eq_true_eq] at hb
    simp only [List.getElem?_cons_zero, Option.some.injEq, Prod.mk.injEq] at hg
    obtain ⟨rfl, rfl⟩ := hg
    exact ⟨g, by simp, hb.1.1.1.1.1, hb.1.1.1.1.2, hb.1.1.1.2, hb.1.1.2, hb.1.2⟩
  | (o, f) :: fs, g :: gs, n, i + 1, off, e, hb, hg => by
    simp only [fieldsB, Bool.and_eq_true] at hb
    obtain ⟨g', h1, h2⟩ := fieldsB_get hb.2 (by simpa using hg)
    exact ⟨g', by simpa using h1, by rw [show n + (i + 1) = n + 1 + i from by omega]; exact h2⟩
  | [], _ :: _, _, _, _, _, hb, _ => by simp [fieldsB] at hb
  | _ :: _, [], _, _, _, _, hb, _ => by simp [fieldsB] at hb
theorem RowsOK.struct [tI : Tst] {fs : List (Nat × TypeId)} (ht : (C.row t).td = .struct fs) : ∃ gs : Array Field, P.underlying t = some (.struct gs) ∧ fieldsB C (C.row t).ty 0 fs gs.toList = true := by
  obtain ⟨d, hd, hb⟩ := (h.row (t := t) (by rw [ht]; rfl)).desc
  simp only [descB, ht] at hb
  split at hb <;> simp_all
end

/-! ### memory -/
def owns (E : Env) (o : Nat) : Ent → Option Nat
  | .gone => none
  | .obj _ | .row _ _ => some (E.blk o)
  | .fam _ => E.ex o
  | .lit _ => E.ex o

def FamOK (E : Env) (base : Nat) (w : World) (o : Nat) : Prop :=
  match E.ex o with
  | some g => ∃ cap cur e, E.plc o = .slice (some ⟨g, 0, none⟩) (E.len o) cap ∧ base ≤ g ∧ w.heap[g]? = some (.cells cur e (0, 0)) ∧ E.len o ≤ cap ∧ cap ≤ maxLen ∧ cur.size = cap * E.sz o ∧ ∀ j, E.len o * E.sz o ≤ j → E.m g j = none
  | none => ∃ a, E.plc o = .slice a (E.len o) (E.len o)

def EntOK (E : Env) (base : Nat) (w : World) (o : Nat) : Ent → Prop
  | .gone => True
  | .obj cs => E.live o ∧ base ≤ E.blk o ∧ ∃ (us : List Value) (t : TypeId), w.heap[E.blk o]? = some (.cells us.toArray t (0, 0)) ∧ RepVs E cs us ∧ (∀ u ∈ us, u.oneCell' = true) ∧ ∀ j, E.m (E.blk o) j = none
  | .row t xs => E.live o ∧ base ≤ E.blk o ∧ E.sz o = t.size ∧ ∃ (us : List Value) (ty : TypeId), w.heap[E.blk o]? = some (.cells us.toArray ty (0, 0)) ∧ us.length = List.length xs * t.size ∧
      (∀ i (h : i < List.length xs), RepL E.m t xs[i] ((us.drop (i * t.size)).take t.size)) ∧ ∀ j, E.m (E.blk o) j = none
  | .fam n => E.live o ∧ n = E.len o ∧ FamOK E base w o
  | .lit n => (E.live o ∧ n = E.len o ∧ FamOK E base w o) ∧ ∃ g, E.ex o = some g

structure Sim (base : Nat) (w0 : World) (E : Env) (S : List Ent) (w : World) : Prop where
  below : Below base w0 w
  base_le : base ≤ w.heap.size
  mem : E.m.lies w
  ents : ∀ o, EntOK E base w o (ent S o)
  apart : ∀ o o' B, o ≠ o' → owns E o (ent S o) = some B → owns E o' (ent S o') = some B → False
  lt : ∀ o, E.live o → o < S.length
  /-- nothing new is known of what lies below -/
  old : ∀ b, b < base → ∀ j, E.m b j = E.m0 b j

theorem ent_eq : ∀ (S : List Ent) (n : Nat), ent S n = S.getD n .gone
  | [], n => by simp [ent]
  | _ :: _, 0 => by simp [ent]
  | _ :: S, n + 1 => by simp [ent, ent_eq S n]
theorem ent_set [tI : Tst] (S : List Ent) (n o : Nat) (e : Ent) : ent (S.set n e) o = if o = n ∧ n < S.length then e else ent S o := by
  simp only [ent_eq, List.getD_eq_getElem?_getD, List.getElem?_set]
  by_cases h : n = o
  · subst h
    by_cases h' : n < S.length
    · simp [h']
    · simp [h', List.getElem?_eq_none (Nat.le_of_not_lt h')]
  · rw [if_neg h, if_neg (fun k => h k.1.symm)]
theorem ent_set_same [tI : Tst] {S : List Ent} {n : Nat} (e : Ent) (h : n < S.length) : ent (S.set n e) n = e := by rw [ent_set, if_pos ⟨rfl, h⟩]
theorem ent_set_ne [tI : Tst] {S : List Ent} {n o : Nat} (e : Ent) (h : o ≠ n) : ent (S.set n e) o = ent S o := by rw [ent_set, if_neg (fun k => h k.1)]
theorem ent_app [tI : Tst] (S T : List Ent) (o : Nat) (hT : ∀ e ∈ T, e = .gone) : ent (S ++ T) o = ent S o := by
  simp only [ent_eq, List.getD_eq_getElem?_getD, List.getElem?_append]
  split
  · rfl
  · rename_i h
    rw [List.getElem?_eq_none (Nat.le_of_not_lt h)]
    cases hg : T[o - S.length]? with
    | none => rfl
    | some e => simp [hT e (List.mem_of_getElem? hg)]

def sets (S : List Ent) : List (Nat × Ent) → List Ent
  | [] => S
  | (n, e) :: us => sets (S.set n e) us
theorem length_sets : ∀ (us : List (Nat × Ent)) (S : List Ent), (sets S us).length = S.length
  | [], _ => rfl
  | (n, e) :: us, S => by simp [sets, length_sets us]
theorem ent_sets_other [tI : Tst] : ∀ (us : List (Nat × Ent)) (S : List Ent) (o : Nat), (∀ x ∈ us, x.1 ≠ o) → ent (sets S us) o = ent S o
  | [], _, _, _ => rfl
  | (n, e) :: us, S, o, h => by
    rw [sets, ent_sets_other us _ o (fun x hx => h x (List.mem_cons_of_mem _ hx)), ent_set, if_neg]
    exact fun k => h (n, e) (List.mem_cons_self ..) k.1.symm

/-- an entry that nothing has turned stands as it stood -/
theorem EntOK.keep' [tI : Tst] {E E' : Env} {base : Nat} {w w' : World} {o : Nat} {e : Ent} (h : EntOK E base w o e) (hlit : ∀ n, e ≠ .lit n) (hle : E.Le E')
    (hs : E.live o → E'.ex o = E.ex o ∧ E'.len o = E.len o)
    (hb : ∀ B, owns E o e = some B → w'.heap[B]? = w.heap[B]? ∧ ∀ j, E'.m B j = E.m B j) : EntOK E' base w' o e := by
  cases e with
  | lit n => exact absurd rfl (hlit n)
  | gone => trivial
  | obj cs =>
    obtain ⟨h1, h2, us, t, h3, h4, h5, h6⟩ := h
    obtain ⟨b1, b2⟩ := hb _ rfl
    refine ⟨hle.live o h1, by rw [hle.blk o h1]; exact h2, us, t, by rw [hle.blk o h1, b1]; exact h3, RepVs.mono hle _ _ h4, h5, fun j => ?_⟩
    rw [hle.blk o h1, b2]; exact h6 j
  | row t xs =>
    obtain ⟨h1, h2, h3, us, ty, h4, h5, h6, h7⟩ := h
    obtain ⟨b1, b2⟩ := hb _ rfl
    refine ⟨hle.live o h1, by rw [hle.blk o h1]; exact h2, (hle.sz o h1).trans h3, us, ty, by rw [hle.blk o h1, b1]; exact h4, h5, fun i hi => RepL.mono hle.m _ _ _ (h6 i hi), fun j => ?_⟩
    rw [hle.blk o h1, b2]; exact h7 j
  | fam n =>
    obtain ⟨h1, h2, h3⟩ := h
    obtain ⟨s1, s2⟩ := hs h1
    refine ⟨hle.live o h1, h2.trans s2.symm, ?_⟩
    have hp := hle.plc o h1 s2
    have hz := hle.sz o h1
    unfold FamOK at h3 ⊢
    rw [s1, s2, hp, hz]
    cases hx : E.ex o with
    | none => rw [hx] at h3; exact h3
    | some g =>
      rw [hx] at h3
      obtain ⟨cap, cur, e, k1, k2, k3, k4, k5, k6, k7⟩ := h3
      obtain ⟨b1, b2⟩ := hb g hx
      exact ⟨cap, cur, e, k1, k2, by rw [b1]; exact k3, k4, k5, k6, fun j hj => by rw [b2]; exact k7 j hj⟩
theorem EntOK.keep [tI : Tst] {E E' : Env} {base : Nat} {w w' : World} {o : Nat} {e : Ent} (h : EntOK E base w o e) (hle : E.Le E')
    (hs : E.live o → E'.ex o = E.ex o ∧ E'.len o = E.len o)
    (hb : ∀ B, owns E o e = some B → w'.heap[B]? = w.heap[B]? ∧ ∀ j, E'.m B j = E.m B j) : EntOK E' base w' o e := by
  cases e with
  | lit n =>
    obtain ⟨h1, g, h2⟩ := h
    exact ⟨EntOK.keep' (e := .fam n) h1 (by intro n; simp) hle hs hb, g, by rw [(hs h1.1).1]; exact h2⟩
  | _ => exact h.keep' (by intro n; simp) hle hs hb
theorem owns_keep {E E' : Env} {base : Nat} {w : World} {o : Nat} {e : Ent} (h : EntOK E base w o e) (hle : E.Le E') (hs : E.live o → E'.ex o = E.ex o) : owns E' o e = owns E o e := by
  cases e with
  | gone => rfl
  | obj cs => exact congrArg some (hle.blk o h.1)
  | row t xs => exact congrArg some (hle.blk o h.1)
  | fam n => exact hs h.1
  | lit n => exact hs h.1.1

/-- a step: all that isn't among what is turned stays -/
theorem Sim.step [tI : Tst] {base : Nat} {w0 w w' : World} {E E' : Env} {S S' : List Ent} (sim : Sim base w0 E S w) (hle : E.Le E') (hbel : Below base w w') (ch : Nat → Prop)
    (hsame : ∀ o, ¬ ch o → ent S' o = ent S o ∧ (E.live o → E'.ex o = E.ex o ∧ E'.len o = E.len o))
    (hblk : ∀ o B, ¬ ch o → owns E o (ent S o) = some B → w'.heap[B]? = w.heap[B]? ∧ ∀ j, E'.m B j = E.m B j)
    (hm : E'.m.lies w') (hnew : ∀ o, ch o → EntOK E' base w' o (ent S' o))
    (hap : ∀ o B, ch o → owns E' o (ent S' o) = some B → ∀ o', ¬ ch o' → owns E o' (ent S o') ≠ some B)
    (hch : ∀ o o' B, ch o → ch o' → o ≠ o' → owns E' o (ent S' o) = some B → owns E' o' (ent S' o') = some B → False)
    (hlt : ∀ o, E'.live o → o < S'.length) (hold : ∀ b, b < base → ∀ j, E'.m b j = E.m b j) : Sim base w0 E' S' w' where
  old b hb j := by rw [hold b hb j, hle.m0]; exact sim.old b hb j
  below := sim.below.trans hbel
  base_le := Nat.le_trans sim.base_le hbel.size
  mem := hm
  ents o := by
    by_cases h : ch o
    · exact hnew o h
    · rw [(hsame o h).1]
      exact (sim.ents o).keep hle (hsame o h).2 (fun B hB => hblk o B h hB)
  apart o o' B hne h1 h2 := by
    have key : ∀ o, ¬ ch o → owns E' o (ent S' o) = owns E o (ent S o) := fun o h => by
      rw [(hsame o h).1]; exact owns_keep (sim.ents o) hle (fun l => ((hsame o h).2 l).1)
    by_cases a : ch o <;> by_cases b : ch o'
    · exact hch o o' B a b hne h1 h2
    · rw [key o' b] at h2; exact hap o B a h1 o' b h2
    · rw [key o a] at h1; exact hap o' B b h2 o a h1
    · rw [key o a] at h1; rw [key o' b] at h2; exact sim.apart o o' B hne h1 h2
  lt := hlt

/-- what one operation comes to -/
def Done (base : Nat) (w0 : World) (E : Env) (S : List Ent) (w : World) (id n : Nat) (res : Result Next) (v : V) (us : List (Nat × Ent)) : Prop :=
  ∃ u w' E', (res = .ok (.value u) w' ∨ (res = .ok .skip w' ∧ u = undef)) ∧ E.Le E' ∧ Sim base w0 E' (sets S us) w' ∧ RepV E' v u ∧ ∀ o, E'.live o → E.live o ∨ (id ≤ o ∧ o < id + n)
theorem Done.pure [tI : Tst] {base : Nat} {w0 : World} {E : Env} {S : List Ent} {w : World} {id n : Nat} {v : V} {u : Value} (sim : Sim base w0 E S w) (h : RepV E v u) : Done base w0 E S w id n (.ok (.value u) w) v [] :=
  ⟨u, w, E, .inl rfl, Env.Le.refl E, sim, h, fun _ l => .inl l⟩
end Go.Proofs.Ytdhbelpejaobdaa.Ev
