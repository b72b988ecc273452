/- One operation after the other: what the walker tells of it is what the machine does. (First: those that make and turn nothing.) -/
import Derived.Test.YtdhbelpejaobdaaEvC
import Derived.Laws.Tables
import Derived.Laws.Slices
import Derived.Laws.Strings
namespace Go.Proofs.Ytdhbelpejaobdaa.Ev
open Go Go.RowKit
set_option linter.unusedVariables false
set_option linter.unusedSimpArgs false

theorem inR_iff {k : IntKind} {n : Int} : inR k n = true ↔ k.min ≤ n ∧ n ≤ k.max := by simp [inR]
theorem rep_int {E : Env} {k : IntKind} {n : Int} (h : k.min ≤ n ∧ n ≤ k.max) : RepV E (.d (.it k) n) (.int k n) := by
  simp only [RepV]; exact ⟨_, ⟨rfl, h⟩, rfl⟩
theorem rep_int_iff {E : Env} {k : IntKind} {n : Int} {u : Value} : RepV E (.d (.it k) n) u ↔ u = .int k n ∧ k.min ≤ n ∧ n ≤ k.max := by
  simp only [RepV]
  constructor
  · rintro ⟨us, ⟨rfl, h⟩, rfl⟩; exact ⟨rfl, h⟩
  · rintro ⟨rfl, h⟩; exact ⟨_, ⟨rfl, h⟩, rfl⟩
theorem rep_bool {E : Env} (b : Bool) : RepV E (.d .bo b) (.bool b) := by
  simp only [RepV]; exact ⟨[.bool b], rfl, rfl⟩
theorem rep_bool_iff {E : Env} {b : Bool} {u : Value} : RepV E (.d .bo b) u ↔ u = .bool b := by
  simp only [RepV]
  constructor
  · rintro ⟨us, h, rfl⟩; rw [show us = _ from h]; rfl
  · rintro rfl; exact ⟨[.bool b], rfl, rfl⟩
theorem rep_nil_iff {E : Env} {x : Unit} {u : Value} : RepV E (.d .ni x) u ↔ u = .pointer none := by
  simp only [RepV]
  constructor
  · rintro ⟨us, h, rfl⟩; rw [show us = _ from h]; rfl
  · rintro rfl; exact ⟨[.pointer none], rfl, rfl⟩
theorem rep_str_iff {E : Env} {l : List Int} {u : Value} : RepV E (.d .st l) u ↔ ∃ s : ByteArray, u = .string s ∧ strInts s = l ∧ s.size ≤ maxL := by
  simp only [RepV]
  constructor
  · rintro ⟨us, ⟨s, rfl, h⟩, rfl⟩; exact ⟨s, rfl, h⟩
  · rintro ⟨s, rfl, h⟩; exact ⟨_, ⟨s, rfl, h⟩, rfl⟩
theorem rep_li_iff {E : Env} {t : Ty} {xs : List t.den} {u : Value} : RepV E (.d (.li t) xs) u ↔ RepL E.m (.li t) xs [u] := by
  simp only [RepV]
  constructor
  · rintro ⟨us, ⟨a, c, rfl, h⟩, rfl⟩; exact ⟨a, c, rfl, h⟩
  · intro h; exact ⟨[u], h, rfl⟩
theorem repl_sub {m : Mem} {t : Ty} {xs : List t.den} {u : Value} : RepL m (.li t) xs [u] ↔ RepD m (.li t) xs u := by
  constructor
  · intro h; exact ⟨[u], h, rfl⟩
  · rintro ⟨us, ⟨a, c, rfl, h⟩, rfl⟩; exact ⟨a, c, rfl, h⟩

theorem const_rep [tI : Tst] (E : Env) (v : Value) : RepV E (constV v) v := by
  unfold constV
  split
  · exact rep_bool _
  · split
    · rename_i h; exact rep_int (inR_iff.1 h)
    · simp [RepV]
  · split
    · rename_i h; exact rep_str_iff.2 ⟨_, rfl, rfl, h⟩
    · simp [RepV]
  · exact rep_nil_iff.2 rfl
  · simp [RepV]
  · simp [RepV]
theorem oneC_iff (v : Value) (h : oneC v = true) : v.oneCell' = true := by cases v <;> simp_all [oneC, Value.oneCell']
theorem constA_rep [tI : Tst] (E : Env) (v : Value) : RepV E (constA v) v := by
  unfold constA
  split
  · rename_i cs
    split
    · rename_i h
      simp only [RepV]
      refine ⟨cs.toList, by simp, ?_, fun u hu => oneC_iff u (List.all_eq_true.1 h u hu)⟩
      clear h
      induction cs.toList with
      | nil => simp [RepVs]
      | cons c l ih => simp only [List.map_cons, RepVs]; exact ⟨const_rep E c, ih⟩
    · simp [RepV]
  · exact const_rep E v

/-- the slots -/
structure SimA (E : Env) (sl : List V) (a : Act) : Prop where
  defers : a.defers = []
  rep : RepVs E sl a.tmps.toList
theorem SimA.mono [tI : Tst] {E E' : Env} {sl : List V} {a : Act} (h : SimA E sl a) (hle : E.Le E') : SimA E' sl a := ⟨h.defers, RepVs.mono hle _ _ h.rep⟩
theorem SimA.opd [tI : Tst] {E : Env} {sl : List V} {a : Act} (h : SimA E sl a) (x : Operand) : RepV E (opd sl x) (a.eval x) := by
  cases x with
  | tmp t =>
    simp only [Ev.opd, Act.eval]
    by_cases ht : t < a.tmps.size
    · refine RepVs.get t h.rep ?_
      simp [ht, Array.getD]
    · have : look sl t = .bad := by
        rw [look_eq, List.getD_eq_getElem?_getD, List.getElem?_eq_none (by rw [h.rep.length]; simpa using ht)]; rfl
      rw [this]; simp [RepV]
  | const v => exact constA_rep E v
  | global g => simp [Ev.opd, RepV]
  | func f => simp only [Ev.opd, RepV, Act.eval]; exact ⟨[], [], rfl, by simp [RepVs], by simp [RepVs]⟩

theorem wrap_range (k : IntKind) (n : Int) : k.min ≤ k.wrap n ∧ k.wrap n ≤ k.max := by
  cases k <;> simp [IntKind.wrap, IntKind.min, IntKind.max, IntKind.bits, IntKind.signed] <;> (try split) <;> omega
theorem range_neg (k : IntKind) : k.min ≤ 0 ∧ 0 ≤ k.max ∧ (k.min = 0 ∨ k.min = - k.max - 1) := by
  cases k <;> simp [IntKind.min, IntKind.max, IntKind.bits, IntKind.signed]
theorem fdiv_range [tI : Tst] {k : IntKind} {a : Int} (m : Nat) (h : k.min ≤ a ∧ a ≤ k.max) : k.min ≤ a.fdiv (2 ^ m) ∧ a.fdiv (2 ^ m) ≤ k.max := by
  have hp : (0 : Int) < 2 ^ m := Int.pow_pos (by omega)
  rw [Int.fdiv_eq_ediv_of_nonneg _ (Int.le_of_lt hp)]
  have hr := range_neg k
  by_cases ha : 0 ≤ a
  · have h1 : 0 ≤ a / 2 ^ m := Int.ediv_nonneg ha (Int.le_of_lt hp)
    have h2 : a / 2 ^ m ≤ a := Int.ediv_le_self _ ha
    omega
  · have h1 : a / 2 ^ m < 0 := Int.ediv_neg_of_neg_of_pos (by omega) hp
    have h2 : a ≤ a / 2 ^ m := by
      rw [Int.le_ediv_iff_mul_le hp]
      have : (1 : Int) ≤ 2 ^ m := hp
      have := Int.mul_nonneg (a := -a) (b := 2 ^ m - 1) (by omega) (by omega)
      rw [Int.mul_sub, Int.neg_mul] at this
      omega
    omega
theorem tmod_range [tI : Tst] {k : IntKind} {a b : Int} (h : k.min ≤ a ∧ a ≤ k.max) : k.min ≤ a.tmod b ∧ a.tmod b ≤ k.max := by
  have hr := range_neg k
  have h1 := Int.natAbs_tmod a b
  have h2 := Nat.mod_le a.natAbs b.natAbs
  by_cases ha : 0 ≤ a
  · have h3 := Int.tmod_nonneg b ha
    omega
  · have e : a.tmod b = -((-a).tmod b) := by rw [Int.neg_tmod]; omega
    have h3 := Int.tmod_nonneg b (a := -a) (by omega)
    omega
end Go.Proofs.Ytdhbelpejaobdaa.Ev
