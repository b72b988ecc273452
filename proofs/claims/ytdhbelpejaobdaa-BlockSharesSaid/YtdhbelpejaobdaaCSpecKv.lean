/- Entries: held against one another, copied, rising. -/
import Derived.Test.YtdhbelpejaobdaaCSpec2
namespace Go.Proofs.Ytdhbelpejaobdaa.Ev
open Go Go.RowKit
set_option linter.unusedVariables false
noncomputable section
def hbytesSp : Sp := ⟨[byl, byl], fun _ => true, fun x => vT ((x.1 : List Int) = x.2.1)⟩
def kvsSp : Sp := ⟨[kvl, kvl], fun _ => true, fun x => vT ((x.1 : List KV) = x.2.1)⟩
def copyPre (l : List KV) : Bool := tst (l.length ≤ 1048576)
def copySp : Sp := ⟨[kvl], fun x => copyPre x.1, fun x => .own 0 kv x.1⟩
def total (l : List KV) : Nat := (l.map fun x => x.1.length + x.2.1.length).foldr (· + ·) 0
def aheadOK : Option (List Int) → List Int → Bool
  | none, _ => true
  | some q, k => decide (order q k < 0)
def risesFrom : Option (List Int) → List KV → Bool
  | _, [] => true
  | p, x :: l => decide ((split x.1).2.2.2 = 0) && (aheadOK p x.1 && risesFrom (some x.1) l)
theorem risesFrom_cons (p : Option (List Int)) (x : KV) (l : List KV) : risesFrom p (x :: l) = (decide ((split x.1).2.2.2 = 0) && (aheadOK p x.1 && risesFrom (some x.1) l)) := by cases p <;> rfl
def Rises (l : List KV) : Prop := risesFrom none l = true
instance (l : List KV) : Decidable (Rises l) := inferInstanceAs (Decidable (_ = _))
def risesSp : Sp := ⟨[kvl], fun _ => true, fun x => vT (Rises x.1)⟩
def behindSp : Sp := ⟨[byl, byl], fun _ => true, fun x => vT ((split x.2.1).2.2.2 = 0 ∧ (split x.1).2.2.2 = 0 ∧ order x.2.1 x.1 < 0)⟩
def few7 (l : List KV) : Prop := l.length ≤ 60 ∧ total l ≤ 5000
instance (l : List KV) : Decidable (few7 l) := inferInstanceAs (Decidable (_ ∧ _))
def fewSp : Sp := ⟨[kvl], fun _ => true, fun x => vT (few7 x.1)⟩
end
theorem getD_at {α : Type} {l : List α} {i : Nat} {d : α} (h : i < l.length) : l.getD i d = l[i] := by rw [List.getD_eq_getElem?_getD, List.getElem?_eq_getElem h]; rfl
theorem drop_at {α : Type} {l : List α} {i : Nat} {d : α} (h : i < l.length) : l.drop i = l.getD i d :: l.drop (i + 1) := by rw [getD_at h]; exact List.drop_eq_getElem_cons h
theorem take_at {α : Type} {l : List α} {i : Nat} {d : α} (h : i < l.length) : l.take (i + 1) = l.take i ++ [l.getD i d] := by rw [getD_at h]; exact List.take_succ_eq_append_getElem h
theorem total_cons (x : KV) (l : List KV) : total (x :: l) = x.1.length + x.2.1.length + total l := rfl
theorem fits_kvl {l : List KV} : Fits kvl l ↔ l.length ≤ 140737488355328 ∧ ∀ x ∈ l, Fits kv x := Iff.rfl
theorem getD_kv {l : List KV} {i : Nat} (h : Fits kvl l) (hi : i < l.length) : ((l.getD i kvd).1.length ≤ 140737488355328 ∧ Bytes (l.getD i kvd).1) ∧ (l.getD i kvd).2.1.length ≤ 140737488355328 ∧ Bytes (l.getD i kvd).2.1 := by
  rw [getD_at hi]
  have := h.2 _ (List.getElem_mem hi)
  have h1 : Fits byl (l[i]).1 := this.1
  have h2 : Fits byl (l[i]).2.1 := this.2.1
  exact ⟨⟨h1.1, fun x hx => by have := fits_u8.1 (h1.2 x hx); omega⟩, h2.1, fun x hx => by have := fits_u8.1 (h2.2 x hx); omega⟩
theorem getD_fits {t : Ty} {l : List t.den} {i : Nat} {d : t.den} (h : Fits (.li t) l) (hi : i < l.length) : Fits t (l.getD i d) := by rw [getD_at hi]; exact h.2 _ (List.getElem_mem hi)
end Go.Proofs.Ytdhbelpejaobdaa.Ev
