/- Blocks: what they are made of. -/
import Derived.Test.YtdhbelpejaobdaaCSpecKv
namespace Go.Proofs.Ytdhbelpejaobdaa.Ev
open Go Go.RowKit
set_option linter.unusedVariables false
def sharedL : List Int → List Int → Nat
  | a :: x, b :: y => if a = b then sharedL x y + 1 else 0
  | _, _ => 0
theorem sharedL_left (a b : List Int) : sharedL a b ≤ a.length := by
  induction a generalizing b with
  | nil => simp [sharedL]
  | cons x a ih =>
    cases b with
    | nil => simp [sharedL]
    | cons y b => simp only [sharedL, List.length_cons]; have := ih b; split <;> omega
theorem sharedL_right (a b : List Int) : sharedL a b ≤ b.length := by
  induction a generalizing b with
  | nil => simp [sharedL]
  | cons x a ih =>
    cases b with
    | nil => simp [sharedL]
    | cons y b => simp only [sharedL, List.length_cons]; have := ih b; split <;> omega
/-- an entry's bytes behind so many shared ones -/
def entB (k : Nat) (x : KV) : List Int := putS k ++ putS (x.1.length - k) ++ putS x.2.1.length ++ x.1.drop k ++ x.2.1
/-- a block's bytes from an entry on: the key ahead, how many entries lie ahead, the bytes, the restarts' places as bytes, how many they are -/
def builtGo (r : Nat) : List Int → Nat → List KV → List Int → List Int → Nat → List Int
  | _, _, [], out, tail, n => out ++ tail ++ fixedL n 4
  | p, i, x :: l, out, tail, n =>
    if i % r = 0 then builtGo r x.1 (i + 1) l (out ++ entB 0 x) (tail ++ fixedL out.length 4) (n + 1)
    else builtGo r x.1 (i + 1) l (out ++ entB (sharedL p x.1) x) tail n
def built (l : List KV) (r : Nat) : List Int := builtGo r [] 0 l [] [] 0
def keyAt (l : List KV) (i : Nat) : List Int := if i = 0 then [] else (l.getD (i - 1) kvd).1
theorem entB_length {k : Nat} {x : KV} (hx : x.1.length ≤ 140737488355328) (hy : x.2.1.length ≤ 140737488355328) (hk : k ≤ x.1.length) : (entB k x).length ≤ x.1.length + x.2.1.length + 30 := by
  have h1 := putS_length64 (n := k) (by omega)
  have h2 := putS_length64 (n := x.1.length - k) (by omega)
  have h3 := putS_length64 (n := x.2.1.length) (by omega)
  simp only [entB, List.length_append, List.length_drop]
  omega
noncomputable section
def sharedSp : Sp := ⟨[byl, byl], fun _ => true, fun x => vI (sharedL x.1 x.2.1)⟩
/-- entries that are not too many to lay down -/
def Fair (l : List KV) : Prop := l.length ≤ 1048576 ∧ total l ≤ 1073741824
instance (l : List KV) : Decidable (Fair l) := inferInstanceAs (Decidable (_ ∧ _))
def builtPre (l : List KV) (r : Int) : Bool := tst (Fair l) && tst (1 ≤ r) && tst (r ≤ 64)
def builtSp : Sp := ⟨[kvl, i64], fun x => builtPre x.1 x.2.1, fun x => vO 0 (built x.1 (Int.toNat x.2.1))⟩
def buildS (l : List KV) (r : Int) (e1 e2 : Int) : List Int × Int := if r < 1 ∨ 64 < r then ([], e1) else if Rises l then (built l r.toNat, 0) else ([], e2)
def buildPre (l : List KV) : Bool := tst (Fair l)
def buildSp : Sp := ⟨[kvl, i64], fun x => buildPre x.1, fun x => .tup [vO 0 (buildS x.1 x.2.1 71 70).1, vI (buildS x.1 x.2.1 71 70).2]⟩
end
end Go.Proofs.Ytdhbelpejaobdaa.Ev
