/- What the lowest functions tell of data. -/
import Derived.Test.YtdhbelpejaobdaaEvCon
import Derived.Test.YtdhbelpejaobdaaEvSpec
namespace Go.Proofs.Ytdhbelpejaobdaa.Ev
open Go Go.RowKit
set_option linter.unusedVariables false
noncomputable section
abbrev u64 : Ty := .it .u64
abbrev i64 : Ty := .it .i64
abbrev u32 : Ty := .it .u32
abbrev byl : Ty := .li (.it .u8)
abbrev KV : Type := List Int × List Int × Unit
abbrev kv : Ty := .co byl (.co byl .ue)
abbrev kvl : Ty := .li kv
abbrev vK (l : List KV) : V := .d kvl l
def kvd : KV := ([], [], ())
theorem dflt_kv : Ty.dflt (.co (.li (.it .u8)) (.co (.li (.it .u8)) .ue)) = kvd := rfl
abbrev vI (n : Int) : V := .d i64 n
abbrev vU (n : Int) : V := .d u64 n
abbrev vW (n : Int) : V := .d u32 n
abbrev vB (l : List Int) : V := .d byl l
abbrev vO (o : Nat) (l : List Int) : V := .own o by8 l
abbrev vT (p : Prop) [Decidable p] : V := .d .bo (tst p)
def putSp : Sp := ⟨[u64], fun _ => true, fun x => .own 0 by8 (putS (Int.toNat x.1))⟩
def fixedSp : Sp := ⟨[u64, i64], fun x => tst ((0 : Int) ≤ x.2.1) && tst ((x.2.1 : Int) ≤ 8), fun x => .own 0 by8 (fixedL x.1 (Int.toNat x.2.1))⟩
def fixed4Sp : Sp := ⟨[u32], fun _ => true, fun x => .own 0 by8 (fixedL x.1 4)⟩
def fixed8Sp : Sp := ⟨[u64], fun _ => true, fun x => .own 0 by8 (fixedL x.1 8)⟩
def unfixedS (l : List Int) (n : Nat) : Int × Int := if l.length < n then (0, 20) else (leVal (l.take n), 0)
def unfixedSp : Sp := ⟨[byl, i64], fun x => tst ((0 : Int) ≤ x.2.1) && tst ((x.2.1 : Int) ≤ 8), fun x => .tup [.d u64 (unfixedS x.1 (Int.toNat x.2.1)).1, .d i64 (unfixedS x.1 (Int.toNat x.2.1)).2]⟩
def unfixed4Sp : Sp := ⟨[byl], fun _ => true, fun x => .tup [.d u32 (unfixedS x.1 4).1, .d i64 (unfixedS x.1 4).2]⟩
def unfixed8Sp : Sp := ⟨[byl], fun _ => true, fun x => .tup [.d u64 (unfixedS x.1 8).1, .d i64 (unfixedS x.1 8).2]⟩
def rightSp : Sp := ⟨[byl, u64, i64], fun _ => true, fun x => .d .bo (tst (Right x.1 x.2.1 x.2.2.1))⟩
def cloneSp : Sp := ⟨[byl], fun _ => true, fun x => .own 0 by8 x.1⟩
def keySp : Sp := ⟨[byl, u64, i64], fun _ => true, fun x => .tup [.own 0 by8 (key x.1 x.2.1 x.2.2.1).1, .d i64 (key x.1 x.2.1 x.2.2.1).2]⟩
def splitSp : Sp := ⟨[byl], fun _ => true, fun x => .tup [.own 0 by8 (split x.1).1, .d u64 (split x.1).2.1, .d i64 (split x.1).2.2.1, .d i64 (split x.1).2.2.2]⟩
def cmpBSp : Sp := ⟨[byl, byl], fun _ => true, fun x => .d i64 (cmpB x.1 x.2.1)⟩
def cmpI (a b : Int) : Int := if a < b then -1 else if a > b then 1 else 0
def cmpUSp : Sp := ⟨[u64, u64], fun _ => true, fun x => .d i64 (cmpI x.1 x.2.1)⟩
def cmpISp : Sp := ⟨[i64, i64], fun _ => true, fun x => .d i64 (cmpI x.1 x.2.1)⟩
def nanUSp : Sp := ⟨[u64], fun _ => true, fun x => .d .bo false⟩
def nanISp : Sp := ⟨[i64], fun _ => true, fun x => .d .bo false⟩
def compareSp : Sp := ⟨[byl, byl], fun _ => true, fun x => .tup [.d i64 (compareK x.1 x.2.1).1, .d i64 (compareK x.1 x.2.1).2]⟩
def equalSp : Sp := ⟨[byl, byl], fun _ => true, fun x => .d .bo (tst ((x.1 : List Int) = x.2.1))⟩
/- the document's -/
def rfixedSp : Sp := fixedSp
def runfixedPre (l : List Int) (a m : Int) : Bool := tst (0 ≤ a) && tst (0 ≤ m) && tst (m ≤ 8) && tst (a + m ≤ l.length)
def runfixedSp : Sp := ⟨[byl, i64, i64], fun x => runfixedPre x.1 x.2.1 x.2.2.1, fun x => .d u64 (leVal ((List.drop (Int.toNat x.2.1) x.1).take (Int.toNat x.2.2.1)))⟩
def rsplitSp : Sp := ⟨[byl], fun _ => true, fun x => .tup [.d byl (split x.1).1, .d u64 (split x.1).2.1, .d i64 (split x.1).2.2.1, .d i64 (split x.1).2.2.2]⟩
def isSp : Sp := ⟨[byl], fun _ => true, fun x => .d .bo (tst ((split x.1).2.2.2 = 0))⟩
def orderSp : Sp := ⟨[byl, byl], fun _ => true, fun x => .d i64 (order x.1 x.2.1)⟩
end
end Go.Proofs.Ytdhbelpejaobdaa.Ev
