/-
  NARROWER THAN 'FOR EVERY INPUT', by the rows' own cells (each row's printed sentence says how): RlpEncodes: loops · RlpStream: loops · RlpBack: loops.
  DERIVED. THE GIVEN ROWS OF THIS SEAT. 6 by the template 'for every input the law returns true; each argument reads behind the call as it read before'; 0 by the template 'total and deterministic' (their statements: YtbobnopnfjcajaaTotals.lean).
  GIVEN WITH THE SEED: the statements are not yours to turn. If you find one false, say at which input.
  Laid BY PROGRAM, IN A SANDBOX (cutbox-rows.mjs): the forced cells as the released guide's own fill.sh prints them over the translation dda3bc382f9209d1… (all of the seat's roots in one cut). By AI agents, Wed Nov 11 2026. No macro, syntax, notation, axiom, sorry.
-/
import Derived.Test.YtbobnopnfjcajaaChecked
import GoSem.Claim
import GoSem.ClaimJoined
import GoSem.ClaimMapViews
import Derived.JoinedTies
import Derived.KernelRfl
namespace Go.Proofs.Ytbobnopnfjcajaa
/- THE CELL 'sum', in the pinned program and in every row, IS THE sha256 OF THE DUMP (.gsa) THAT YtbobnopnfjcajaaProg.lean LOADS. Nothing in Lean hashes anything: it is a label: what it is worth is what the hold of that sum in a sandbox is worth. -/
noncomputable def Try.pinned : Pinned := { name := "ytbobnopnfjcajaa", sum := "dda3bc382f9209d1f43401ed29a9e51c5c3408712e5631a1600709ea85d67793", checked := Try.checked }
namespace Rows
def none {H : Type} : Left H := { results := [], args := [] }

/-- 'morainelaw4.RlpEncodes': WHATEVER THE INPUT: true; the input reads as it did. -/
def rlpEncodesSpec : ChangeSpec := { name := "rlpEncodes", fn := fun _ => fun
  | [d] => { results := [.lit (.bool true)], args := [d] }
  | _ => none }
def rlpEncodesRow : OpenClaim := { program := "ytbobnopnfjcajaa", sum := "dda3bc382f9209d1f43401ed29a9e51c5c3408712e5631a1600709ea85d67793", func := "moraine/morainelaw4.RlpEncodes", spec := "rlpEncodes", unfollowed := true, recurses := true, loops := true, apart := false }
def RlpEncodesSaid : Prop := rlpEncodesRow.holds Try.pinned (OpenSpec.ofChange rlpEncodesSpec)

/-- ITS FALSE NEIGHBOUR: 'it returns false'. Refute it at one input. -/
def rlpEncodesWrong : ChangeSpec := { name := "rlpEncodes", fn := fun _ => fun
  | [d] => { results := [.lit (.bool false)], args := [d] }
  | _ => none }
def RlpEncodesWrongFalsely : Prop := rlpEncodesRow.holds Try.pinned (OpenSpec.ofChange rlpEncodesWrong)

/-- 'morainelaw4.RlpDecodes': WHATEVER THE INPUT: true; the input reads as it did. -/
def rlpDecodesSpec : ChangeSpec := { name := "rlpDecodes", fn := fun _ => fun
  | [d] => { results := [.lit (.bool true)], args := [d] }
  | _ => none }
def rlpDecodesRow : OpenClaim := { program := "ytbobnopnfjcajaa", sum := "dda3bc382f9209d1f43401ed29a9e51c5c3408712e5631a1600709ea85d67793", func := "moraine/morainelaw4.RlpDecodes", spec := "rlpDecodes", unfollowed := true, recurses := true, apart := false }
def RlpDecodesSaid : Prop := rlpDecodesRow.holds Try.pinned (OpenSpec.ofChange rlpDecodesSpec)

/-- ITS FALSE NEIGHBOUR: 'it returns false'. Refute it at one input. -/
def rlpDecodesWrong : ChangeSpec := { name := "rlpDecodes", fn := fun _ => fun
  | [d] => { results := [.lit (.bool false)], args := [d] }
  | _ => none }
def RlpDecodesWrongFalsely : Prop := rlpDecodesRow.holds Try.pinned (OpenSpec.ofChange rlpDecodesWrong)

/-- 'morainelaw4.RlpNested': WHATEVER THE INPUT: true; the input reads as it did. -/
def rlpNestedSpec : ChangeSpec := { name := "rlpNested", fn := fun _ => fun
  | [d] => { results := [.lit (.bool true)], args := [d] }
  | _ => none }
def rlpNestedRow : OpenClaim := { program := "ytbobnopnfjcajaa", sum := "dda3bc382f9209d1f43401ed29a9e51c5c3408712e5631a1600709ea85d67793", func := "moraine/morainelaw4.RlpNested", spec := "rlpNested", unfollowed := true, recurses := true, apart := false }
def RlpNestedSaid : Prop := rlpNestedRow.holds Try.pinned (OpenSpec.ofChange rlpNestedSpec)

/-- ITS FALSE NEIGHBOUR: 'it returns false'. Refute it at one input. -/
def rlpNestedWrong : ChangeSpec := { name := "rlpNested", fn := fun _ => fun
  | [d] => { results := [.lit (.bool false)], args := [d] }
  | _ => none }
def RlpNestedWrongFalsely : Prop := rlpNestedRow.holds Try.pinned (OpenSpec.ofChange rlpNestedWrong)

/-- 'morainelaw4.RlpLengths': WHATEVER THE INPUT: true; the input reads as it did. -/
def rlpLengthsSpec : ChangeSpec := { name := "rlpLengths", fn := fun _ => fun
  | [d1, d2] => { results := [.lit (.bool true)], args := [d1, d2] }
  | _ => none }
def rlpLengthsRow : OpenClaim := { program := "ytbobnopnfjcajaa", sum := "dda3bc382f9209d1f43401ed29a9e51c5c3408712e5631a1600709ea85d67793", func := "moraine/morainelaw4.RlpLengths", spec := "rlpLengths", unfollowed := true, recurses := true, apart := false }
def RlpLengthsSaid : Prop := rlpLengthsRow.holds Try.pinned (OpenSpec.ofChange rlpLengthsSpec)

/-- ITS FALSE NEIGHBOUR: 'it returns false'. Refute it at one input. -/
def rlpLengthsWrong : ChangeSpec := { name := "rlpLengths", fn := fun _ => fun
  | [d1, d2] => { results := [.lit (.bool false)], args := [d1, d2] }
  | _ => none }
def RlpLengthsWrongFalsely : Prop := rlpLengthsRow.holds Try.pinned (OpenSpec.ofChange rlpLengthsWrong)

/-- 'morainelaw4.RlpStream': WHATEVER THE INPUT: true; the input reads as it did. -/
def rlpStreamSpec : ChangeSpec := { name := "rlpStream", fn := fun _ => fun
  | [d] => { results := [.lit (.bool true)], args := [d] }
  | _ => none }
def rlpStreamRow : OpenClaim := { program := "ytbobnopnfjcajaa", sum := "dda3bc382f9209d1f43401ed29a9e51c5c3408712e5631a1600709ea85d67793", func := "moraine/morainelaw4.RlpStream", spec := "rlpStream", unfollowed := true, recurses := true, loops := true, apart := false }
def RlpStreamSaid : Prop := rlpStreamRow.holds Try.pinned (OpenSpec.ofChange rlpStreamSpec)

/-- ITS FALSE NEIGHBOUR: 'it returns false'. Refute it at one input. -/
def rlpStreamWrong : ChangeSpec := { name := "rlpStream", fn := fun _ => fun
  | [d] => { results := [.lit (.bool false)], args := [d] }
  | _ => none }
def RlpStreamWrongFalsely : Prop := rlpStreamRow.holds Try.pinned (OpenSpec.ofChange rlpStreamWrong)

/-- 'morainelaw4.RlpBack': WHATEVER THE INPUT: true; the input reads as it did. -/
def rlpBackSpec : ChangeSpec := { name := "rlpBack", fn := fun _ => fun
  | [d1, d2, d3, d4] => { results := [.lit (.bool true)], args := [d1, d2, d3, d4] }
  | _ => none }
def rlpBackRow : OpenClaim := { program := "ytbobnopnfjcajaa", sum := "dda3bc382f9209d1f43401ed29a9e51c5c3408712e5631a1600709ea85d67793", func := "moraine/morainelaw4.RlpBack", spec := "rlpBack", unfollowed := true, recurses := true, loops := true, apart := false }
def RlpBackSaid : Prop := rlpBackRow.holds Try.pinned (OpenSpec.ofChange rlpBackSpec)

/-- ITS FALSE NEIGHBOUR: 'it returns false'. Refute it at one input. -/
def rlpBackWrong : ChangeSpec := { name := "rlpBack", fn := fun _ => fun
  | [d1, d2, d3, d4] => { results := [.lit (.bool false)], args := [d1, d2, d3, d4] }
  | _ => none }
def RlpBackWrongFalsely : Prop := rlpBackRow.holds Try.pinned (OpenSpec.ofChange rlpBackWrong)

/- THE SECOND FORM. 'bulk': how many values and letters a reading holds, each counted each time it is reached (what is shared counts as often as it is met; a slice's spare places count too). A statement '..UptoSaid' is the law's where the arguments, and the package variables that the reading takes, are together of bulk at most 1048576: NARROWER than '..Said'. Prove '..Said' where nothing that the law and all that it calls make is longer than what came in: it says more and counts as full. Else prove '..UptoSaid'. A law counts once. -/
mutual
def uptoBulk {H : Type} : DataW H → Nat
  | .lit (.string bytes) => bytes.length + 1
  | .lit _ => 1
  | .nil => 1
  | .ptr d => uptoBulk d + 1
  | .slice elems spare => uptoBulkAll elems + uptoBulkAll spare + 1
  | .agg parts => uptoBulkAll parts + 1
  | .iface _ d => uptoBulk d + 1
  | .map entries => uptoBulkEntries entries + 1
  | .held _ => 1
def uptoBulkAll {H : Type} : List (DataW H) → Nat
  | [] => 0
  | d :: r => uptoBulk d + uptoBulkAll r
def uptoBulkEntries {H : Type} : List (Lit × DataW H) → Nat
  | [] => 0
  | x :: r => uptoBulkEntry x + uptoBulkEntries r
def uptoBulkEntry {H : Type} : Lit × DataW H → Nat
  | (.string bytes, d) => bytes.length + uptoBulk d + 1
  | (_, d) => uptoBulk d + 1
 end
def uptoSmall : (H : Type) → List (DataW H) → Bool := fun _ ds => decide (uptoBulkAll ds ≤ 1048576)
def OpenSpec.upto (s : _root_.Go.ChangeSpec) : _root_.Go.OpenSpec := { _root_.Go.OpenSpec.ofChange s with cond := some uptoSmall }

/-- 'morainelaw4.RlpEncodes', WHERE WHAT IT READS IS OF BULK AT MOST 1048576: true; the input reads as it did. -/
def rlpEncodesUptoRow : OpenClaim := { program := "ytbobnopnfjcajaa", sum := "dda3bc382f9209d1f43401ed29a9e51c5c3408712e5631a1600709ea85d67793", func := "moraine/morainelaw4.RlpEncodes", spec := "rlpEncodes", unfollowed := true, recurses := true, loops := true, apart := false, narrowed := true }
def RlpEncodesUptoSaid : Prop := rlpEncodesUptoRow.holds Try.pinned (OpenSpec.upto rlpEncodesSpec)

/-- 'morainelaw4.RlpDecodes', WHERE WHAT IT READS IS OF BULK AT MOST 1048576: true; the input reads as it did. -/
def rlpDecodesUptoRow : OpenClaim := { program := "ytbobnopnfjcajaa", sum := "dda3bc382f9209d1f43401ed29a9e51c5c3408712e5631a1600709ea85d67793", func := "moraine/morainelaw4.RlpDecodes", spec := "rlpDecodes", unfollowed := true, recurses := true, apart := false, narrowed := true }
def RlpDecodesUptoSaid : Prop := rlpDecodesUptoRow.holds Try.pinned (OpenSpec.upto rlpDecodesSpec)

/-- 'morainelaw4.RlpNested', WHERE WHAT IT READS IS OF BULK AT MOST 1048576: true; the input reads as it did. -/
def rlpNestedUptoRow : OpenClaim := { program := "ytbobnopnfjcajaa", sum := "dda3bc382f9209d1f43401ed29a9e51c5c3408712e5631a1600709ea85d67793", func := "moraine/morainelaw4.RlpNested", spec := "rlpNested", unfollowed := true, recurses := true, apart := false, narrowed := true }
def RlpNestedUptoSaid : Prop := rlpNestedUptoRow.holds Try.pinned (OpenSpec.upto rlpNestedSpec)

/-- 'morainelaw4.RlpLengths', WHERE WHAT IT READS IS OF BULK AT MOST 1048576: true; the input reads as it did. -/
def rlpLengthsUptoRow : OpenClaim := { program := "ytbobnopnfjcajaa", sum := "dda3bc382f9209d1f43401ed29a9e51c5c3408712e5631a1600709ea85d67793", func := "moraine/morainelaw4.RlpLengths", spec := "rlpLengths", unfollowed := true, recurses := true, apart := false, narrowed := true }
def RlpLengthsUptoSaid : Prop := rlpLengthsUptoRow.holds Try.pinned (OpenSpec.upto rlpLengthsSpec)

/-- 'morainelaw4.RlpStream', WHERE WHAT IT READS IS OF BULK AT MOST 1048576: true; the input reads as it did. -/
def rlpStreamUptoRow : OpenClaim := { program := "ytbobnopnfjcajaa", sum := "dda3bc382f9209d1f43401ed29a9e51c5c3408712e5631a1600709ea85d67793", func := "moraine/morainelaw4.RlpStream", spec := "rlpStream", unfollowed := true, recurses := true, loops := true, apart := false, narrowed := true }
def RlpStreamUptoSaid : Prop := rlpStreamUptoRow.holds Try.pinned (OpenSpec.upto rlpStreamSpec)

/-- 'morainelaw4.RlpBack', WHERE WHAT IT READS IS OF BULK AT MOST 1048576: true; the input reads as it did. -/
def rlpBackUptoRow : OpenClaim := { program := "ytbobnopnfjcajaa", sum := "dda3bc382f9209d1f43401ed29a9e51c5c3408712e5631a1600709ea85d67793", func := "moraine/morainelaw4.RlpBack", spec := "rlpBack", unfollowed := true, recurses := true, loops := true, apart := false, narrowed := true }
def RlpBackUptoSaid : Prop := rlpBackUptoRow.holds Try.pinned (OpenSpec.upto rlpBackSpec)

end Rows
end Go.Proofs.Ytbobnopnfjcajaa
