/-
  No cell of these rows narrows 'for every input' (looked for: loops, veiled, ifaces, maps, wideKeys, modest, calm, conditions, laid).
  DERIVED. THE GIVEN ROWS OF THIS SEAT. 9 by the template 'for every input the law returns true; each argument reads behind the call as it read before'; 0 by the template 'total and deterministic' (their statements: YteogjahkccmfaaaTotals.lean).
  GIVEN WITH THE SEED: the statements are not yours to turn. If you find one false, say at which input.
  Laid BY PROGRAM, IN A SANDBOX (cutbox-rows.mjs): the forced cells as the released guide's own fill.sh prints them over the translation 0a846c7afdae2f0f… (all of the seat's roots in one cut). By AI agents, Wed Nov 11 2026. No macro, syntax, notation, axiom, sorry.
-/
import Derived.Test.YteogjahkccmfaaaChecked
import GoSem.Claim
import GoSem.ClaimJoined
import GoSem.ClaimMapViews
import Derived.JoinedTies
import Derived.KernelRfl
namespace Go.Proofs.Yteogjahkccmfaaa
/- THE CELL 'sum', in the pinned program and in every row, IS THE sha256 OF THE DUMP (.gsa) THAT YteogjahkccmfaaaProg.lean LOADS. Nothing in Lean hashes anything: it is a label: what it is worth is what the hold of that sum in a sandbox is worth. -/
noncomputable def Try.pinned : Pinned := { name := "yteogjahkccmfaaa", sum := "0a846c7afdae2f0f3aeed1e679110dfbc610118b18fa159d86db5ed237d48a77", checked := Try.checked }
namespace Rows
def none {H : Type} : Left H := { results := [], args := [] }

/-- 'morainelaw2.CodecSums': WHATEVER THE INPUT: true; the input reads as it did. -/
def codecSumsSpec : ChangeSpec := { name := "codecSums", fn := fun _ => fun
  | [d1, d2, d3] => { results := [.lit (.bool true)], args := [d1, d2, d3] }
  | _ => none }
def codecSumsRow : OpenClaim := { program := "yteogjahkccmfaaa", sum := "0a846c7afdae2f0f3aeed1e679110dfbc610118b18fa159d86db5ed237d48a77", func := "moraine/morainelaw2.CodecSums", spec := "codecSums", apart := false }
def CodecSumsSaid : Prop := codecSumsRow.holds Try.pinned (OpenSpec.ofChange codecSumsSpec)

/-- ITS FALSE NEIGHBOUR: 'it returns false'. Refute it at one input. -/
def codecSumsWrong : ChangeSpec := { name := "codecSums", fn := fun _ => fun
  | [d1, d2, d3] => { results := [.lit (.bool false)], args := [d1, d2, d3] }
  | _ => none }
def CodecSumsWrongFalsely : Prop := codecSumsRow.holds Try.pinned (OpenSpec.ofChange codecSumsWrong)

/-- 'morainelaw2.CodecKeys': WHATEVER THE INPUT: true; the input reads as it did. -/
def codecKeysSpec : ChangeSpec := { name := "codecKeys", fn := fun _ => fun
  | [d1, d2, d3, d4] => { results := [.lit (.bool true)], args := [d1, d2, d3, d4] }
  | _ => none }
def codecKeysRow : OpenClaim := { program := "yteogjahkccmfaaa", sum := "0a846c7afdae2f0f3aeed1e679110dfbc610118b18fa159d86db5ed237d48a77", func := "moraine/morainelaw2.CodecKeys", spec := "codecKeys", apart := false }
def CodecKeysSaid : Prop := codecKeysRow.holds Try.pinned (OpenSpec.ofChange codecKeysSpec)

/-- ITS FALSE NEIGHBOUR: 'it returns false'. Refute it at one input. -/
def codecKeysWrong : ChangeSpec := { name := "codecKeys", fn := fun _ => fun
  | [d1, d2, d3, d4] => { results := [.lit (.bool false)], args := [d1, d2, d3, d4] }
  | _ => none }
def CodecKeysWrongFalsely : Prop := codecKeysRow.holds Try.pinned (OpenSpec.ofChange codecKeysWrong)

/-- 'morainelaw2.CodecTakes': WHATEVER THE INPUT: true; the input reads as it did. -/
def codecTakesSpec : ChangeSpec := { name := "codecTakes", fn := fun _ => fun
  | [d] => { results := [.lit (.bool true)], args := [d] }
  | _ => none }
def codecTakesRow : OpenClaim := { program := "yteogjahkccmfaaa", sum := "0a846c7afdae2f0f3aeed1e679110dfbc610118b18fa159d86db5ed237d48a77", func := "moraine/morainelaw2.CodecTakes", spec := "codecTakes", apart := false }
def CodecTakesSaid : Prop := codecTakesRow.holds Try.pinned (OpenSpec.ofChange codecTakesSpec)

/-- ITS FALSE NEIGHBOUR: 'it returns false'. Refute it at one input. -/
def codecTakesWrong : ChangeSpec := { name := "codecTakes", fn := fun _ => fun
  | [d] => { results := [.lit (.bool false)], args := [d] }
  | _ => none }
def CodecTakesWrongFalsely : Prop := codecTakesRow.holds Try.pinned (OpenSpec.ofChange codecTakesWrong)

/-- 'morainelaw2.CodecNumbers': WHATEVER THE INPUT: true; the input reads as it did. -/
def codecNumbersSpec : ChangeSpec := { name := "codecNumbers", fn := fun _ => fun
  | [d1, d2] => { results := [.lit (.bool true)], args := [d1, d2] }
  | _ => none }
def codecNumbersRow : OpenClaim := { program := "yteogjahkccmfaaa", sum := "0a846c7afdae2f0f3aeed1e679110dfbc610118b18fa159d86db5ed237d48a77", func := "moraine/morainelaw2.CodecNumbers", spec := "codecNumbers", apart := false }
def CodecNumbersSaid : Prop := codecNumbersRow.holds Try.pinned (OpenSpec.ofChange codecNumbersSpec)

/-- ITS FALSE NEIGHBOUR: 'it returns false'. Refute it at one input. -/
def codecNumbersWrong : ChangeSpec := { name := "codecNumbers", fn := fun _ => fun
  | [d1, d2] => { results := [.lit (.bool false)], args := [d1, d2] }
  | _ => none }
def CodecNumbersWrongFalsely : Prop := codecNumbersRow.holds Try.pinned (OpenSpec.ofChange codecNumbersWrong)

/-- 'morainelaw2.CodecUnframes': WHATEVER THE INPUT: true; the input reads as it did. -/
def codecUnframesSpec : ChangeSpec := { name := "codecUnframes", fn := fun _ => fun
  | [d] => { results := [.lit (.bool true)], args := [d] }
  | _ => none }
def codecUnframesRow : OpenClaim := { program := "yteogjahkccmfaaa", sum := "0a846c7afdae2f0f3aeed1e679110dfbc610118b18fa159d86db5ed237d48a77", func := "moraine/morainelaw2.CodecUnframes", spec := "codecUnframes", apart := false }
def CodecUnframesSaid : Prop := codecUnframesRow.holds Try.pinned (OpenSpec.ofChange codecUnframesSpec)

/-- ITS FALSE NEIGHBOUR: 'it returns false'. Refute it at one input. -/
def codecUnframesWrong : ChangeSpec := { name := "codecUnframes", fn := fun _ => fun
  | [d] => { results := [.lit (.bool false)], args := [d] }
  | _ => none }
def CodecUnframesWrongFalsely : Prop := codecUnframesRow.holds Try.pinned (OpenSpec.ofChange codecUnframesWrong)

/-- 'morainelaw2.CodecFrames': WHATEVER THE INPUT: true; the input reads as it did. -/
def codecFramesSpec : ChangeSpec := { name := "codecFrames", fn := fun _ => fun
  | [d1, d2, d3, d4] => { results := [.lit (.bool true)], args := [d1, d2, d3, d4] }
  | _ => none }
def codecFramesRow : OpenClaim := { program := "yteogjahkccmfaaa", sum := "0a846c7afdae2f0f3aeed1e679110dfbc610118b18fa159d86db5ed237d48a77", func := "moraine/morainelaw2.CodecFrames", spec := "codecFrames", apart := false }
def CodecFramesSaid : Prop := codecFramesRow.holds Try.pinned (OpenSpec.ofChange codecFramesSpec)

/-- ITS FALSE NEIGHBOUR: 'it returns false'. Refute it at one input. -/
def codecFramesWrong : ChangeSpec := { name := "codecFrames", fn := fun _ => fun
  | [d1, d2, d3, d4] => { results := [.lit (.bool false)], args := [d1, d2, d3, d4] }
  | _ => none }
def CodecFramesWrongFalsely : Prop := codecFramesRow.holds Try.pinned (OpenSpec.ofChange codecFramesWrong)

/-- 'morainelaw2.CodecStream': WHATEVER THE INPUT: true; the input reads as it did. -/
def codecStreamSpec : ChangeSpec := { name := "codecStream", fn := fun _ => fun
  | [d1, d2] => { results := [.lit (.bool true)], args := [d1, d2] }
  | _ => none }
def codecStreamRow : OpenClaim := { program := "yteogjahkccmfaaa", sum := "0a846c7afdae2f0f3aeed1e679110dfbc610118b18fa159d86db5ed237d48a77", func := "moraine/morainelaw2.CodecStream", spec := "codecStream", apart := false }
def CodecStreamSaid : Prop := codecStreamRow.holds Try.pinned (OpenSpec.ofChange codecStreamSpec)

/-- ITS FALSE NEIGHBOUR: 'it returns false'. Refute it at one input. -/
def codecStreamWrong : ChangeSpec := { name := "codecStream", fn := fun _ => fun
  | [d1, d2] => { results := [.lit (.bool false)], args := [d1, d2] }
  | _ => none }
def CodecStreamWrongFalsely : Prop := codecStreamRow.holds Try.pinned (OpenSpec.ofChange codecStreamWrong)

/-- 'morainelaw2.CodecOrders': WHATEVER THE INPUT: true; the input reads as it did. -/
def codecOrdersSpec : ChangeSpec := { name := "codecOrders", fn := fun _ => fun
  | [d1, d2, d3] => { results := [.lit (.bool true)], args := [d1, d2, d3] }
  | _ => none }
def codecOrdersRow : OpenClaim := { program := "yteogjahkccmfaaa", sum := "0a846c7afdae2f0f3aeed1e679110dfbc610118b18fa159d86db5ed237d48a77", func := "moraine/morainelaw2.CodecOrders", spec := "codecOrders", inPlace := ["internal/bytealg.Compare"], apart := false }
def CodecOrdersSaid : Prop := codecOrdersRow.holds Try.pinned (OpenSpec.ofChange codecOrdersSpec)

/-- ITS FALSE NEIGHBOUR: 'it returns false'. Refute it at one input. -/
def codecOrdersWrong : ChangeSpec := { name := "codecOrders", fn := fun _ => fun
  | [d1, d2, d3] => { results := [.lit (.bool false)], args := [d1, d2, d3] }
  | _ => none }
def CodecOrdersWrongFalsely : Prop := codecOrdersRow.holds Try.pinned (OpenSpec.ofChange codecOrdersWrong)

/-- 'morainelaw2.CodecNewest': WHATEVER THE INPUT: true; the input reads as it did. -/
def codecNewestSpec : ChangeSpec := { name := "codecNewest", fn := fun _ => fun
  | [d1, d2, d3, d4, d5] => { results := [.lit (.bool true)], args := [d1, d2, d3, d4, d5] }
  | _ => none }
def codecNewestRow : OpenClaim := { program := "yteogjahkccmfaaa", sum := "0a846c7afdae2f0f3aeed1e679110dfbc610118b18fa159d86db5ed237d48a77", func := "moraine/morainelaw2.CodecNewest", spec := "codecNewest", inPlace := ["internal/bytealg.Compare"], apart := false }
def CodecNewestSaid : Prop := codecNewestRow.holds Try.pinned (OpenSpec.ofChange codecNewestSpec)

/-- ITS FALSE NEIGHBOUR: 'it returns false'. Refute it at one input. -/
def codecNewestWrong : ChangeSpec := { name := "codecNewest", fn := fun _ => fun
  | [d1, d2, d3, d4, d5] => { results := [.lit (.bool false)], args := [d1, d2, d3, d4, d5] }
  | _ => none }
def CodecNewestWrongFalsely : Prop := codecNewestRow.holds Try.pinned (OpenSpec.ofChange codecNewestWrong)

/- THE SECOND FORM. 'bulk': how many values and letters a reading holds, each counted each time it is reached (what is shared counts as often as it is met; a slice's spare places count too). A statement '..UptoSaid' is the law's where the arguments, and the package variables that the reading takes, are together of bulk at most 1048576: NARROWER than '..Said'. Prove '..Said' where nothing that the law and all that it calls make is longer than what came in: it says more and counts as full. Else prove '..UptoSaid'. A law counts once. -/
mutual
def uptoBulk {H : Type} : DataW H → Nat
  | .lit (.string bytes) => bytes.length + 1
  | .lit _ => 1
  | .nil => 1
  | .ptr d => uptoBulk d + 1
  | .slice elems spare => uptoBulkAll elems + uptoBulkAll spare + 1
  | .agg parts => uptoBulkAll parts + 1
  | .iface _ d => uptoBulk d + 1
  | .map entries => uptoBulkEntries entries + 1
  | .held _ => 1
def uptoBulkAll {H : Type} : List (DataW H) → Nat
  | [] => 0
  | d :: r => uptoBulk d + uptoBulkAll r
def uptoBulkEntries {H : Type} : List (Lit × DataW H) → Nat
  | [] => 0
  | x :: r => uptoBulkEntry x + uptoBulkEntries r
def uptoBulkEntry {H : Type} : Lit × DataW H → Nat
  | (.string bytes, d) => bytes.length + uptoBulk d + 1
  | (_, d) => uptoBulk d + 1
 end
def uptoSmall : (H : Type) → List (DataW H) → Bool := fun _ ds => decide (uptoBulkAll ds ≤ 1048576)
def OpenSpec.upto (s : _root_.Go.ChangeSpec) : _root_.Go.OpenSpec := { _root_.Go.OpenSpec.ofChange s with cond := some uptoSmall }

/-- 'morainelaw2.CodecSums', WHERE WHAT IT READS IS OF BULK AT MOST 1048576: true; the input reads as it did. -/
def codecSumsUptoRow : OpenClaim := { program := "yteogjahkccmfaaa", sum := "0a846c7afdae2f0f3aeed1e679110dfbc610118b18fa159d86db5ed237d48a77", func := "moraine/morainelaw2.CodecSums", spec := "codecSums", apart := false, narrowed := true }
def CodecSumsUptoSaid : Prop := codecSumsUptoRow.holds Try.pinned (OpenSpec.upto codecSumsSpec)

/-- 'morainelaw2.CodecKeys', WHERE WHAT IT READS IS OF BULK AT MOST 1048576: true; the input reads as it did. -/
def codecKeysUptoRow : OpenClaim := { program := "yteogjahkccmfaaa", sum := "0a846c7afdae2f0f3aeed1e679110dfbc610118b18fa159d86db5ed237d48a77", func := "moraine/morainelaw2.CodecKeys", spec := "codecKeys", apart := false, narrowed := true }
def CodecKeysUptoSaid : Prop := codecKeysUptoRow.holds Try.pinned (OpenSpec.upto codecKeysSpec)

/-- 'morainelaw2.CodecTakes', WHERE WHAT IT READS IS OF BULK AT MOST 1048576: true; the input reads as it did. -/
def codecTakesUptoRow : OpenClaim := { program := "yteogjahkccmfaaa", sum := "0a846c7afdae2f0f3aeed1e679110dfbc610118b18fa159d86db5ed237d48a77", func := "moraine/morainelaw2.CodecTakes", spec := "codecTakes", apart := false, narrowed := true }
def CodecTakesUptoSaid : Prop := codecTakesUptoRow.holds Try.pinned (OpenSpec.upto codecTakesSpec)

/-- 'morainelaw2.CodecNumbers', WHERE WHAT IT READS IS OF BULK AT MOST 1048576: true; the input reads as it did. -/
def codecNumbersUptoRow : OpenClaim := { program := "yteogjahkccmfaaa", sum := "0a846c7afdae2f0f3aeed1e679110dfbc610118b18fa159d86db5ed237d48a77", func := "moraine/morainelaw2.CodecNumbers", spec := "codecNumbers", apart := false, narrowed := true }
def CodecNumbersUptoSaid : Prop := codecNumbersUptoRow.holds Try.pinned (OpenSpec.upto codecNumbersSpec)

/-- 'morainelaw2.CodecUnframes', WHERE WHAT IT READS IS OF BULK AT MOST 1048576: true; the input reads as it did. -/
def codecUnframesUptoRow : OpenClaim := { program := "yteogjahkccmfaaa", sum := "0a846c7afdae2f0f3aeed1e679110dfbc610118b18fa159d86db5ed237d48a77", func := "moraine/morainelaw2.CodecUnframes", spec := "codecUnframes", apart := false, narrowed := true }
def CodecUnframesUptoSaid : Prop := codecUnframesUptoRow.holds Try.pinned (OpenSpec.upto codecUnframesSpec)

/-- 'morainelaw2.CodecFrames', WHERE WHAT IT READS IS OF BULK AT MOST 1048576: true; the input reads as it did. -/
def codecFramesUptoRow : OpenClaim := { program := "yteogjahkccmfaaa", sum := "0a846c7afdae2f0f3aeed1e679110dfbc610118b18fa159d86db5ed237d48a77", func := "moraine/morainelaw2.CodecFrames", spec := "codecFrames", apart := false, narrowed := true }
def CodecFramesUptoSaid : Prop := codecFramesUptoRow.holds Try.pinned (OpenSpec.upto codecFramesSpec)

/-- 'morainelaw2.CodecStream', WHERE WHAT IT READS IS OF BULK AT MOST 1048576: true; the input reads as it did. -/
def codecStreamUptoRow : OpenClaim := { program := "yteogjahkccmfaaa", sum := "0a846c7afdae2f0f3aeed1e679110dfbc610118b18fa159d86db5ed237d48a77", func := "moraine/morainelaw2.CodecStream", spec := "codecStream", apart := false, narrowed := true }
def CodecStreamUptoSaid : Prop := codecStreamUptoRow.holds Try.pinned (OpenSpec.upto codecStreamSpec)

/-- 'morainelaw2.CodecOrders', WHERE WHAT IT READS IS OF BULK AT MOST 1048576: true; the input reads as it did. -/
def codecOrdersUptoRow : OpenClaim := { program := "yteogjahkccmfaaa", sum := "0a846c7afdae2f0f3aeed1e679110dfbc610118b18fa159d86db5ed237d48a77", func := "moraine/morainelaw2.CodecOrders", spec := "codecOrders", inPlace := ["internal/bytealg.Compare"], apart := false, narrowed := true }
def CodecOrdersUptoSaid : Prop := codecOrdersUptoRow.holds Try.pinned (OpenSpec.upto codecOrdersSpec)

/-- 'morainelaw2.CodecNewest', WHERE WHAT IT READS IS OF BULK AT MOST 1048576: true; the input reads as it did. -/
def codecNewestUptoRow : OpenClaim := { program := "yteogjahkccmfaaa", sum := "0a846c7afdae2f0f3aeed1e679110dfbc610118b18fa159d86db5ed237d48a77", func := "moraine/morainelaw2.CodecNewest", spec := "codecNewest", inPlace := ["internal/bytealg.Compare"], apart := false, narrowed := true }
def CodecNewestUptoSaid : Prop := codecNewestUptoRow.holds Try.pinned (OpenSpec.upto codecNewestSpec)

end Rows
end Go.Proofs.Yteogjahkccmfaaa
