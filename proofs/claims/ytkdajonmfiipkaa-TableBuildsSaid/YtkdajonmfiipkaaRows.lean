/-
  No cell of these rows narrows 'for every input' (looked for: loops, veiled, ifaces, maps, wideKeys, modest, calm, conditions, laid).
  DERIVED. THE GIVEN ROWS OF THIS SEAT. 7 by the template 'for every input the law returns true; each argument reads behind the call as it read before'; 0 by the template 'total and deterministic' (their statements: YtkdajonmfiipkaaTotals.lean).
  GIVEN WITH THE SEED: the statements are not yours to turn. If you find one false, say at which input.
  Laid BY PROGRAM, IN A SANDBOX (cutbox-rows.mjs): the forced cells as the released guide's own fill.sh prints them over the translation 61e6ee7add4ecec5… (all of the seat's roots in one cut). By AI agents, Wed Nov 11 2026. No macro, syntax, notation, axiom, sorry.
-/
import Derived.Test.YtkdajonmfiipkaaChecked
import GoSem.Claim
import GoSem.ClaimJoined
import GoSem.ClaimMapViews
import Derived.JoinedTies
import Derived.KernelRfl
namespace Go.Proofs.Ytkdajonmfiipkaa
/- THE CELL 'sum', in the pinned program and in every row, IS THE sha256 OF THE DUMP (.gsa) THAT YtkdajonmfiipkaaProg.lean LOADS. Nothing in Lean hashes anything: it is a label: what it is worth is what the hold of that sum in a sandbox is worth. -/
noncomputable def Try.pinned : Pinned := { name := "ytkdajonmfiipkaa", sum := "61e6ee7add4ecec55c26a585aa8901ec7f98e3a4d3715c60198eab0f4cfc06e1", checked := Try.checked }
namespace Rows
def none {H : Type} : Left H := { results := [], args := [] }

/-- 'morainelaw8.TableBuilds': WHATEVER THE INPUT: true; the input reads as it did. -/
def tableBuildsSpec : ChangeSpec := { name := "tableBuilds", fn := fun _ => fun
  | [d1, d2] => { results := [.lit (.bool true)], args := [d1, d2] }
  | _ => none }
def tableBuildsRow : OpenClaim := { program := "ytkdajonmfiipkaa", sum := "61e6ee7add4ecec55c26a585aa8901ec7f98e3a4d3715c60198eab0f4cfc06e1", func := "moraine/morainelaw8.TableBuilds", spec := "tableBuilds", inPlace := ["internal/bytealg.Compare"], unfollowed := true, recurses := true, apart := false }
def TableBuildsSaid : Prop := tableBuildsRow.holds Try.pinned (OpenSpec.ofChange tableBuildsSpec)

/-- ITS FALSE NEIGHBOUR: 'it returns false'. Refute it at one input. -/
def tableBuildsWrong : ChangeSpec := { name := "tableBuilds", fn := fun _ => fun
  | [d1, d2] => { results := [.lit (.bool false)], args := [d1, d2] }
  | _ => none }
def TableBuildsWrongFalsely : Prop := tableBuildsRow.holds Try.pinned (OpenSpec.ofChange tableBuildsWrong)

/-- 'morainelaw8.TableTold': WHATEVER THE INPUT: true; the input reads as it did. -/
def tableToldSpec : ChangeSpec := { name := "tableTold", fn := fun _ => fun
  | [d1, d2, d3, d4] => { results := [.lit (.bool true)], args := [d1, d2, d3, d4] }
  | _ => none }
def tableToldRow : OpenClaim := { program := "ytkdajonmfiipkaa", sum := "61e6ee7add4ecec55c26a585aa8901ec7f98e3a4d3715c60198eab0f4cfc06e1", func := "moraine/morainelaw8.TableTold", spec := "tableTold", inPlace := ["internal/bytealg.Compare"], unfollowed := true, recurses := true, apart := false }
def TableToldSaid : Prop := tableToldRow.holds Try.pinned (OpenSpec.ofChange tableToldSpec)

/-- ITS FALSE NEIGHBOUR: 'it returns false'. Refute it at one input. -/
def tableToldWrong : ChangeSpec := { name := "tableTold", fn := fun _ => fun
  | [d1, d2, d3, d4] => { results := [.lit (.bool false)], args := [d1, d2, d3, d4] }
  | _ => none }
def TableToldWrongFalsely : Prop := tableToldRow.holds Try.pinned (OpenSpec.ofChange tableToldWrong)

/-- 'morainelaw8.TableBlocks': WHATEVER THE INPUT: true; the input reads as it did. -/
def tableBlocksSpec : ChangeSpec := { name := "tableBlocks", fn := fun _ => fun
  | [d1, d2, d3] => { results := [.lit (.bool true)], args := [d1, d2, d3] }
  | _ => none }
def tableBlocksRow : OpenClaim := { program := "ytkdajonmfiipkaa", sum := "61e6ee7add4ecec55c26a585aa8901ec7f98e3a4d3715c60198eab0f4cfc06e1", func := "moraine/morainelaw8.TableBlocks", spec := "tableBlocks", inPlace := ["internal/bytealg.Compare"], unfollowed := true, recurses := true, apart := false }
def TableBlocksSaid : Prop := tableBlocksRow.holds Try.pinned (OpenSpec.ofChange tableBlocksSpec)

/-- ITS FALSE NEIGHBOUR: 'it returns false'. Refute it at one input. -/
def tableBlocksWrong : ChangeSpec := { name := "tableBlocks", fn := fun _ => fun
  | [d1, d2, d3] => { results := [.lit (.bool false)], args := [d1, d2, d3] }
  | _ => none }
def TableBlocksWrongFalsely : Prop := tableBlocksRow.holds Try.pinned (OpenSpec.ofChange tableBlocksWrong)

/-- 'morainelaw8.TableParts': WHATEVER THE INPUT: true; the input reads as it did. -/
def tablePartsSpec : ChangeSpec := { name := "tableParts", fn := fun _ => fun
  | [d1, d2, d3] => { results := [.lit (.bool true)], args := [d1, d2, d3] }
  | _ => none }
def tablePartsRow : OpenClaim := { program := "ytkdajonmfiipkaa", sum := "61e6ee7add4ecec55c26a585aa8901ec7f98e3a4d3715c60198eab0f4cfc06e1", func := "moraine/morainelaw8.TableParts", spec := "tableParts", inPlace := ["internal/bytealg.Compare"], unfollowed := true, recurses := true, apart := false }
def TablePartsSaid : Prop := tablePartsRow.holds Try.pinned (OpenSpec.ofChange tablePartsSpec)

/-- ITS FALSE NEIGHBOUR: 'it returns false'. Refute it at one input. -/
def tablePartsWrong : ChangeSpec := { name := "tableParts", fn := fun _ => fun
  | [d1, d2, d3] => { results := [.lit (.bool false)], args := [d1, d2, d3] }
  | _ => none }
def TablePartsWrongFalsely : Prop := tablePartsRow.holds Try.pinned (OpenSpec.ofChange tablePartsWrong)

/-- 'morainelaw8.TableReads': WHATEVER THE INPUT: true; the input reads as it did. -/
def tableReadsSpec : ChangeSpec := { name := "tableReads", fn := fun _ => fun
  | [d1, d2, d3, d4, d5] => { results := [.lit (.bool true)], args := [d1, d2, d3, d4, d5] }
  | _ => none }
def tableReadsRow : OpenClaim := { program := "ytkdajonmfiipkaa", sum := "61e6ee7add4ecec55c26a585aa8901ec7f98e3a4d3715c60198eab0f4cfc06e1", func := "moraine/morainelaw8.TableReads", spec := "tableReads", inPlace := ["internal/bytealg.Compare"], unfollowed := true, recurses := true, apart := false }
def TableReadsSaid : Prop := tableReadsRow.holds Try.pinned (OpenSpec.ofChange tableReadsSpec)

/-- ITS FALSE NEIGHBOUR: 'it returns false'. Refute it at one input. -/
def tableReadsWrong : ChangeSpec := { name := "tableReads", fn := fun _ => fun
  | [d1, d2, d3, d4, d5] => { results := [.lit (.bool false)], args := [d1, d2, d3, d4, d5] }
  | _ => none }
def TableReadsWrongFalsely : Prop := tableReadsRow.holds Try.pinned (OpenSpec.ofChange tableReadsWrong)

/-- 'morainelaw8.TableTurned': WHATEVER THE INPUT: true; the input reads as it did. -/
def tableTurnedSpec : ChangeSpec := { name := "tableTurned", fn := fun _ => fun
  | [d1, d2, d3, d4, d5, d6, d7, d8] => { results := [.lit (.bool true)], args := [d1, d2, d3, d4, d5, d6, d7, d8] }
  | _ => none }
def tableTurnedRow : OpenClaim := { program := "ytkdajonmfiipkaa", sum := "61e6ee7add4ecec55c26a585aa8901ec7f98e3a4d3715c60198eab0f4cfc06e1", func := "moraine/morainelaw8.TableTurned", spec := "tableTurned", inPlace := ["internal/bytealg.Compare"], unfollowed := true, recurses := true, apart := false }
def TableTurnedSaid : Prop := tableTurnedRow.holds Try.pinned (OpenSpec.ofChange tableTurnedSpec)

/-- ITS FALSE NEIGHBOUR: 'it returns false'. Refute it at one input. -/
def tableTurnedWrong : ChangeSpec := { name := "tableTurned", fn := fun _ => fun
  | [d1, d2, d3, d4, d5, d6, d7, d8] => { results := [.lit (.bool false)], args := [d1, d2, d3, d4, d5, d6, d7, d8] }
  | _ => none }
def TableTurnedWrongFalsely : Prop := tableTurnedRow.holds Try.pinned (OpenSpec.ofChange tableTurnedWrong)

/-- 'morainelaw8.TableBack': WHATEVER THE INPUT: true; the input reads as it did. -/
def tableBackSpec : ChangeSpec := { name := "tableBack", fn := fun _ => fun
  | [d1, d2, d3, d4, d5, d6] => { results := [.lit (.bool true)], args := [d1, d2, d3, d4, d5, d6] }
  | _ => none }
def tableBackRow : OpenClaim := { program := "ytkdajonmfiipkaa", sum := "61e6ee7add4ecec55c26a585aa8901ec7f98e3a4d3715c60198eab0f4cfc06e1", func := "moraine/morainelaw8.TableBack", spec := "tableBack", inPlace := ["internal/bytealg.Compare"], unfollowed := true, recurses := true, apart := false }
def TableBackSaid : Prop := tableBackRow.holds Try.pinned (OpenSpec.ofChange tableBackSpec)

/-- ITS FALSE NEIGHBOUR: 'it returns false'. Refute it at one input. -/
def tableBackWrong : ChangeSpec := { name := "tableBack", fn := fun _ => fun
  | [d1, d2, d3, d4, d5, d6] => { results := [.lit (.bool false)], args := [d1, d2, d3, d4, d5, d6] }
  | _ => none }
def TableBackWrongFalsely : Prop := tableBackRow.holds Try.pinned (OpenSpec.ofChange tableBackWrong)

/- THE SECOND FORM. 'bulk': how many values and letters a reading holds, each counted each time it is reached (what is shared counts as often as it is met; a slice's spare places count too). A statement '..UptoSaid' is the law's where the arguments, and the package variables that the reading takes, are together of bulk at most 1048576: NARROWER than '..Said'. Prove '..Said' where nothing that the law and all that it calls make is longer than what came in: it says more and counts as full. Else prove '..UptoSaid'. A law counts once. -/
mutual
def uptoBulk {H : Type} : DataW H → Nat
  | .lit (.string bytes) => bytes.length + 1
  | .lit _ => 1
  | .nil => 1
  | .ptr d => uptoBulk d + 1
  | .slice elems spare => uptoBulkAll elems + uptoBulkAll spare + 1
  | .agg parts => uptoBulkAll parts + 1
  | .iface _ d => uptoBulk d + 1
  | .map entries => uptoBulkEntries entries + 1
  | .held _ => 1
def uptoBulkAll {H : Type} : List (DataW H) → Nat
  | [] => 0
  | d :: r => uptoBulk d + uptoBulkAll r
def uptoBulkEntries {H : Type} : List (Lit × DataW H) → Nat
  | [] => 0
  | x :: r => uptoBulkEntry x + uptoBulkEntries r
def uptoBulkEntry {H : Type} : Lit × DataW H → Nat
  | (.string bytes, d) => bytes.length + uptoBulk d + 1
  | (_, d) => uptoBulk d + 1
 end
def uptoSmall : (H : Type) → List (DataW H) → Bool := fun _ ds => decide (uptoBulkAll ds ≤ 1048576)
def OpenSpec.upto (s : _root_.Go.ChangeSpec) : _root_.Go.OpenSpec := { _root_.Go.OpenSpec.ofChange s with cond := some uptoSmall }

/-- 'morainelaw8.TableBuilds', WHERE WHAT IT READS IS OF BULK AT MOST 1048576: true; the input reads as it did. -/
def tableBuildsUptoRow : OpenClaim := { program := "ytkdajonmfiipkaa", sum := "61e6ee7add4ecec55c26a585aa8901ec7f98e3a4d3715c60198eab0f4cfc06e1", func := "moraine/morainelaw8.TableBuilds", spec := "tableBuilds", inPlace := ["internal/bytealg.Compare"], unfollowed := true, recurses := true, apart := false, narrowed := true }
def TableBuildsUptoSaid : Prop := tableBuildsUptoRow.holds Try.pinned (OpenSpec.upto tableBuildsSpec)

/-- 'morainelaw8.TableTold', WHERE WHAT IT READS IS OF BULK AT MOST 1048576: true; the input reads as it did. -/
def tableToldUptoRow : OpenClaim := { program := "ytkdajonmfiipkaa", sum := "61e6ee7add4ecec55c26a585aa8901ec7f98e3a4d3715c60198eab0f4cfc06e1", func := "moraine/morainelaw8.TableTold", spec := "tableTold", inPlace := ["internal/bytealg.Compare"], unfollowed := true, recurses := true, apart := false, narrowed := true }
def TableToldUptoSaid : Prop := tableToldUptoRow.holds Try.pinned (OpenSpec.upto tableToldSpec)

/-- 'morainelaw8.TableBlocks', WHERE WHAT IT READS IS OF BULK AT MOST 1048576: true; the input reads as it did. -/
def tableBlocksUptoRow : OpenClaim := { program := "ytkdajonmfiipkaa", sum := "61e6ee7add4ecec55c26a585aa8901ec7f98e3a4d3715c60198eab0f4cfc06e1", func := "moraine/morainelaw8.TableBlocks", spec := "tableBlocks", inPlace := ["internal/bytealg.Compare"], unfollowed := true, recurses := true, apart := false, narrowed := true }
def TableBlocksUptoSaid : Prop := tableBlocksUptoRow.holds Try.pinned (OpenSpec.upto tableBlocksSpec)

/-- 'morainelaw8.TableParts', WHERE WHAT IT READS IS OF BULK AT MOST 1048576: true; the input reads as it did. -/
def tablePartsUptoRow : OpenClaim := { program := "ytkdajonmfiipkaa", sum := "61e6ee7add4ecec55c26a585aa8901ec7f98e3a4d3715c60198eab0f4cfc06e1", func := "moraine/morainelaw8.TableParts", spec := "tableParts", inPlace := ["internal/bytealg.Compare"], unfollowed := true, recurses := true, apart := false, narrowed := true }
def TablePartsUptoSaid : Prop := tablePartsUptoRow.holds Try.pinned (OpenSpec.upto tablePartsSpec)

/-- 'morainelaw8.TableReads', WHERE WHAT IT READS IS OF BULK AT MOST 1048576: true; the input reads as it did. -/
def tableReadsUptoRow : OpenClaim := { program := "ytkdajonmfiipkaa", sum := "61e6ee7add4ecec55c26a585aa8901ec7f98e3a4d3715c60198eab0f4cfc06e1", func := "moraine/morainelaw8.TableReads", spec := "tableReads", inPlace := ["internal/bytealg.Compare"], unfollowed := true, recurses := true, apart := false, narrowed := true }
def TableReadsUptoSaid : Prop := tableReadsUptoRow.holds Try.pinned (OpenSpec.upto tableReadsSpec)

/-- 'morainelaw8.TableTurned', WHERE WHAT IT READS IS OF BULK AT MOST 1048576: true; the input reads as it did. -/
def tableTurnedUptoRow : OpenClaim := { program := "ytkdajonmfiipkaa", sum := "61e6ee7add4ecec55c26a585aa8901ec7f98e3a4d3715c60198eab0f4cfc06e1", func := "moraine/morainelaw8.TableTurned", spec := "tableTurned", inPlace := ["internal/bytealg.Compare"], unfollowed := true, recurses := true, apart := false, narrowed := true }
def TableTurnedUptoSaid : Prop := tableTurnedUptoRow.holds Try.pinned (OpenSpec.upto tableTurnedSpec)

/-- 'morainelaw8.TableBack', WHERE WHAT IT READS IS OF BULK AT MOST 1048576: true; the input reads as it did. -/
def tableBackUptoRow : OpenClaim := { program := "ytkdajonmfiipkaa", sum := "61e6ee7add4ecec55c26a585aa8901ec7f98e3a4d3715c60198eab0f4cfc06e1", func := "moraine/morainelaw8.TableBack", spec := "tableBack", inPlace := ["internal/bytealg.Compare"], unfollowed := true, recurses := true, apart := false, narrowed := true }
def TableBackUptoSaid : Prop := tableBackUptoRow.holds Try.pinned (OpenSpec.upto tableBackSpec)

end Rows
end Go.Proofs.Ytkdajonmfiipkaa
