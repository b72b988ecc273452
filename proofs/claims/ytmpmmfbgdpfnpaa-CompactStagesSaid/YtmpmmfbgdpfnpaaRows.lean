/-
  No cell of these rows narrows 'for every input' (looked for: loops, veiled, ifaces, maps, wideKeys, modest, calm, conditions, laid).
  DERIVED. THE GIVEN ROWS OF THIS SEAT. 6 by the template 'for every input the law returns true; each argument reads behind the call as it read before'; 0 by the template 'total and deterministic' (their statements: YtmpmmfbgdpfnpaaTotals.lean).
  GIVEN WITH THE SEED: the statements are not yours to turn. If you find one false, say at which input.
  Laid BY PROGRAM, IN A SANDBOX (cutbox-rows.mjs): the forced cells as the released guide's own fill.sh prints them over the translation 3e6784769cc41635… (all of the seat's roots in one cut). By AI agents, Wed Nov 11 2026. No macro, syntax, notation, axiom, sorry.
-/
import Derived.Test.YtmpmmfbgdpfnpaaChecked
import GoSem.Claim
import GoSem.ClaimJoined
import GoSem.ClaimMapViews
import Derived.JoinedTies
import Derived.KernelRfl
namespace Go.Proofs.Ytmpmmfbgdpfnpaa
/- THE CELL 'sum', in the pinned program and in every row, IS THE sha256 OF THE DUMP (.gsa) THAT YtmpmmfbgdpfnpaaProg.lean LOADS. Nothing in Lean hashes anything: it is a label: what it is worth is what the hold of that sum in a sandbox is worth. -/
noncomputable def Try.pinned : Pinned := { name := "ytmpmmfbgdpfnpaa", sum := "3e6784769cc4163596001c6d64853b8f4c25be4d64df3599c088165fb36e8566", checked := Try.checked }
namespace Rows
def none {H : Type} : Left H := { results := [], args := [] }

/-- 'morainelaw10.CompactMerges': WHATEVER THE INPUT: true; the input reads as it did. -/
def compactMergesSpec : ChangeSpec := { name := "compactMerges", fn := fun _ => fun
  | [d1, d2, d3] => { results := [.lit (.bool true)], args := [d1, d2, d3] }
  | _ => none }
def compactMergesRow : OpenClaim := { program := "ytmpmmfbgdpfnpaa", sum := "3e6784769cc4163596001c6d64853b8f4c25be4d64df3599c088165fb36e8566", func := "moraine/morainelaw10.CompactMerges", spec := "compactMerges", inPlace := ["internal/bytealg.Compare"], unfollowed := true, recurses := true, apart := false }
def CompactMergesSaid : Prop := compactMergesRow.holds Try.pinned (OpenSpec.ofChange compactMergesSpec)

/-- ITS FALSE NEIGHBOUR: 'it returns false'. Refute it at one input. -/
def compactMergesWrong : ChangeSpec := { name := "compactMerges", fn := fun _ => fun
  | [d1, d2, d3] => { results := [.lit (.bool false)], args := [d1, d2, d3] }
  | _ => none }
def CompactMergesWrongFalsely : Prop := compactMergesRow.holds Try.pinned (OpenSpec.ofChange compactMergesWrong)

/-- 'morainelaw10.CompactKeeps': WHATEVER THE INPUT: true; the input reads as it did. -/
def compactKeepsSpec : ChangeSpec := { name := "compactKeeps", fn := fun _ => fun
  | [d1, d2, d3, d4, d5, d6] => { results := [.lit (.bool true)], args := [d1, d2, d3, d4, d5, d6] }
  | _ => none }
def compactKeepsRow : OpenClaim := { program := "ytmpmmfbgdpfnpaa", sum := "3e6784769cc4163596001c6d64853b8f4c25be4d64df3599c088165fb36e8566", func := "moraine/morainelaw10.CompactKeeps", spec := "compactKeeps", inPlace := ["internal/bytealg.Compare"], unfollowed := true, recurses := true, apart := false }
def CompactKeepsSaid : Prop := compactKeepsRow.holds Try.pinned (OpenSpec.ofChange compactKeepsSpec)

/-- ITS FALSE NEIGHBOUR: 'it returns false'. Refute it at one input. -/
def compactKeepsWrong : ChangeSpec := { name := "compactKeeps", fn := fun _ => fun
  | [d1, d2, d3, d4, d5, d6] => { results := [.lit (.bool false)], args := [d1, d2, d3, d4, d5, d6] }
  | _ => none }
def CompactKeepsWrongFalsely : Prop := compactKeepsRow.holds Try.pinned (OpenSpec.ofChange compactKeepsWrong)

/-- 'morainelaw10.CompactStages': WHATEVER THE INPUT: true; the input reads as it did. -/
def compactStagesSpec : ChangeSpec := { name := "compactStages", fn := fun _ => fun
  | [d1, d2, d3, d4] => { results := [.lit (.bool true)], args := [d1, d2, d3, d4] }
  | _ => none }
def compactStagesRow : OpenClaim := { program := "ytmpmmfbgdpfnpaa", sum := "3e6784769cc4163596001c6d64853b8f4c25be4d64df3599c088165fb36e8566", func := "moraine/morainelaw10.CompactStages", spec := "compactStages", inPlace := ["internal/bytealg.Compare"], unfollowed := true, recurses := true, apart := false }
def CompactStagesSaid : Prop := compactStagesRow.holds Try.pinned (OpenSpec.ofChange compactStagesSpec)

/-- ITS FALSE NEIGHBOUR: 'it returns false'. Refute it at one input. -/
def compactStagesWrong : ChangeSpec := { name := "compactStages", fn := fun _ => fun
  | [d1, d2, d3, d4] => { results := [.lit (.bool false)], args := [d1, d2, d3, d4] }
  | _ => none }
def CompactStagesWrongFalsely : Prop := compactStagesRow.holds Try.pinned (OpenSpec.ofChange compactStagesWrong)

/-- 'morainelaw10.CompactOnce': WHATEVER THE INPUT: true; the input reads as it did. -/
def compactOnceSpec : ChangeSpec := { name := "compactOnce", fn := fun _ => fun
  | [d1, d2, d3, d4] => { results := [.lit (.bool true)], args := [d1, d2, d3, d4] }
  | _ => none }
def compactOnceRow : OpenClaim := { program := "ytmpmmfbgdpfnpaa", sum := "3e6784769cc4163596001c6d64853b8f4c25be4d64df3599c088165fb36e8566", func := "moraine/morainelaw10.CompactOnce", spec := "compactOnce", inPlace := ["internal/bytealg.Compare"], unfollowed := true, recurses := true, apart := false }
def CompactOnceSaid : Prop := compactOnceRow.holds Try.pinned (OpenSpec.ofChange compactOnceSpec)

/-- ITS FALSE NEIGHBOUR: 'it returns false'. Refute it at one input. -/
def compactOnceWrong : ChangeSpec := { name := "compactOnce", fn := fun _ => fun
  | [d1, d2, d3, d4] => { results := [.lit (.bool false)], args := [d1, d2, d3, d4] }
  | _ => none }
def CompactOnceWrongFalsely : Prop := compactOnceRow.holds Try.pinned (OpenSpec.ofChange compactOnceWrong)

/-- 'morainelaw10.CompactCuts': WHATEVER THE INPUT: true; the input reads as it did. -/
def compactCutsSpec : ChangeSpec := { name := "compactCuts", fn := fun _ => fun
  | [d1, d2, d3, d4] => { results := [.lit (.bool true)], args := [d1, d2, d3, d4] }
  | _ => none }
def compactCutsRow : OpenClaim := { program := "ytmpmmfbgdpfnpaa", sum := "3e6784769cc4163596001c6d64853b8f4c25be4d64df3599c088165fb36e8566", func := "moraine/morainelaw10.CompactCuts", spec := "compactCuts", inPlace := ["internal/bytealg.Compare"], unfollowed := true, recurses := true, apart := false }
def CompactCutsSaid : Prop := compactCutsRow.holds Try.pinned (OpenSpec.ofChange compactCutsSpec)

/-- ITS FALSE NEIGHBOUR: 'it returns false'. Refute it at one input. -/
def compactCutsWrong : ChangeSpec := { name := "compactCuts", fn := fun _ => fun
  | [d1, d2, d3, d4] => { results := [.lit (.bool false)], args := [d1, d2, d3, d4] }
  | _ => none }
def CompactCutsWrongFalsely : Prop := compactCutsRow.holds Try.pinned (OpenSpec.ofChange compactCutsWrong)

/-- 'morainelaw10.CompactPicks': WHATEVER THE INPUT: true; the input reads as it did. -/
def compactPicksSpec : ChangeSpec := { name := "compactPicks", fn := fun _ => fun
  | [d1, d2, d3, d4] => { results := [.lit (.bool true)], args := [d1, d2, d3, d4] }
  | _ => none }
def compactPicksRow : OpenClaim := { program := "ytmpmmfbgdpfnpaa", sum := "3e6784769cc4163596001c6d64853b8f4c25be4d64df3599c088165fb36e8566", func := "moraine/morainelaw10.CompactPicks", spec := "compactPicks", inPlace := ["internal/bytealg.Compare"], unfollowed := true, recurses := true, apart := false }
def CompactPicksSaid : Prop := compactPicksRow.holds Try.pinned (OpenSpec.ofChange compactPicksSpec)

/-- ITS FALSE NEIGHBOUR: 'it returns false'. Refute it at one input. -/
def compactPicksWrong : ChangeSpec := { name := "compactPicks", fn := fun _ => fun
  | [d1, d2, d3, d4] => { results := [.lit (.bool false)], args := [d1, d2, d3, d4] }
  | _ => none }
def CompactPicksWrongFalsely : Prop := compactPicksRow.holds Try.pinned (OpenSpec.ofChange compactPicksWrong)

/- THE SECOND FORM. 'bulk': how many values and letters a reading holds, each counted each time it is reached (what is shared counts as often as it is met; a slice's spare places count too). A statement '..UptoSaid' is the law's where the arguments, and the package variables that the reading takes, are together of bulk at most 1048576: NARROWER than '..Said'. Prove '..Said' where nothing that the law and all that it calls make is longer than what came in: it says more and counts as full. Else prove '..UptoSaid'. A law counts once. -/
mutual
def uptoBulk {H : Type} : DataW H → Nat
  | .lit (.string bytes) => bytes.length + 1
  | .lit _ => 1
  | .nil => 1
  | .ptr d => uptoBulk d + 1
  | .slice elems spare => uptoBulkAll elems + uptoBulkAll spare + 1
  | .agg parts => uptoBulkAll parts + 1
  | .iface _ d => uptoBulk d + 1
  | .map entries => uptoBulkEntries entries + 1
  | .held _ => 1
def uptoBulkAll {H : Type} : List (DataW H) → Nat
  | [] => 0
  | d :: r => uptoBulk d + uptoBulkAll r
def uptoBulkEntries {H : Type} : List (Lit × DataW H) → Nat
  | [] => 0
  | x :: r => uptoBulkEntry x + uptoBulkEntries r
def uptoBulkEntry {H : Type} : Lit × DataW H → Nat
  | (.string bytes, d) => bytes.length + uptoBulk d + 1
  | (_, d) => uptoBulk d + 1
 end
def uptoSmall : (H : Type) → List (DataW H) → Bool := fun _ ds => decide (uptoBulkAll ds ≤ 1048576)
def OpenSpec.upto (s : _root_.Go.ChangeSpec) : _root_.Go.OpenSpec := { _root_.Go.OpenSpec.ofChange s with cond := some uptoSmall }

/-- 'morainelaw10.CompactMerges', WHERE WHAT IT READS IS OF BULK AT MOST 1048576: true; the input reads as it did. -/
def compactMergesUptoRow : OpenClaim := { program := "ytmpmmfbgdpfnpaa", sum := "3e6784769cc4163596001c6d64853b8f4c25be4d64df3599c088165fb36e8566", func := "moraine/morainelaw10.CompactMerges", spec := "compactMerges", inPlace := ["internal/bytealg.Compare"], unfollowed := true, recurses := true, apart := false, narrowed := true }
def CompactMergesUptoSaid : Prop := compactMergesUptoRow.holds Try.pinned (OpenSpec.upto compactMergesSpec)

/-- 'morainelaw10.CompactKeeps', WHERE WHAT IT READS IS OF BULK AT MOST 1048576: true; the input reads as it did. -/
def compactKeepsUptoRow : OpenClaim := { program := "ytmpmmfbgdpfnpaa", sum := "3e6784769cc4163596001c6d64853b8f4c25be4d64df3599c088165fb36e8566", func := "moraine/morainelaw10.CompactKeeps", spec := "compactKeeps", inPlace := ["internal/bytealg.Compare"], unfollowed := true, recurses := true, apart := false, narrowed := true }
def CompactKeepsUptoSaid : Prop := compactKeepsUptoRow.holds Try.pinned (OpenSpec.upto compactKeepsSpec)

/-- 'morainelaw10.CompactStages', WHERE WHAT IT READS IS OF BULK AT MOST 1048576: true; the input reads as it did. -/
def compactStagesUptoRow : OpenClaim := { program := "ytmpmmfbgdpfnpaa", sum := "3e6784769cc4163596001c6d64853b8f4c25be4d64df3599c088165fb36e8566", func := "moraine/morainelaw10.CompactStages", spec := "compactStages", inPlace := ["internal/bytealg.Compare"], unfollowed := true, recurses := true, apart := false, narrowed := true }
def CompactStagesUptoSaid : Prop := compactStagesUptoRow.holds Try.pinned (OpenSpec.upto compactStagesSpec)

/-- 'morainelaw10.CompactOnce', WHERE WHAT IT READS IS OF BULK AT MOST 1048576: true; the input reads as it did. -/
def compactOnceUptoRow : OpenClaim := { program := "ytmpmmfbgdpfnpaa", sum := "3e6784769cc4163596001c6d64853b8f4c25be4d64df3599c088165fb36e8566", func := "moraine/morainelaw10.CompactOnce", spec := "compactOnce", inPlace := ["internal/bytealg.Compare"], unfollowed := true, recurses := true, apart := false, narrowed := true }
def CompactOnceUptoSaid : Prop := compactOnceUptoRow.holds Try.pinned (OpenSpec.upto compactOnceSpec)

/-- 'morainelaw10.CompactCuts', WHERE WHAT IT READS IS OF BULK AT MOST 1048576: true; the input reads as it did. -/
def compactCutsUptoRow : OpenClaim := { program := "ytmpmmfbgdpfnpaa", sum := "3e6784769cc4163596001c6d64853b8f4c25be4d64df3599c088165fb36e8566", func := "moraine/morainelaw10.CompactCuts", spec := "compactCuts", inPlace := ["internal/bytealg.Compare"], unfollowed := true, recurses := true, apart := false, narrowed := true }
def CompactCutsUptoSaid : Prop := compactCutsUptoRow.holds Try.pinned (OpenSpec.upto compactCutsSpec)

/-- 'morainelaw10.CompactPicks', WHERE WHAT IT READS IS OF BULK AT MOST 1048576: true; the input reads as it did. -/
def compactPicksUptoRow : OpenClaim := { program := "ytmpmmfbgdpfnpaa", sum := "3e6784769cc4163596001c6d64853b8f4c25be4d64df3599c088165fb36e8566", func := "moraine/morainelaw10.CompactPicks", spec := "compactPicks", inPlace := ["internal/bytealg.Compare"], unfollowed := true, recurses := true, apart := false, narrowed := true }
def CompactPicksUptoSaid : Prop := compactPicksUptoRow.holds Try.pinned (OpenSpec.upto compactPicksSpec)

end Rows
end Go.Proofs.Ytmpmmfbgdpfnpaa
