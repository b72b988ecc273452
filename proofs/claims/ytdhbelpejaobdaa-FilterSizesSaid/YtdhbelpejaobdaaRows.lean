/-
  No cell of these rows narrows 'for every input' (looked for: loops, veiled, ifaces, maps, wideKeys, modest, calm, conditions, laid).
  DERIVED. THE GIVEN ROWS OF THIS SEAT. 8 by the template 'for every input the law returns true; each argument reads behind the call as it read before'; 0 by the template 'total and deterministic' (their statements: YtdhbelpejaobdaaTotals.lean).
  GIVEN WITH THE SEED: the statements are not yours to turn. If you find one false, say at which input.
  Laid BY PROGRAM, IN A SANDBOX (cutbox-rows.mjs): the forced cells as the released guide's own fill.sh prints them over the translation d014b52bd186cb18… (all of the seat's roots in one cut). By AI agents, Wed Nov 11 2026. No macro, syntax, notation, axiom, sorry.
-/
import Derived.Test.YtdhbelpejaobdaaChecked
import GoSem.Claim
import GoSem.ClaimJoined
import GoSem.ClaimMapViews
import Derived.JoinedTies
import Derived.KernelRfl
namespace Go.Proofs.Ytdhbelpejaobdaa
/- THE CELL 'sum', in the pinned program and in every row, IS THE sha256 OF THE DUMP (.gsa) THAT YtdhbelpejaobdaaProg.lean LOADS. Nothing in Lean hashes anything: it is a label: what it is worth is what the hold of that sum in a sandbox is worth. -/
noncomputable def Try.pinned : Pinned := { name := "ytdhbelpejaobdaa", sum := "d014b52bd186cb18e6c25c86134da1e2b8d5fbc9e4ca5c43abbcf2856cc9eef8", checked := Try.checked }
namespace Rows
def none {H : Type} : Left H := { results := [], args := [] }

/-- 'morainelaw7.BlockBuilds': WHATEVER THE INPUT: true; the input reads as it did. -/
def blockBuildsSpec : ChangeSpec := { name := "blockBuilds", fn := fun _ => fun
  | [d1, d2] => { results := [.lit (.bool true)], args := [d1, d2] }
  | _ => none }
def blockBuildsRow : OpenClaim := { program := "ytdhbelpejaobdaa", sum := "d014b52bd186cb18e6c25c86134da1e2b8d5fbc9e4ca5c43abbcf2856cc9eef8", func := "moraine/morainelaw7.BlockBuilds", spec := "blockBuilds", inPlace := ["internal/bytealg.Compare"], unfollowed := true, recurses := true, apart := false }
def BlockBuildsSaid : Prop := blockBuildsRow.holds Try.pinned (OpenSpec.ofChange blockBuildsSpec)

/-- ITS FALSE NEIGHBOUR: 'it returns false'. Refute it at one input. -/
def blockBuildsWrong : ChangeSpec := { name := "blockBuilds", fn := fun _ => fun
  | [d1, d2] => { results := [.lit (.bool false)], args := [d1, d2] }
  | _ => none }
def BlockBuildsWrongFalsely : Prop := blockBuildsRow.holds Try.pinned (OpenSpec.ofChange blockBuildsWrong)

/-- 'morainelaw7.BlockOnce': WHATEVER THE INPUT: true; the input reads as it did. -/
def blockOnceSpec : ChangeSpec := { name := "blockOnce", fn := fun _ => fun
  | [d] => { results := [.lit (.bool true)], args := [d] }
  | _ => none }
def blockOnceRow : OpenClaim := { program := "ytdhbelpejaobdaa", sum := "d014b52bd186cb18e6c25c86134da1e2b8d5fbc9e4ca5c43abbcf2856cc9eef8", func := "moraine/morainelaw7.BlockOnce", spec := "blockOnce", inPlace := ["internal/bytealg.Compare"], unfollowed := true, recurses := true, apart := false }
def BlockOnceSaid : Prop := blockOnceRow.holds Try.pinned (OpenSpec.ofChange blockOnceSpec)

/-- ITS FALSE NEIGHBOUR: 'it returns false'. Refute it at one input. -/
def blockOnceWrong : ChangeSpec := { name := "blockOnce", fn := fun _ => fun
  | [d] => { results := [.lit (.bool false)], args := [d] }
  | _ => none }
def BlockOnceWrongFalsely : Prop := blockOnceRow.holds Try.pinned (OpenSpec.ofChange blockOnceWrong)

/-- 'morainelaw7.BlockShares': WHATEVER THE INPUT: true; the input reads as it did. -/
def blockSharesSpec : ChangeSpec := { name := "blockShares", fn := fun _ => fun
  | [d1, d2, d3] => { results := [.lit (.bool true)], args := [d1, d2, d3] }
  | _ => none }
def blockSharesRow : OpenClaim := { program := "ytdhbelpejaobdaa", sum := "d014b52bd186cb18e6c25c86134da1e2b8d5fbc9e4ca5c43abbcf2856cc9eef8", func := "moraine/morainelaw7.BlockShares", spec := "blockShares", inPlace := ["internal/bytealg.Compare"], unfollowed := true, recurses := true, apart := false }
def BlockSharesSaid : Prop := blockSharesRow.holds Try.pinned (OpenSpec.ofChange blockSharesSpec)

/-- ITS FALSE NEIGHBOUR: 'it returns false'. Refute it at one input. -/
def blockSharesWrong : ChangeSpec := { name := "blockShares", fn := fun _ => fun
  | [d1, d2, d3] => { results := [.lit (.bool false)], args := [d1, d2, d3] }
  | _ => none }
def BlockSharesWrongFalsely : Prop := blockSharesRow.holds Try.pinned (OpenSpec.ofChange blockSharesWrong)

/-- 'morainelaw7.BlockParses': WHATEVER THE INPUT: true; the input reads as it did. -/
def blockParsesSpec : ChangeSpec := { name := "blockParses", fn := fun _ => fun
  | [d1, d2] => { results := [.lit (.bool true)], args := [d1, d2] }
  | _ => none }
def blockParsesRow : OpenClaim := { program := "ytdhbelpejaobdaa", sum := "d014b52bd186cb18e6c25c86134da1e2b8d5fbc9e4ca5c43abbcf2856cc9eef8", func := "moraine/morainelaw7.BlockParses", spec := "blockParses", inPlace := ["internal/bytealg.Compare"], unfollowed := true, recurses := true, apart := false }
def BlockParsesSaid : Prop := blockParsesRow.holds Try.pinned (OpenSpec.ofChange blockParsesSpec)

/-- ITS FALSE NEIGHBOUR: 'it returns false'. Refute it at one input. -/
def blockParsesWrong : ChangeSpec := { name := "blockParses", fn := fun _ => fun
  | [d1, d2] => { results := [.lit (.bool false)], args := [d1, d2] }
  | _ => none }
def BlockParsesWrongFalsely : Prop := blockParsesRow.holds Try.pinned (OpenSpec.ofChange blockParsesWrong)

/-- 'morainelaw7.BlockBack': WHATEVER THE INPUT: true; the input reads as it did. -/
def blockBackSpec : ChangeSpec := { name := "blockBack", fn := fun _ => fun
  | [d1, d2, d3] => { results := [.lit (.bool true)], args := [d1, d2, d3] }
  | _ => none }
def blockBackRow : OpenClaim := { program := "ytdhbelpejaobdaa", sum := "d014b52bd186cb18e6c25c86134da1e2b8d5fbc9e4ca5c43abbcf2856cc9eef8", func := "moraine/morainelaw7.BlockBack", spec := "blockBack", inPlace := ["internal/bytealg.Compare"], unfollowed := true, recurses := true, apart := false }
def BlockBackSaid : Prop := blockBackRow.holds Try.pinned (OpenSpec.ofChange blockBackSpec)

/-- ITS FALSE NEIGHBOUR: 'it returns false'. Refute it at one input. -/
def blockBackWrong : ChangeSpec := { name := "blockBack", fn := fun _ => fun
  | [d1, d2, d3] => { results := [.lit (.bool false)], args := [d1, d2, d3] }
  | _ => none }
def BlockBackWrongFalsely : Prop := blockBackRow.holds Try.pinned (OpenSpec.ofChange blockBackWrong)

/-- 'morainelaw7.FilterSizes': WHATEVER THE INPUT: true; the input reads as it did. -/
def filterSizesSpec : ChangeSpec := { name := "filterSizes", fn := fun _ => fun
  | [d1, d2] => { results := [.lit (.bool true)], args := [d1, d2] }
  | _ => none }
def filterSizesRow : OpenClaim := { program := "ytdhbelpejaobdaa", sum := "d014b52bd186cb18e6c25c86134da1e2b8d5fbc9e4ca5c43abbcf2856cc9eef8", func := "moraine/morainelaw7.FilterSizes", spec := "filterSizes", inPlace := ["internal/bytealg.Compare"], unfollowed := true, recurses := true, apart := false }
def FilterSizesSaid : Prop := filterSizesRow.holds Try.pinned (OpenSpec.ofChange filterSizesSpec)

/-- ITS FALSE NEIGHBOUR: 'it returns false'. Refute it at one input. -/
def filterSizesWrong : ChangeSpec := { name := "filterSizes", fn := fun _ => fun
  | [d1, d2] => { results := [.lit (.bool false)], args := [d1, d2] }
  | _ => none }
def FilterSizesWrongFalsely : Prop := filterSizesRow.holds Try.pinned (OpenSpec.ofChange filterSizesWrong)

/-- 'morainelaw7.FilterBuilds': WHATEVER THE INPUT: true; the input reads as it did. -/
def filterBuildsSpec : ChangeSpec := { name := "filterBuilds", fn := fun _ => fun
  | [d1, d2, d3, d4] => { results := [.lit (.bool true)], args := [d1, d2, d3, d4] }
  | _ => none }
def filterBuildsRow : OpenClaim := { program := "ytdhbelpejaobdaa", sum := "d014b52bd186cb18e6c25c86134da1e2b8d5fbc9e4ca5c43abbcf2856cc9eef8", func := "moraine/morainelaw7.FilterBuilds", spec := "filterBuilds", inPlace := ["internal/bytealg.Compare"], unfollowed := true, recurses := true, apart := false }
def FilterBuildsSaid : Prop := filterBuildsRow.holds Try.pinned (OpenSpec.ofChange filterBuildsSpec)

/-- ITS FALSE NEIGHBOUR: 'it returns false'. Refute it at one input. -/
def filterBuildsWrong : ChangeSpec := { name := "filterBuilds", fn := fun _ => fun
  | [d1, d2, d3, d4] => { results := [.lit (.bool false)], args := [d1, d2, d3, d4] }
  | _ => none }
def FilterBuildsWrongFalsely : Prop := filterBuildsRow.holds Try.pinned (OpenSpec.ofChange filterBuildsWrong)

/-- 'morainelaw7.FilterHas': WHATEVER THE INPUT: true; the input reads as it did. -/
def filterHasSpec : ChangeSpec := { name := "filterHas", fn := fun _ => fun
  | [d1, d2, d3] => { results := [.lit (.bool true)], args := [d1, d2, d3] }
  | _ => none }
def filterHasRow : OpenClaim := { program := "ytdhbelpejaobdaa", sum := "d014b52bd186cb18e6c25c86134da1e2b8d5fbc9e4ca5c43abbcf2856cc9eef8", func := "moraine/morainelaw7.FilterHas", spec := "filterHas", inPlace := ["internal/bytealg.Compare"], unfollowed := true, recurses := true, apart := false }
def FilterHasSaid : Prop := filterHasRow.holds Try.pinned (OpenSpec.ofChange filterHasSpec)

/-- ITS FALSE NEIGHBOUR: 'it returns false'. Refute it at one input. -/
def filterHasWrong : ChangeSpec := { name := "filterHas", fn := fun _ => fun
  | [d1, d2, d3] => { results := [.lit (.bool false)], args := [d1, d2, d3] }
  | _ => none }
def FilterHasWrongFalsely : Prop := filterHasRow.holds Try.pinned (OpenSpec.ofChange filterHasWrong)

/- THE SECOND FORM. 'bulk': how many values and letters a reading holds, each counted each time it is reached (what is shared counts as often as it is met; a slice's spare places count too). A statement '..UptoSaid' is the law's where the arguments, and the package variables that the reading takes, are together of bulk at most 1048576: NARROWER than '..Said'. Prove '..Said' where nothing that the law and all that it calls make is longer than what came in: it says more and counts as full. Else prove '..UptoSaid'. A law counts once. -/
mutual
def uptoBulk {H : Type} : DataW H → Nat
  | .lit (.string bytes) => bytes.length + 1
  | .lit _ => 1
  | .nil => 1
  | .ptr d => uptoBulk d + 1
  | .slice elems spare => uptoBulkAll elems + uptoBulkAll spare + 1
  | .agg parts => uptoBulkAll parts + 1
  | .iface _ d => uptoBulk d + 1
  | .map entries => uptoBulkEntries entries + 1
  | .held _ => 1
def uptoBulkAll {H : Type} : List (DataW H) → Nat
  | [] => 0
  | d :: r => uptoBulk d + uptoBulkAll r
def uptoBulkEntries {H : Type} : List (Lit × DataW H) → Nat
  | [] => 0
  | x :: r => uptoBulkEntry x + uptoBulkEntries r
def uptoBulkEntry {H : Type} : Lit × DataW H → Nat
  | (.string bytes, d) => bytes.length + uptoBulk d + 1
  | (_, d) => uptoBulk d + 1
 end
def uptoSmall : (H : Type) → List (DataW H) → Bool := fun _ ds => decide (uptoBulkAll ds ≤ 1048576)
def OpenSpec.upto (s : _root_.Go.ChangeSpec) : _root_.Go.OpenSpec := { _root_.Go.OpenSpec.ofChange s with cond := some uptoSmall }

/-- 'morainelaw7.BlockBuilds', WHERE WHAT IT READS IS OF BULK AT MOST 1048576: true; the input reads as it did. -/
def blockBuildsUptoRow : OpenClaim := { program := "ytdhbelpejaobdaa", sum := "d014b52bd186cb18e6c25c86134da1e2b8d5fbc9e4ca5c43abbcf2856cc9eef8", func := "moraine/morainelaw7.BlockBuilds", spec := "blockBuilds", inPlace := ["internal/bytealg.Compare"], unfollowed := true, recurses := true, apart := false, narrowed := true }
def BlockBuildsUptoSaid : Prop := blockBuildsUptoRow.holds Try.pinned (OpenSpec.upto blockBuildsSpec)

/-- 'morainelaw7.BlockOnce', WHERE WHAT IT READS IS OF BULK AT MOST 1048576: true; the input reads as it did. -/
def blockOnceUptoRow : OpenClaim := { program := "ytdhbelpejaobdaa", sum := "d014b52bd186cb18e6c25c86134da1e2b8d5fbc9e4ca5c43abbcf2856cc9eef8", func := "moraine/morainelaw7.BlockOnce", spec := "blockOnce", inPlace := ["internal/bytealg.Compare"], unfollowed := true, recurses := true, apart := false, narrowed := true }
def BlockOnceUptoSaid : Prop := blockOnceUptoRow.holds Try.pinned (OpenSpec.upto blockOnceSpec)

/-- 'morainelaw7.BlockShares', WHERE WHAT IT READS IS OF BULK AT MOST 1048576: true; the input reads as it did. -/
def blockSharesUptoRow : OpenClaim := { program := "ytdhbelpejaobdaa", sum := "d014b52bd186cb18e6c25c86134da1e2b8d5fbc9e4ca5c43abbcf2856cc9eef8", func := "moraine/morainelaw7.BlockShares", spec := "blockShares", inPlace := ["internal/bytealg.Compare"], unfollowed := true, recurses := true, apart := false, narrowed := true }
def BlockSharesUptoSaid : Prop := blockSharesUptoRow.holds Try.pinned (OpenSpec.upto blockSharesSpec)

/-- 'morainelaw7.BlockParses', WHERE WHAT IT READS IS OF BULK AT MOST 1048576: true; the input reads as it did. -/
def blockParsesUptoRow : OpenClaim := { program := "ytdhbelpejaobdaa", sum := "d014b52bd186cb18e6c25c86134da1e2b8d5fbc9e4ca5c43abbcf2856cc9eef8", func := "moraine/morainelaw7.BlockParses", spec := "blockParses", inPlace := ["internal/bytealg.Compare"], unfollowed := true, recurses := true, apart := false, narrowed := true }
def BlockParsesUptoSaid : Prop := blockParsesUptoRow.holds Try.pinned (OpenSpec.upto blockParsesSpec)

/-- 'morainelaw7.BlockBack', WHERE WHAT IT READS IS OF BULK AT MOST 1048576: true; the input reads as it did. -/
def blockBackUptoRow : OpenClaim := { program := "ytdhbelpejaobdaa", sum := "d014b52bd186cb18e6c25c86134da1e2b8d5fbc9e4ca5c43abbcf2856cc9eef8", func := "moraine/morainelaw7.BlockBack", spec := "blockBack", inPlace := ["internal/bytealg.Compare"], unfollowed := true, recurses := true, apart := false, narrowed := true }
def BlockBackUptoSaid : Prop := blockBackUptoRow.holds Try.pinned (OpenSpec.upto blockBackSpec)

/-- 'morainelaw7.FilterSizes', WHERE WHAT IT READS IS OF BULK AT MOST 1048576: true; the input reads as it did. -/
def filterSizesUptoRow : OpenClaim := { program := "ytdhbelpejaobdaa", sum := "d014b52bd186cb18e6c25c86134da1e2b8d5fbc9e4ca5c43abbcf2856cc9eef8", func := "moraine/morainelaw7.FilterSizes", spec := "filterSizes", inPlace := ["internal/bytealg.Compare"], unfollowed := true, recurses := true, apart := false, narrowed := true }
def FilterSizesUptoSaid : Prop := filterSizesUptoRow.holds Try.pinned (OpenSpec.upto filterSizesSpec)

/-- 'morainelaw7.FilterBuilds', WHERE WHAT IT READS IS OF BULK AT MOST 1048576: true; the input reads as it did. -/
def filterBuildsUptoRow : OpenClaim := { program := "ytdhbelpejaobdaa", sum := "d014b52bd186cb18e6c25c86134da1e2b8d5fbc9e4ca5c43abbcf2856cc9eef8", func := "moraine/morainelaw7.FilterBuilds", spec := "filterBuilds", inPlace := ["internal/bytealg.Compare"], unfollowed := true, recurses := true, apart := false, narrowed := true }
def FilterBuildsUptoSaid : Prop := filterBuildsUptoRow.holds Try.pinned (OpenSpec.upto filterBuildsSpec)

/-- 'morainelaw7.FilterHas', WHERE WHAT IT READS IS OF BULK AT MOST 1048576: true; the input reads as it did. -/
def filterHasUptoRow : OpenClaim := { program := "ytdhbelpejaobdaa", sum := "d014b52bd186cb18e6c25c86134da1e2b8d5fbc9e4ca5c43abbcf2856cc9eef8", func := "moraine/morainelaw7.FilterHas", spec := "filterHas", inPlace := ["internal/bytealg.Compare"], unfollowed := true, recurses := true, apart := false, narrowed := true }
def FilterHasUptoSaid : Prop := filterHasUptoRow.holds Try.pinned (OpenSpec.upto filterHasSpec)

end Rows
end Go.Proofs.Ytdhbelpejaobdaa
