/-
  DERIVED. GIVEN WITH THE SEED: THE CARDS: each row of YtbcfagackcnpkaaDoorRows.lean that lists a variable, with what it lists TIED to the program's text (the seventh form; the later family's looks); each row that meets fmt, with fmt's text TOLD by the authors' own Lean function (tested against real Go, not proved from fmt's source: count such statements apart). THE CARD IS WHAT COUNTS. Prove the row's statement (the work); the ties are given (YtbcfagackcnpkaaDoorTie.lean); close each card by the builder's one call (the guide's Derived/Test/ToyasCard.lean, 'card_holds'). Laid BY PROGRAM, IN A SANDBOX (cutbox-door.mjs). By AI agents, Wed Nov 11 2026. No macro, syntax, notation, axiom, sorry.
-/
import Derived.Test.YtbcfagackcnpkaaDoorRows
import GoSem.ClaimSeven
namespace Go.Proofs.YtbcfagackcnpkaaDoor
namespace Rows

/-- THE TIED CARD OF 'morainelaw5.WalReads'. -/
def walReadsCard : Claim7 := { stood := { row := walReadsRow, standIns := [], harness := (true, "5e9d519d9f4c1f9bfb83c12d217854c870c083c727b848c49f88cdc4ccc96916"), looks := false }, kinds := [], alts := [], laidByText := true, laidKinds := [.data, .pinned], laidTests := true, laidLooks := .later }
def WalReadsCardSaid : Prop := Claim7.holds Tryd.pinned (.plain (OpenSpec.ofChange walReadsSpec)) walReadsCard

/-- THE TIED CARD OF 'morainelaw5.WalWhole'. -/
def walWholeCard : Claim7 := { stood := { row := walWholeRow, standIns := [], harness := (true, "5e9d519d9f4c1f9bfb83c12d217854c870c083c727b848c49f88cdc4ccc96916"), looks := false }, kinds := [], alts := [], laidByText := true, laidKinds := [.data, .pinned], laidTests := true, laidLooks := .later }
def WalWholeCardSaid : Prop := Claim7.holds Tryd.pinned (.plain (OpenSpec.ofChange walWholeSpec)) walWholeCard

/-- THE TIED CARD OF 'morainelaw5.WalHurt'. -/
def walHurtCard : Claim7 := { stood := { row := walHurtRow, standIns := [], harness := (true, "5e9d519d9f4c1f9bfb83c12d217854c870c083c727b848c49f88cdc4ccc96916"), looks := false }, kinds := [], alts := [], laidByText := true, laidKinds := [.data, .pinned], laidTests := true, laidLooks := .later }
def WalHurtCardSaid : Prop := Claim7.holds Tryd.pinned (.plain (OpenSpec.ofChange walHurtSpec)) walHurtCard

/-- THE TIED CARD OF 'morainelaw5.WalGoesOn'. -/
def walGoesOnCard : Claim7 := { stood := { row := walGoesOnRow, standIns := [], harness := (true, "5e9d519d9f4c1f9bfb83c12d217854c870c083c727b848c49f88cdc4ccc96916"), looks := false }, kinds := [], alts := [], laidByText := true, laidKinds := [.data, .pinned], laidTests := true, laidLooks := .later }
def WalGoesOnCardSaid : Prop := Claim7.holds Tryd.pinned (.plain (OpenSpec.ofChange walGoesOnSpec)) walGoesOnCard

/-- THE TIED CARD OF 'morainelaw5.WalAppends'. -/
def walAppendsCard : Claim7 := { stood := { row := walAppendsRow, standIns := [], harness := (true, "5e9d519d9f4c1f9bfb83c12d217854c870c083c727b848c49f88cdc4ccc96916"), looks := false }, kinds := [], alts := [], laidByText := true, laidKinds := [.data, .pinned], laidTests := true, laidLooks := .later }
def WalAppendsCardSaid : Prop := Claim7.holds Tryd.pinned (.plain (OpenSpec.ofChange walAppendsSpec)) walAppendsCard

/-- THE TIED CARD OF 'morainelaw5.WalRoom'. -/
def walRoomCard : Claim7 := { stood := { row := walRoomRow, standIns := [], harness := (true, "5e9d519d9f4c1f9bfb83c12d217854c870c083c727b848c49f88cdc4ccc96916"), looks := false }, kinds := [], alts := [], laidByText := true, laidKinds := [.data, .pinned], laidTests := true, laidLooks := .later }
def WalRoomCardSaid : Prop := Claim7.holds Tryd.pinned (.plain (OpenSpec.ofChange walRoomSpec)) walRoomCard

/-- THE TIED CARD OF 'morainelaw5.WalMany'. -/
def walManyCard : Claim7 := { stood := { row := walManyRow, standIns := [], harness := (true, "5e9d519d9f4c1f9bfb83c12d217854c870c083c727b848c49f88cdc4ccc96916"), looks := false }, kinds := [], alts := [], laidByText := true, laidKinds := [.data, .pinned], laidTests := true, laidLooks := .later }
def WalManyCardSaid : Prop := Claim7.holds Tryd.pinned (.plain (OpenSpec.ofChange walManySpec)) walManyCard

/-- THE SECOND FORM's CARD OF 'morainelaw5.WalReads'. -/
def walReadsUptoCard : Claim7 := { stood := { row := walReadsUptoRow, standIns := [], harness := (true, "5e9d519d9f4c1f9bfb83c12d217854c870c083c727b848c49f88cdc4ccc96916"), looks := false }, kinds := [], alts := [], laidByText := true, laidKinds := [.data, .pinned], laidTests := true, laidLooks := .later }
def WalReadsUptoCardSaid : Prop := Claim7.holds Tryd.pinned (.plain (OpenSpec.upto walReadsSpec)) walReadsUptoCard

/-- THE SECOND FORM's CARD OF 'morainelaw5.WalWhole'. -/
def walWholeUptoCard : Claim7 := { stood := { row := walWholeUptoRow, standIns := [], harness := (true, "5e9d519d9f4c1f9bfb83c12d217854c870c083c727b848c49f88cdc4ccc96916"), looks := false }, kinds := [], alts := [], laidByText := true, laidKinds := [.data, .pinned], laidTests := true, laidLooks := .later }
def WalWholeUptoCardSaid : Prop := Claim7.holds Tryd.pinned (.plain (OpenSpec.upto walWholeSpec)) walWholeUptoCard

/-- THE SECOND FORM's CARD OF 'morainelaw5.WalHurt'. -/
def walHurtUptoCard : Claim7 := { stood := { row := walHurtUptoRow, standIns := [], harness := (true, "5e9d519d9f4c1f9bfb83c12d217854c870c083c727b848c49f88cdc4ccc96916"), looks := false }, kinds := [], alts := [], laidByText := true, laidKinds := [.data, .pinned], laidTests := true, laidLooks := .later }
def WalHurtUptoCardSaid : Prop := Claim7.holds Tryd.pinned (.plain (OpenSpec.upto walHurtSpec)) walHurtUptoCard

/-- THE SECOND FORM's CARD OF 'morainelaw5.WalGoesOn'. -/
def walGoesOnUptoCard : Claim7 := { stood := { row := walGoesOnUptoRow, standIns := [], harness := (true, "5e9d519d9f4c1f9bfb83c12d217854c870c083c727b848c49f88cdc4ccc96916"), looks := false }, kinds := [], alts := [], laidByText := true, laidKinds := [.data, .pinned], laidTests := true, laidLooks := .later }
def WalGoesOnUptoCardSaid : Prop := Claim7.holds Tryd.pinned (.plain (OpenSpec.upto walGoesOnSpec)) walGoesOnUptoCard

/-- THE SECOND FORM's CARD OF 'morainelaw5.WalAppends'. -/
def walAppendsUptoCard : Claim7 := { stood := { row := walAppendsUptoRow, standIns := [], harness := (true, "5e9d519d9f4c1f9bfb83c12d217854c870c083c727b848c49f88cdc4ccc96916"), looks := false }, kinds := [], alts := [], laidByText := true, laidKinds := [.data, .pinned], laidTests := true, laidLooks := .later }
def WalAppendsUptoCardSaid : Prop := Claim7.holds Tryd.pinned (.plain (OpenSpec.upto walAppendsSpec)) walAppendsUptoCard

/-- THE SECOND FORM's CARD OF 'morainelaw5.WalRoom'. -/
def walRoomUptoCard : Claim7 := { stood := { row := walRoomUptoRow, standIns := [], harness := (true, "5e9d519d9f4c1f9bfb83c12d217854c870c083c727b848c49f88cdc4ccc96916"), looks := false }, kinds := [], alts := [], laidByText := true, laidKinds := [.data, .pinned], laidTests := true, laidLooks := .later }
def WalRoomUptoCardSaid : Prop := Claim7.holds Tryd.pinned (.plain (OpenSpec.upto walRoomSpec)) walRoomUptoCard

/-- THE SECOND FORM's CARD OF 'morainelaw5.WalMany'. -/
def walManyUptoCard : Claim7 := { stood := { row := walManyUptoRow, standIns := [], harness := (true, "5e9d519d9f4c1f9bfb83c12d217854c870c083c727b848c49f88cdc4ccc96916"), looks := false }, kinds := [], alts := [], laidByText := true, laidKinds := [.data, .pinned], laidTests := true, laidLooks := .later }
def WalManyUptoCardSaid : Prop := Claim7.holds Tryd.pinned (.plain (OpenSpec.upto walManySpec)) walManyUptoCard
end Rows
end Go.Proofs.YtbcfagackcnpkaaDoor
