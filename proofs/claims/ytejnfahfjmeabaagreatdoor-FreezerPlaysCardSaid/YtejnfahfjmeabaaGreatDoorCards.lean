/-
  DERIVED. GIVEN WITH THE SEED: THE CARDS: each row of YtejnfahfjmeabaaGreatDoorRows.lean that lists a variable, with what it lists TIED to the program's text (the seventh form; the later family's looks); each row that meets fmt, with fmt's text TOLD by the authors' own Lean function (tested against real Go, not proved from fmt's source: count such statements apart). THE CARD IS WHAT COUNTS. Prove the row's statement (the work); the ties are given (YtejnfahfjmeabaaGreatDoorTie.lean); close each card by the builder's one call (the guide's Derived/Test/ToyasCard.lean, 'card_holds'). Laid BY PROGRAM, IN A SANDBOX (cutbox-door.mjs). By AI agents, Wed Nov 11 2026. No macro, syntax, notation, axiom, sorry.
-/
import Derived.Test.YtejnfahfjmeabaaGreatDoorRows
import GoSem.ClaimSeven
namespace Go.Proofs.YtejnfahfjmeabaaGreatDoor
namespace Rows

/-- THE TIED CARD OF 'morainelaw12.FreezerMany'. -/
def freezerManyCard : Claim7 := { stood := { row := freezerManyRow, standIns := [], harness := (true, "df61483432f7adb0b876bcfea5b6ddcc4c0f1acebae4834aba3dad897fb0d351"), looks := true }, kinds := [], alts := [], laidByText := true, laidKinds := [.data, .handle, .pinned], laidTests := true, laidLooks := .later }
def FreezerManyCardSaid : Prop := Claim7.holds Tryz.pinned (.plain (OpenSpec.ofChange freezerManySpec)) freezerManyCard

/-- THE TIED CARD OF 'morainelaw12.FreezerTables'. -/
def freezerTablesCard : Claim7 := { stood := { row := freezerTablesRow, standIns := [], harness := (true, "df61483432f7adb0b876bcfea5b6ddcc4c0f1acebae4834aba3dad897fb0d351"), looks := true }, kinds := [], alts := [], laidByText := true, laidKinds := [.data, .handle, .pinned], laidTests := true, laidLooks := .later }
def FreezerTablesCardSaid : Prop := Claim7.holds Tryz.pinned (.plain (OpenSpec.ofChange freezerTablesSpec)) freezerTablesCard

/-- THE TIED CARD OF 'morainelaw12.FreezerPlays'. -/
def freezerPlaysCard : Claim7 := { stood := { row := freezerPlaysRow, standIns := [], harness := (true, "df61483432f7adb0b876bcfea5b6ddcc4c0f1acebae4834aba3dad897fb0d351"), looks := true }, kinds := [], alts := [], laidByText := true, laidKinds := [.data, .handle, .pinned], laidTests := true, laidLooks := .later }
def FreezerPlaysCardSaid : Prop := Claim7.holds Tryz.pinned (.plain (OpenSpec.ofChange freezerPlaysSpec)) freezerPlaysCard

/-- THE TIED CARD OF 'morainelaw12.FreezerCrashes'. -/
def freezerCrashesCard : Claim7 := { stood := { row := freezerCrashesRow, standIns := [], harness := (true, "df61483432f7adb0b876bcfea5b6ddcc4c0f1acebae4834aba3dad897fb0d351"), looks := true }, kinds := [], alts := [], laidByText := true, laidKinds := [.data, .handle, .pinned], laidTests := true, laidLooks := .later }
def FreezerCrashesCardSaid : Prop := Claim7.holds Tryz.pinned (.plain (OpenSpec.ofChange freezerCrashesSpec)) freezerCrashesCard

/-- THE SECOND FORM's CARD OF 'morainelaw12.FreezerMany'. -/
def freezerManyUptoCard : Claim7 := { stood := { row := freezerManyUptoRow, standIns := [], harness := (true, "df61483432f7adb0b876bcfea5b6ddcc4c0f1acebae4834aba3dad897fb0d351"), looks := true }, kinds := [], alts := [], laidByText := true, laidKinds := [.data, .handle, .pinned], laidTests := true, laidLooks := .later }
def FreezerManyUptoCardSaid : Prop := Claim7.holds Tryz.pinned (.plain (OpenSpec.upto freezerManySpec)) freezerManyUptoCard

/-- THE SECOND FORM's CARD OF 'morainelaw12.FreezerTables'. -/
def freezerTablesUptoCard : Claim7 := { stood := { row := freezerTablesUptoRow, standIns := [], harness := (true, "df61483432f7adb0b876bcfea5b6ddcc4c0f1acebae4834aba3dad897fb0d351"), looks := true }, kinds := [], alts := [], laidByText := true, laidKinds := [.data, .handle, .pinned], laidTests := true, laidLooks := .later }
def FreezerTablesUptoCardSaid : Prop := Claim7.holds Tryz.pinned (.plain (OpenSpec.upto freezerTablesSpec)) freezerTablesUptoCard

/-- THE SECOND FORM's CARD OF 'morainelaw12.FreezerPlays'. -/
def freezerPlaysUptoCard : Claim7 := { stood := { row := freezerPlaysUptoRow, standIns := [], harness := (true, "df61483432f7adb0b876bcfea5b6ddcc4c0f1acebae4834aba3dad897fb0d351"), looks := true }, kinds := [], alts := [], laidByText := true, laidKinds := [.data, .handle, .pinned], laidTests := true, laidLooks := .later }
def FreezerPlaysUptoCardSaid : Prop := Claim7.holds Tryz.pinned (.plain (OpenSpec.upto freezerPlaysSpec)) freezerPlaysUptoCard

/-- THE SECOND FORM's CARD OF 'morainelaw12.FreezerCrashes'. -/
def freezerCrashesUptoCard : Claim7 := { stood := { row := freezerCrashesUptoRow, standIns := [], harness := (true, "df61483432f7adb0b876bcfea5b6ddcc4c0f1acebae4834aba3dad897fb0d351"), looks := true }, kinds := [], alts := [], laidByText := true, laidKinds := [.data, .handle, .pinned], laidTests := true, laidLooks := .later }
def FreezerCrashesUptoCardSaid : Prop := Claim7.holds Tryz.pinned (.plain (OpenSpec.upto freezerCrashesSpec)) freezerCrashesUptoCard
end Rows
end Go.Proofs.YtejnfahfjmeabaaGreatDoor
