/-
  DERIVED. GIVEN WITH THE SEED: THE CARDS: each row of YtfjfjjcdlgdbcaaDoorRows.lean that lists a variable, with what it lists TIED to the program's text (the seventh form; the later family's looks); each row that meets fmt, with fmt's text TOLD by the authors' own Lean function (tested against real Go, not proved from fmt's source: count such statements apart). THE CARD IS WHAT COUNTS. Prove the row's statement (the work); the ties are given (YtfjfjjcdlgdbcaaDoorTie.lean); close each card by the builder's one call (the guide's Derived/Test/ToyasCard.lean, 'card_holds'). Laid BY PROGRAM, IN A SANDBOX (cutbox-door.mjs). By AI agents, Wed Nov 11 2026. No macro, syntax, notation, axiom, sorry.
-/
import Derived.Test.YtfjfjjcdlgdbcaaDoorRows
import GoSem.ClaimSeven
namespace Go.Proofs.YtfjfjjcdlgdbcaaDoor
namespace Rows

/-- THE TIED CARD OF 'morainelaw13.RawParses'. -/
def rawParsesCard : Claim7 := { stood := { row := rawParsesRow, standIns := [], harness := (true, "73cd25470e186c0d04d2a7d8772ba4fec1f0a95b2ee98c3a357ca5a0b7a24fa2"), looks := true }, kinds := [], alts := [], laidByText := true, laidKinds := [.data, .pinned], laidTests := true, laidLooks := .later }
def RawParsesCardSaid : Prop := Claim7.holds Tryd.pinned (.plain (OpenSpec.ofChange rawParsesSpec)) rawParsesCard

/-- THE TIED CARD OF 'morainelaw13.RawApart'. -/
def rawApartCard : Claim7 := { stood := { row := rawApartRow, standIns := [], harness := (true, "73cd25470e186c0d04d2a7d8772ba4fec1f0a95b2ee98c3a357ca5a0b7a24fa2"), looks := true }, kinds := [], alts := [], laidByText := true, laidKinds := [.data, .pinned], laidTests := true, laidLooks := .later }
def RawApartCardSaid : Prop := Claim7.holds Tryd.pinned (.plain (OpenSpec.ofChange rawApartSpec)) rawApartCard

/-- THE TIED CARD OF 'morainelaw13.RawKeys'. -/
def rawKeysCard : Claim7 := { stood := { row := rawKeysRow, standIns := [], harness := (true, "73cd25470e186c0d04d2a7d8772ba4fec1f0a95b2ee98c3a357ca5a0b7a24fa2"), looks := true }, kinds := [], alts := [], laidByText := true, laidKinds := [.data, .pinned], laidTests := true, laidLooks := .later }
def RawKeysCardSaid : Prop := Claim7.holds Tryd.pinned (.plain (OpenSpec.ofChange rawKeysSpec)) rawKeysCard

/-- THE TIED CARD OF 'morainelaw24.DumpPrints'. -/
def dumpPrintsCard : Claim7 := { stood := { row := dumpPrintsRow, standIns := [], harness := (true, "73cd25470e186c0d04d2a7d8772ba4fec1f0a95b2ee98c3a357ca5a0b7a24fa2"), looks := true }, kinds := [], alts := [], laidByText := true, laidKinds := [.data, .data, .data, .data, .sentinel, .sentinel, .pinned], laidTests := true, laidLooks := .later }
def DumpPrintsCardSaid : Prop := Claim7.holds Tryd.pinned (.plain (OpenSpec.ofChange dumpPrintsSpec)) dumpPrintsCard

/-- THE TIED CARD OF 'morainelaw24.DumpParses'. -/
def dumpParsesCard : Claim7 := { stood := { row := dumpParsesRow, standIns := [], harness := (true, "73cd25470e186c0d04d2a7d8772ba4fec1f0a95b2ee98c3a357ca5a0b7a24fa2"), looks := true }, kinds := [], alts := [], laidByText := true, laidKinds := [.data, .data, .data, .data, .sentinel, .sentinel, .pinned], laidTests := true, laidLooks := .later }
def DumpParsesCardSaid : Prop := Claim7.holds Tryd.pinned (.plain (OpenSpec.ofChange dumpParsesSpec)) dumpParsesCard

/-- THE TIED CARD OF 'morainelaw24.DumpBack'. -/
def dumpBackCard : Claim7 := { stood := { row := dumpBackRow, standIns := [], harness := (true, "73cd25470e186c0d04d2a7d8772ba4fec1f0a95b2ee98c3a357ca5a0b7a24fa2"), looks := true }, kinds := [], alts := [], laidByText := true, laidKinds := [.data, .data, .data, .data, .sentinel, .sentinel, .pinned], laidTests := true, laidLooks := .later }
def DumpBackCardSaid : Prop := Claim7.holds Tryd.pinned (.plain (OpenSpec.ofChange dumpBackSpec)) dumpBackCard

/-- THE TIED CARD OF 'morainelaw20.ArchivePrints'. -/
def archivePrintsCard : Claim7 := { stood := { row := archivePrintsRow, standIns := [], harness := (true, "73cd25470e186c0d04d2a7d8772ba4fec1f0a95b2ee98c3a357ca5a0b7a24fa2"), looks := true }, kinds := [], alts := [], laidByText := true, laidKinds := [.data, .data, .data, .data, .sentinel, .sentinel, .pinned], laidTests := true, laidLooks := .later }
def ArchivePrintsCardSaid : Prop := Claim7.holds Tryd.pinned (.plain (OpenSpec.ofChange archivePrintsSpec)) archivePrintsCard

/-- THE TIED CARD OF 'morainelaw20.ArchiveParses'. -/
def archiveParsesCard : Claim7 := { stood := { row := archiveParsesRow, standIns := [], harness := (true, "73cd25470e186c0d04d2a7d8772ba4fec1f0a95b2ee98c3a357ca5a0b7a24fa2"), looks := true }, kinds := [], alts := [], laidByText := true, laidKinds := [.data, .data, .data, .data, .sentinel, .sentinel, .pinned], laidTests := true, laidLooks := .later }
def ArchiveParsesCardSaid : Prop := Claim7.holds Tryd.pinned (.plain (OpenSpec.ofChange archiveParsesSpec)) archiveParsesCard

/-- THE TIED CARD OF 'morainelaw20.ArchiveBack'. -/
def archiveBackCard : Claim7 := { stood := { row := archiveBackRow, standIns := [], harness := (true, "73cd25470e186c0d04d2a7d8772ba4fec1f0a95b2ee98c3a357ca5a0b7a24fa2"), looks := true }, kinds := [], alts := [], laidByText := true, laidKinds := [.data, .data, .data, .data, .sentinel, .sentinel, .pinned], laidTests := true, laidLooks := .later }
def ArchiveBackCardSaid : Prop := Claim7.holds Tryd.pinned (.plain (OpenSpec.ofChange archiveBackSpec)) archiveBackCard

/-- THE SECOND FORM's CARD OF 'morainelaw13.RawParses'. -/
def rawParsesUptoCard : Claim7 := { stood := { row := rawParsesUptoRow, standIns := [], harness := (true, "73cd25470e186c0d04d2a7d8772ba4fec1f0a95b2ee98c3a357ca5a0b7a24fa2"), looks := true }, kinds := [], alts := [], laidByText := true, laidKinds := [.data, .pinned], laidTests := true, laidLooks := .later }
def RawParsesUptoCardSaid : Prop := Claim7.holds Tryd.pinned (.plain (OpenSpec.upto rawParsesSpec)) rawParsesUptoCard

/-- THE SECOND FORM's CARD OF 'morainelaw13.RawApart'. -/
def rawApartUptoCard : Claim7 := { stood := { row := rawApartUptoRow, standIns := [], harness := (true, "73cd25470e186c0d04d2a7d8772ba4fec1f0a95b2ee98c3a357ca5a0b7a24fa2"), looks := true }, kinds := [], alts := [], laidByText := true, laidKinds := [.data, .pinned], laidTests := true, laidLooks := .later }
def RawApartUptoCardSaid : Prop := Claim7.holds Tryd.pinned (.plain (OpenSpec.upto rawApartSpec)) rawApartUptoCard

/-- THE SECOND FORM's CARD OF 'morainelaw13.RawKeys'. -/
def rawKeysUptoCard : Claim7 := { stood := { row := rawKeysUptoRow, standIns := [], harness := (true, "73cd25470e186c0d04d2a7d8772ba4fec1f0a95b2ee98c3a357ca5a0b7a24fa2"), looks := true }, kinds := [], alts := [], laidByText := true, laidKinds := [.data, .pinned], laidTests := true, laidLooks := .later }
def RawKeysUptoCardSaid : Prop := Claim7.holds Tryd.pinned (.plain (OpenSpec.upto rawKeysSpec)) rawKeysUptoCard

/-- THE SECOND FORM's CARD OF 'morainelaw24.DumpPrints'. -/
def dumpPrintsUptoCard : Claim7 := { stood := { row := dumpPrintsUptoRow, standIns := [], harness := (true, "73cd25470e186c0d04d2a7d8772ba4fec1f0a95b2ee98c3a357ca5a0b7a24fa2"), looks := true }, kinds := [], alts := [], laidByText := true, laidKinds := [.data, .data, .data, .data, .sentinel, .sentinel, .pinned], laidTests := true, laidLooks := .later }
def DumpPrintsUptoCardSaid : Prop := Claim7.holds Tryd.pinned (.plain (OpenSpec.upto dumpPrintsSpec)) dumpPrintsUptoCard

/-- THE SECOND FORM's CARD OF 'morainelaw24.DumpParses'. -/
def dumpParsesUptoCard : Claim7 := { stood := { row := dumpParsesUptoRow, standIns := [], harness := (true, "73cd25470e186c0d04d2a7d8772ba4fec1f0a95b2ee98c3a357ca5a0b7a24fa2"), looks := true }, kinds := [], alts := [], laidByText := true, laidKinds := [.data, .data, .data, .data, .sentinel, .sentinel, .pinned], laidTests := true, laidLooks := .later }
def DumpParsesUptoCardSaid : Prop := Claim7.holds Tryd.pinned (.plain (OpenSpec.upto dumpParsesSpec)) dumpParsesUptoCard

/-- THE SECOND FORM's CARD OF 'morainelaw24.DumpBack'. -/
def dumpBackUptoCard : Claim7 := { stood := { row := dumpBackUptoRow, standIns := [], harness := (true, "73cd25470e186c0d04d2a7d8772ba4fec1f0a95b2ee98c3a357ca5a0b7a24fa2"), looks := true }, kinds := [], alts := [], laidByText := true, laidKinds := [.data, .data, .data, .data, .sentinel, .sentinel, .pinned], laidTests := true, laidLooks := .later }
def DumpBackUptoCardSaid : Prop := Claim7.holds Tryd.pinned (.plain (OpenSpec.upto dumpBackSpec)) dumpBackUptoCard

/-- THE SECOND FORM's CARD OF 'morainelaw20.ArchivePrints'. -/
def archivePrintsUptoCard : Claim7 := { stood := { row := archivePrintsUptoRow, standIns := [], harness := (true, "73cd25470e186c0d04d2a7d8772ba4fec1f0a95b2ee98c3a357ca5a0b7a24fa2"), looks := true }, kinds := [], alts := [], laidByText := true, laidKinds := [.data, .data, .data, .data, .sentinel, .sentinel, .pinned], laidTests := true, laidLooks := .later }
def ArchivePrintsUptoCardSaid : Prop := Claim7.holds Tryd.pinned (.plain (OpenSpec.upto archivePrintsSpec)) archivePrintsUptoCard

/-- THE SECOND FORM's CARD OF 'morainelaw20.ArchiveParses'. -/
def archiveParsesUptoCard : Claim7 := { stood := { row := archiveParsesUptoRow, standIns := [], harness := (true, "73cd25470e186c0d04d2a7d8772ba4fec1f0a95b2ee98c3a357ca5a0b7a24fa2"), looks := true }, kinds := [], alts := [], laidByText := true, laidKinds := [.data, .data, .data, .data, .sentinel, .sentinel, .pinned], laidTests := true, laidLooks := .later }
def ArchiveParsesUptoCardSaid : Prop := Claim7.holds Tryd.pinned (.plain (OpenSpec.upto archiveParsesSpec)) archiveParsesUptoCard

/-- THE SECOND FORM's CARD OF 'morainelaw20.ArchiveBack'. -/
def archiveBackUptoCard : Claim7 := { stood := { row := archiveBackUptoRow, standIns := [], harness := (true, "73cd25470e186c0d04d2a7d8772ba4fec1f0a95b2ee98c3a357ca5a0b7a24fa2"), looks := true }, kinds := [], alts := [], laidByText := true, laidKinds := [.data, .data, .data, .data, .sentinel, .sentinel, .pinned], laidTests := true, laidLooks := .later }
def ArchiveBackUptoCardSaid : Prop := Claim7.holds Tryd.pinned (.plain (OpenSpec.upto archiveBackSpec)) archiveBackUptoCard
end Rows
end Go.Proofs.YtfjfjjcdlgdbcaaDoor
