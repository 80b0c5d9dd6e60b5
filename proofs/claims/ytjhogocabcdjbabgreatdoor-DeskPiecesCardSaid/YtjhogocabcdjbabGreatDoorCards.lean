/-
  DERIVED. GIVEN WITH THE SEED: THE CARDS: each row of YtjhogocabcdjbabGreatDoorRows.lean that lists a variable, with what it lists TIED to the program's text (the seventh form; the later family's looks); each row that meets fmt, with fmt's text TOLD by the authors' own Lean function (tested against real Go, not proved from fmt's source: count such statements apart). THE CARD IS WHAT COUNTS. Prove the row's statement (the work); the ties are given (YtjhogocabcdjbabGreatDoorTie.lean); close each card by the builder's one call (the guide's Derived/Test/ToyasCard.lean, 'card_holds'). Laid BY PROGRAM, IN A SANDBOX (cutbox-door.mjs). By AI agents, Wed Nov 11 2026. No macro, syntax, notation, axiom, sorry.
-/
import Derived.Test.YtjhogocabcdjbabGreatDoorRows
import GoSem.ClaimSeven
namespace Go.Proofs.YtjhogocabcdjbabGreatDoor
namespace Rows

/-- THE TIED CARD OF 'waybillkeep.HouseCrashes'. -/
def houseCrashesCard : Claim7 := { stood := { row := houseCrashesRow, standIns := [], harness := (true, "3d42146eca0446c0e2e478cc0b4f3f47fd9b1cf5caaed5f3b8e5ecc92cf89d16"), looks := true }, kinds := [], alts := [], goes := true, laidByText := true, laidKinds := [.data, .data, .data, .data, .sentinel, .sentinel, .data, .pinned], laidTests := true, laidLooks := .later }
def HouseCrashesCardSaid : Prop := Claim7.holds Tryz.pinned (.plain (OpenSpec.ofChange houseCrashesSpec)) houseCrashesCard

/-- THE TIED CARD OF 'waybillkeep.WorldOnce'. -/
def worldOnceCard : Claim7 := { stood := { row := worldOnceRow, standIns := [], harness := (true, "3d42146eca0446c0e2e478cc0b4f3f47fd9b1cf5caaed5f3b8e5ecc92cf89d16"), looks := true }, kinds := [], alts := [], goes := true, laidByText := true, laidKinds := [.data, .data, .data, .data, .sentinel, .sentinel, .data, .pinned], laidTests := true, laidLooks := .later }
def WorldOnceCardSaid : Prop := Claim7.holds Tryz.pinned (.plain (OpenSpec.ofChange worldOnceSpec)) worldOnceCard

/-- THE TIED CARD OF 'waybillkeep.WorldOrder'. -/
def worldOrderCard : Claim7 := { stood := { row := worldOrderRow, standIns := [], harness := (true, "3d42146eca0446c0e2e478cc0b4f3f47fd9b1cf5caaed5f3b8e5ecc92cf89d16"), looks := true }, kinds := [], alts := [], goes := true, laidByText := true, laidKinds := [.data, .data, .data, .data, .sentinel, .sentinel, .data, .pinned], laidTests := true, laidLooks := .later }
def WorldOrderCardSaid : Prop := Claim7.holds Tryz.pinned (.plain (OpenSpec.ofChange worldOrderSpec)) worldOrderCard

/-- THE TIED CARD OF 'waybilllaw.HousePlays'. -/
def housePlaysCard : Claim7 := { stood := { row := housePlaysRow, standIns := [], harness := (true, "3d42146eca0446c0e2e478cc0b4f3f47fd9b1cf5caaed5f3b8e5ecc92cf89d16"), looks := true }, kinds := [], alts := [], goes := true, laidByText := true, laidKinds := [.data, .data, .data, .data, .handle, .sentinel, .sentinel, .pinned], laidTests := true, laidLooks := .later }
def HousePlaysCardSaid : Prop := Claim7.holds Tryz.pinned (.plain (OpenSpec.ofChange housePlaysSpec)) housePlaysCard

/-- THE TIED CARD OF 'waybillkeep.DeskPieces'. -/
def deskPiecesCard : Claim7 := { stood := { row := deskPiecesRow, standIns := [], harness := (true, "3d42146eca0446c0e2e478cc0b4f3f47fd9b1cf5caaed5f3b8e5ecc92cf89d16"), looks := true }, kinds := [], alts := [], goes := true, laidByText := true, laidKinds := [.data, .data, .data, .data, .handle, .sentinel, .sentinel, .pinned], laidTests := true, laidLooks := .later }
def DeskPiecesCardSaid : Prop := Claim7.holds Tryz.pinned (.plain (OpenSpec.ofChange deskPiecesSpec)) deskPiecesCard

/-- THE TIED CARD OF 'waybilllaw.WorldPlays'. -/
def worldPlaysCard : Claim7 := { stood := { row := worldPlaysRow, standIns := [], harness := (true, "3d42146eca0446c0e2e478cc0b4f3f47fd9b1cf5caaed5f3b8e5ecc92cf89d16"), looks := true }, kinds := [], alts := [], goes := true, laidByText := true, laidKinds := [.data, .data, .data, .data, .handle, .sentinel, .sentinel, .pinned], laidTests := true, laidLooks := .later }
def WorldPlaysCardSaid : Prop := Claim7.holds Tryz.pinned (.plain (OpenSpec.ofChange worldPlaysSpec)) worldPlaysCard

/-- THE TIED CARD OF 'waybillkeep.ManyWorkers'. -/
def manyWorkersCard : Claim7 := { stood := { row := manyWorkersRow, standIns := [], harness := (true, "3d42146eca0446c0e2e478cc0b4f3f47fd9b1cf5caaed5f3b8e5ecc92cf89d16"), looks := true }, kinds := [], alts := [], goes := true, laidByText := true, laidKinds := [.data, .data, .data, .data, .handle, .sentinel, .sentinel, .pinned], laidTests := true, laidLooks := .later }
def ManyWorkersCardSaid : Prop := Claim7.holds Tryz.pinned (.plain (OpenSpec.ofChange manyWorkersSpec)) manyWorkersCard

/-- THE SECOND FORM's CARD OF 'waybillkeep.HouseCrashes'. -/
def houseCrashesUptoCard : Claim7 := { stood := { row := houseCrashesUptoRow, standIns := [], harness := (true, "3d42146eca0446c0e2e478cc0b4f3f47fd9b1cf5caaed5f3b8e5ecc92cf89d16"), looks := true }, kinds := [], alts := [], goes := true, laidByText := true, laidKinds := [.data, .data, .data, .data, .sentinel, .sentinel, .data, .pinned], laidTests := true, laidLooks := .later }
def HouseCrashesUptoCardSaid : Prop := Claim7.holds Tryz.pinned (.plain (OpenSpec.upto houseCrashesSpec)) houseCrashesUptoCard

/-- THE SECOND FORM's CARD OF 'waybillkeep.WorldOnce'. -/
def worldOnceUptoCard : Claim7 := { stood := { row := worldOnceUptoRow, standIns := [], harness := (true, "3d42146eca0446c0e2e478cc0b4f3f47fd9b1cf5caaed5f3b8e5ecc92cf89d16"), looks := true }, kinds := [], alts := [], goes := true, laidByText := true, laidKinds := [.data, .data, .data, .data, .sentinel, .sentinel, .data, .pinned], laidTests := true, laidLooks := .later }
def WorldOnceUptoCardSaid : Prop := Claim7.holds Tryz.pinned (.plain (OpenSpec.upto worldOnceSpec)) worldOnceUptoCard

/-- THE SECOND FORM's CARD OF 'waybillkeep.WorldOrder'. -/
def worldOrderUptoCard : Claim7 := { stood := { row := worldOrderUptoRow, standIns := [], harness := (true, "3d42146eca0446c0e2e478cc0b4f3f47fd9b1cf5caaed5f3b8e5ecc92cf89d16"), looks := true }, kinds := [], alts := [], goes := true, laidByText := true, laidKinds := [.data, .data, .data, .data, .sentinel, .sentinel, .data, .pinned], laidTests := true, laidLooks := .later }
def WorldOrderUptoCardSaid : Prop := Claim7.holds Tryz.pinned (.plain (OpenSpec.upto worldOrderSpec)) worldOrderUptoCard

/-- THE SECOND FORM's CARD OF 'waybilllaw.HousePlays'. -/
def housePlaysUptoCard : Claim7 := { stood := { row := housePlaysUptoRow, standIns := [], harness := (true, "3d42146eca0446c0e2e478cc0b4f3f47fd9b1cf5caaed5f3b8e5ecc92cf89d16"), looks := true }, kinds := [], alts := [], goes := true, laidByText := true, laidKinds := [.data, .data, .data, .data, .handle, .sentinel, .sentinel, .pinned], laidTests := true, laidLooks := .later }
def HousePlaysUptoCardSaid : Prop := Claim7.holds Tryz.pinned (.plain (OpenSpec.upto housePlaysSpec)) housePlaysUptoCard

/-- THE SECOND FORM's CARD OF 'waybillkeep.DeskPieces'. -/
def deskPiecesUptoCard : Claim7 := { stood := { row := deskPiecesUptoRow, standIns := [], harness := (true, "3d42146eca0446c0e2e478cc0b4f3f47fd9b1cf5caaed5f3b8e5ecc92cf89d16"), looks := true }, kinds := [], alts := [], goes := true, laidByText := true, laidKinds := [.data, .data, .data, .data, .handle, .sentinel, .sentinel, .pinned], laidTests := true, laidLooks := .later }
def DeskPiecesUptoCardSaid : Prop := Claim7.holds Tryz.pinned (.plain (OpenSpec.upto deskPiecesSpec)) deskPiecesUptoCard

/-- THE SECOND FORM's CARD OF 'waybilllaw.WorldPlays'. -/
def worldPlaysUptoCard : Claim7 := { stood := { row := worldPlaysUptoRow, standIns := [], harness := (true, "3d42146eca0446c0e2e478cc0b4f3f47fd9b1cf5caaed5f3b8e5ecc92cf89d16"), looks := true }, kinds := [], alts := [], goes := true, laidByText := true, laidKinds := [.data, .data, .data, .data, .handle, .sentinel, .sentinel, .pinned], laidTests := true, laidLooks := .later }
def WorldPlaysUptoCardSaid : Prop := Claim7.holds Tryz.pinned (.plain (OpenSpec.upto worldPlaysSpec)) worldPlaysUptoCard

/-- THE SECOND FORM's CARD OF 'waybillkeep.ManyWorkers'. -/
def manyWorkersUptoCard : Claim7 := { stood := { row := manyWorkersUptoRow, standIns := [], harness := (true, "3d42146eca0446c0e2e478cc0b4f3f47fd9b1cf5caaed5f3b8e5ecc92cf89d16"), looks := true }, kinds := [], alts := [], goes := true, laidByText := true, laidKinds := [.data, .data, .data, .data, .handle, .sentinel, .sentinel, .pinned], laidTests := true, laidLooks := .later }
def ManyWorkersUptoCardSaid : Prop := Claim7.holds Tryz.pinned (.plain (OpenSpec.upto manyWorkersSpec)) manyWorkersUptoCard
end Rows
end Go.Proofs.YtjhogocabcdjbabGreatDoor
