/-
  DERIVED. GIVEN WITH THE SEED: THE CARDS: each row of YtjhogocabcdjbaaDoorRows.lean that lists a variable, with what it lists TIED to the program's text (the seventh form; the later family's looks); each row that meets fmt, with fmt's text TOLD by the authors' own Lean function (tested against real Go, not proved from fmt's source: count such statements apart). THE CARD IS WHAT COUNTS. Prove the row's statement (the work); the ties are given (YtjhogocabcdjbaaDoorTie.lean); close each card by the builder's one call (the guide's Derived/Test/ToyasCard.lean, 'card_holds'). Laid BY PROGRAM, IN A SANDBOX (cutbox-door.mjs). By AI agents, Wed Nov 11 2026. No macro, syntax, notation, axiom, sorry.
-/
import Derived.Test.YtjhogocabcdjbaaDoorRows
import GoSem.ClaimSeven
namespace Go.Proofs.YtjhogocabcdjbaaDoor
namespace Rows

/-- THE TIED CARD OF 'waybillkeep.NamesChains'. -/
def namesChainsCard : Claim7 := { stood := { row := namesChainsRow, standIns := [], harness := (true, "e6d4f74f300151735455db4b962f46e25b660e37f10d206fc44c2a8dc29ea0f9"), looks := true }, kinds := [], alts := [], laidByText := true, laidKinds := [.data, .handle, .pinned], laidTests := true, laidLooks := .later }
def NamesChainsCardSaid : Prop := Claim7.holds Tryd.pinned (.plain (OpenSpec.ofChange namesChainsSpec)) namesChainsCard

/-- THE TIED CARD OF 'waybillkeep.QueueUnits'. -/
def queueUnitsCard : Claim7 := { stood := { row := queueUnitsRow, standIns := [], harness := (true, "e6d4f74f300151735455db4b962f46e25b660e37f10d206fc44c2a8dc29ea0f9"), looks := true }, kinds := [], alts := [], laidByText := true, laidKinds := [.data, .handle, .pinned], laidTests := true, laidLooks := .later }
def QueueUnitsCardSaid : Prop := Claim7.holds Tryd.pinned (.plain (OpenSpec.ofChange queueUnitsSpec)) queueUnitsCard

/-- THE TIED CARD OF 'waybilllaw.MsgWrites'. -/
def msgWritesCard : Claim7 := { stood := { row := msgWritesRow, standIns := [], harness := (true, "e6d4f74f300151735455db4b962f46e25b660e37f10d206fc44c2a8dc29ea0f9"), looks := true }, kinds := [], alts := [], laidByText := true, laidKinds := [.data, .data, .data, .data, .handle, .pinned], laidTests := true, laidLooks := .later }
def MsgWritesCardSaid : Prop := Claim7.holds Tryd.pinned (.plain (OpenSpec.ofChange msgWritesSpec)) msgWritesCard

/-- THE TIED CARD OF 'waybilllaw.FrameWrites'. -/
def frameWritesCard : Claim7 := { stood := { row := frameWritesRow, standIns := [], harness := (true, "e6d4f74f300151735455db4b962f46e25b660e37f10d206fc44c2a8dc29ea0f9"), looks := true }, kinds := [], alts := [], laidByText := true, laidKinds := [.data, .data, .data, .data, .handle, .pinned], laidTests := true, laidLooks := .later }
def FrameWritesCardSaid : Prop := Claim7.holds Tryd.pinned (.plain (OpenSpec.ofChange frameWritesSpec)) frameWritesCard

/-- THE TIED CARD OF 'waybillkeep.MsgBack'. -/
def msgBackCard : Claim7 := { stood := { row := msgBackRow, standIns := [], harness := (true, "e6d4f74f300151735455db4b962f46e25b660e37f10d206fc44c2a8dc29ea0f9"), looks := true }, kinds := [], alts := [], laidByText := true, laidKinds := [.data, .data, .data, .data, .sentinel, .sentinel, .pinned], laidTests := true, laidLooks := .later }
def MsgBackCardSaid : Prop := Claim7.holds Tryd.pinned (.plain (OpenSpec.ofChange msgBackSpec)) msgBackCard

/-- THE TIED CARD OF 'waybillkeep.FrameBack'. -/
def frameBackCard : Claim7 := { stood := { row := frameBackRow, standIns := [], harness := (true, "e6d4f74f300151735455db4b962f46e25b660e37f10d206fc44c2a8dc29ea0f9"), looks := true }, kinds := [], alts := [], laidByText := true, laidKinds := [.data, .data, .data, .data, .sentinel, .sentinel, .pinned], laidTests := true, laidLooks := .later }
def FrameBackCardSaid : Prop := Claim7.holds Tryd.pinned (.plain (OpenSpec.ofChange frameBackSpec)) frameBackCard

/-- THE SECOND FORM's CARD OF 'waybillkeep.NamesChains'. -/
def namesChainsUptoCard : Claim7 := { stood := { row := namesChainsUptoRow, standIns := [], harness := (true, "e6d4f74f300151735455db4b962f46e25b660e37f10d206fc44c2a8dc29ea0f9"), looks := true }, kinds := [], alts := [], laidByText := true, laidKinds := [.data, .handle, .pinned], laidTests := true, laidLooks := .later }
def NamesChainsUptoCardSaid : Prop := Claim7.holds Tryd.pinned (.plain (OpenSpec.upto namesChainsSpec)) namesChainsUptoCard

/-- THE SECOND FORM's CARD OF 'waybillkeep.QueueUnits'. -/
def queueUnitsUptoCard : Claim7 := { stood := { row := queueUnitsUptoRow, standIns := [], harness := (true, "e6d4f74f300151735455db4b962f46e25b660e37f10d206fc44c2a8dc29ea0f9"), looks := true }, kinds := [], alts := [], laidByText := true, laidKinds := [.data, .handle, .pinned], laidTests := true, laidLooks := .later }
def QueueUnitsUptoCardSaid : Prop := Claim7.holds Tryd.pinned (.plain (OpenSpec.upto queueUnitsSpec)) queueUnitsUptoCard

/-- THE SECOND FORM's CARD OF 'waybilllaw.MsgWrites'. -/
def msgWritesUptoCard : Claim7 := { stood := { row := msgWritesUptoRow, standIns := [], harness := (true, "e6d4f74f300151735455db4b962f46e25b660e37f10d206fc44c2a8dc29ea0f9"), looks := true }, kinds := [], alts := [], laidByText := true, laidKinds := [.data, .data, .data, .data, .handle, .pinned], laidTests := true, laidLooks := .later }
def MsgWritesUptoCardSaid : Prop := Claim7.holds Tryd.pinned (.plain (OpenSpec.upto msgWritesSpec)) msgWritesUptoCard

/-- THE SECOND FORM's CARD OF 'waybilllaw.FrameWrites'. -/
def frameWritesUptoCard : Claim7 := { stood := { row := frameWritesUptoRow, standIns := [], harness := (true, "e6d4f74f300151735455db4b962f46e25b660e37f10d206fc44c2a8dc29ea0f9"), looks := true }, kinds := [], alts := [], laidByText := true, laidKinds := [.data, .data, .data, .data, .handle, .pinned], laidTests := true, laidLooks := .later }
def FrameWritesUptoCardSaid : Prop := Claim7.holds Tryd.pinned (.plain (OpenSpec.upto frameWritesSpec)) frameWritesUptoCard

/-- THE SECOND FORM's CARD OF 'waybillkeep.MsgBack'. -/
def msgBackUptoCard : Claim7 := { stood := { row := msgBackUptoRow, standIns := [], harness := (true, "e6d4f74f300151735455db4b962f46e25b660e37f10d206fc44c2a8dc29ea0f9"), looks := true }, kinds := [], alts := [], laidByText := true, laidKinds := [.data, .data, .data, .data, .sentinel, .sentinel, .pinned], laidTests := true, laidLooks := .later }
def MsgBackUptoCardSaid : Prop := Claim7.holds Tryd.pinned (.plain (OpenSpec.upto msgBackSpec)) msgBackUptoCard

/-- THE SECOND FORM's CARD OF 'waybillkeep.FrameBack'. -/
def frameBackUptoCard : Claim7 := { stood := { row := frameBackUptoRow, standIns := [], harness := (true, "e6d4f74f300151735455db4b962f46e25b660e37f10d206fc44c2a8dc29ea0f9"), looks := true }, kinds := [], alts := [], laidByText := true, laidKinds := [.data, .data, .data, .data, .sentinel, .sentinel, .pinned], laidTests := true, laidLooks := .later }
def FrameBackUptoCardSaid : Prop := Claim7.holds Tryd.pinned (.plain (OpenSpec.upto frameBackSpec)) frameBackUptoCard
end Rows
end Go.Proofs.YtjhogocabcdjbaaDoor
