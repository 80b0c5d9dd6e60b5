/-
  DERIVED. GIVEN WITH THE SEED: THE CARDS: each row of YtjhogocabcdjbaaGreatDoorRows.lean that lists a variable, with what it lists TIED to the program's text (the seventh form; the later family's looks); each row that meets fmt, with fmt's text TOLD by the authors' own Lean function (tested against real Go, not proved from fmt's source: count such statements apart). THE CARD IS WHAT COUNTS. Prove the row's statement (the work); the ties are given (YtjhogocabcdjbaaGreatDoorTie.lean); close each card by the builder's one call (the guide's Derived/Test/ToyasCard.lean, 'card_holds'). Laid BY PROGRAM, IN A SANDBOX (cutbox-door.mjs). By AI agents, Wed Nov 11 2026. No macro, syntax, notation, axiom, sorry.
-/
import Derived.Test.YtjhogocabcdjbaaGreatDoorRows
import GoSem.ClaimSeven
namespace Go.Proofs.YtjhogocabcdjbaaGreatDoor
namespace Rows

/-- THE TIED CARD OF 'waybilllaw.QueuePlays'. -/
def queuePlaysCard : Claim7 := { stood := { row := queuePlaysRow, standIns := [], harness := (true, "85d91fd15919a4a92b14ebb9112e176fbff64c6c4659b79bf611fb6dd56c9b2b"), looks := true }, kinds := [], alts := [], goes := true, laidByText := true, laidKinds := [.data, .handle, .pinned], laidTests := true, laidLooks := .later }
def QueuePlaysCardSaid : Prop := Claim7.holds Tryz.pinned (.plain (OpenSpec.ofChange queuePlaysSpec)) queuePlaysCard

/-- THE TIED CARD OF 'waybilllaw.DeskAnswers'. -/
def deskAnswersCard : Claim7 := { stood := { row := deskAnswersRow, standIns := [], harness := (true, "85d91fd15919a4a92b14ebb9112e176fbff64c6c4659b79bf611fb6dd56c9b2b"), looks := true }, kinds := [], alts := [], goes := true, laidByText := true, laidKinds := [.data, .data, .data, .data, .handle, .sentinel, .sentinel, .mapped, .pinned], laidTests := true, laidLooks := .later }
def DeskAnswersCardSaid : Prop := Claim7.holds Tryz.pinned (.plain (OpenSpec.ofChange deskAnswersSpec)) deskAnswersCard

/-- THE TIED CARD OF 'waybilllaw.ManyAnswers'. -/
def manyAnswersCard : Claim7 := { stood := { row := manyAnswersRow, standIns := [], harness := (true, "85d91fd15919a4a92b14ebb9112e176fbff64c6c4659b79bf611fb6dd56c9b2b"), looks := true }, kinds := [], alts := [], goes := true, laidByText := true, laidKinds := [.data, .data, .data, .data, .handle, .sentinel, .sentinel, .mapped, .pinned], laidTests := true, laidLooks := .later }
def ManyAnswersCardSaid : Prop := Claim7.holds Tryz.pinned (.plain (OpenSpec.ofChange manyAnswersSpec)) manyAnswersCard

/-- THE TIED CARD OF 'waybilllaw.NamesPlay'. -/
def namesPlayCard : Claim7 := { stood := { row := namesPlayRow, standIns := [], harness := (true, "85d91fd15919a4a92b14ebb9112e176fbff64c6c4659b79bf611fb6dd56c9b2b"), looks := true }, kinds := [], alts := [], goes := true, laidByText := true, laidKinds := [.data, .handle, .pinned], laidTests := true, laidLooks := .later }
def NamesPlayCardSaid : Prop := Claim7.holds Tryz.pinned (.plain (OpenSpec.ofChange namesPlaySpec)) namesPlayCard

/-- THE TIED CARD OF 'waybilllaw.MsgReads'. -/
def msgReadsCard : Claim7 := { stood := { row := msgReadsRow, standIns := [], harness := (true, "85d91fd15919a4a92b14ebb9112e176fbff64c6c4659b79bf611fb6dd56c9b2b"), looks := true }, kinds := [], alts := [], goes := true, laidByText := true, laidKinds := [.data, .data, .data, .data, .handle, .sentinel, .sentinel, .pinned], laidTests := true, laidLooks := .later }
def MsgReadsCardSaid : Prop := Claim7.holds Tryz.pinned (.plain (OpenSpec.ofChange msgReadsSpec)) msgReadsCard

/-- THE TIED CARD OF 'waybilllaw.FrameReads'. -/
def frameReadsCard : Claim7 := { stood := { row := frameReadsRow, standIns := [], harness := (true, "85d91fd15919a4a92b14ebb9112e176fbff64c6c4659b79bf611fb6dd56c9b2b"), looks := true }, kinds := [], alts := [], goes := true, laidByText := true, laidKinds := [.data, .data, .data, .data, .handle, .sentinel, .sentinel, .pinned], laidTests := true, laidLooks := .later }
def FrameReadsCardSaid : Prop := Claim7.holds Tryz.pinned (.plain (OpenSpec.ofChange frameReadsSpec)) frameReadsCard

/-- THE SECOND FORM's CARD OF 'waybilllaw.QueuePlays'. -/
def queuePlaysUptoCard : Claim7 := { stood := { row := queuePlaysUptoRow, standIns := [], harness := (true, "85d91fd15919a4a92b14ebb9112e176fbff64c6c4659b79bf611fb6dd56c9b2b"), looks := true }, kinds := [], alts := [], goes := true, laidByText := true, laidKinds := [.data, .handle, .pinned], laidTests := true, laidLooks := .later }
def QueuePlaysUptoCardSaid : Prop := Claim7.holds Tryz.pinned (.plain (OpenSpec.upto queuePlaysSpec)) queuePlaysUptoCard

/-- THE SECOND FORM's CARD OF 'waybilllaw.DeskAnswers'. -/
def deskAnswersUptoCard : Claim7 := { stood := { row := deskAnswersUptoRow, standIns := [], harness := (true, "85d91fd15919a4a92b14ebb9112e176fbff64c6c4659b79bf611fb6dd56c9b2b"), looks := true }, kinds := [], alts := [], goes := true, laidByText := true, laidKinds := [.data, .data, .data, .data, .handle, .sentinel, .sentinel, .mapped, .pinned], laidTests := true, laidLooks := .later }
def DeskAnswersUptoCardSaid : Prop := Claim7.holds Tryz.pinned (.plain (OpenSpec.upto deskAnswersSpec)) deskAnswersUptoCard

/-- THE SECOND FORM's CARD OF 'waybilllaw.ManyAnswers'. -/
def manyAnswersUptoCard : Claim7 := { stood := { row := manyAnswersUptoRow, standIns := [], harness := (true, "85d91fd15919a4a92b14ebb9112e176fbff64c6c4659b79bf611fb6dd56c9b2b"), looks := true }, kinds := [], alts := [], goes := true, laidByText := true, laidKinds := [.data, .data, .data, .data, .handle, .sentinel, .sentinel, .mapped, .pinned], laidTests := true, laidLooks := .later }
def ManyAnswersUptoCardSaid : Prop := Claim7.holds Tryz.pinned (.plain (OpenSpec.upto manyAnswersSpec)) manyAnswersUptoCard

/-- THE SECOND FORM's CARD OF 'waybilllaw.NamesPlay'. -/
def namesPlayUptoCard : Claim7 := { stood := { row := namesPlayUptoRow, standIns := [], harness := (true, "85d91fd15919a4a92b14ebb9112e176fbff64c6c4659b79bf611fb6dd56c9b2b"), looks := true }, kinds := [], alts := [], goes := true, laidByText := true, laidKinds := [.data, .handle, .pinned], laidTests := true, laidLooks := .later }
def NamesPlayUptoCardSaid : Prop := Claim7.holds Tryz.pinned (.plain (OpenSpec.upto namesPlaySpec)) namesPlayUptoCard

/-- THE SECOND FORM's CARD OF 'waybilllaw.MsgReads'. -/
def msgReadsUptoCard : Claim7 := { stood := { row := msgReadsUptoRow, standIns := [], harness := (true, "85d91fd15919a4a92b14ebb9112e176fbff64c6c4659b79bf611fb6dd56c9b2b"), looks := true }, kinds := [], alts := [], goes := true, laidByText := true, laidKinds := [.data, .data, .data, .data, .handle, .sentinel, .sentinel, .pinned], laidTests := true, laidLooks := .later }
def MsgReadsUptoCardSaid : Prop := Claim7.holds Tryz.pinned (.plain (OpenSpec.upto msgReadsSpec)) msgReadsUptoCard

/-- THE SECOND FORM's CARD OF 'waybilllaw.FrameReads'. -/
def frameReadsUptoCard : Claim7 := { stood := { row := frameReadsUptoRow, standIns := [], harness := (true, "85d91fd15919a4a92b14ebb9112e176fbff64c6c4659b79bf611fb6dd56c9b2b"), looks := true }, kinds := [], alts := [], goes := true, laidByText := true, laidKinds := [.data, .data, .data, .data, .handle, .sentinel, .sentinel, .pinned], laidTests := true, laidLooks := .later }
def FrameReadsUptoCardSaid : Prop := Claim7.holds Tryz.pinned (.plain (OpenSpec.upto frameReadsSpec)) frameReadsUptoCard
end Rows
end Go.Proofs.YtjhogocabcdjbaaGreatDoor
