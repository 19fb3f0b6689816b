/-
  DERIVED. GIVEN WITH THE SEED: THE CARDS: each row of YtpbbjkbackiljaaGreatDoorRows.lean that lists a variable, with what it lists TIED to the program's text (the seventh form; the later family's looks); each row that meets fmt, with fmt's text TOLD by the authors' own Lean function (tested against real Go, not proved from fmt's source: count such statements apart). THE CARD IS WHAT COUNTS. Prove the row's statement (the work); the ties are given (YtpbbjkbackiljaaGreatDoorTie.lean); close each card by the builder's one call (the guide's Derived/Test/ToyasCard.lean, 'card_holds'). Laid BY PROGRAM, IN A SANDBOX (cutbox-door.mjs). By AI agents, Wed Nov 11 2026. No macro, syntax, notation, axiom, sorry.
-/
import Derived.Test.YtpbbjkbackiljaaGreatDoorRows
import GoSem.ClaimSeven
namespace Go.Proofs.YtpbbjkbackiljaaGreatDoor
namespace Rows

/-- THE TIED CARD OF 'railheadlaw17.FrameTells'. -/
def frameTellsCard : Claim7 := { stood := { row := frameTellsRow, standIns := [], harness := (true, "c96b0f09e6e75f772ddabd7509371867804c45c7eb649fff0489397573cecd90"), looks := false }, kinds := [], alts := [], laidByText := true, laidKinds := [.data, .data, .data, .data, .data, .pinned], laidTests := true, laidLooks := .later }
def FrameTellsCardSaid : Prop := Claim7.holds Tryz.pinned (.plain (OpenSpec.ofChange frameTellsSpec)) frameTellsCard

/-- THE TIED CARD OF 'railheadlaw17.FrameEnds'. -/
def frameEndsCard : Claim7 := { stood := { row := frameEndsRow, standIns := [], harness := (true, "c96b0f09e6e75f772ddabd7509371867804c45c7eb649fff0489397573cecd90"), looks := false }, kinds := [], alts := [], laidByText := true, laidKinds := [.data, .data, .data, .data, .data, .pinned], laidTests := true, laidLooks := .later }
def FrameEndsCardSaid : Prop := Claim7.holds Tryz.pinned (.plain (OpenSpec.ofChange frameEndsSpec)) frameEndsCard

/-- THE TIED CARD OF 'railheadlaw17.FrameMore'. -/
def frameMoreCard : Claim7 := { stood := { row := frameMoreRow, standIns := [], harness := (true, "c96b0f09e6e75f772ddabd7509371867804c45c7eb649fff0489397573cecd90"), looks := false }, kinds := [], alts := [], laidByText := true, laidKinds := [.data, .data, .data, .data, .data, .pinned], laidTests := true, laidLooks := .later }
def FrameMoreCardSaid : Prop := Claim7.holds Tryz.pinned (.plain (OpenSpec.ofChange frameMoreSpec)) frameMoreCard

/-- THE TIED CARD OF 'railheadlaw17.FrameParts'. -/
def framePartsCard : Claim7 := { stood := { row := framePartsRow, standIns := [], harness := (true, "c96b0f09e6e75f772ddabd7509371867804c45c7eb649fff0489397573cecd90"), looks := false }, kinds := [], alts := [], laidByText := true, laidKinds := [.data, .data, .data, .data, .data, .pinned], laidTests := true, laidLooks := .later }
def FramePartsCardSaid : Prop := Claim7.holds Tryz.pinned (.plain (OpenSpec.ofChange framePartsSpec)) framePartsCard

/-- THE TIED CARD OF 'railheadlaw17.FrameWords'. -/
def frameWordsCard : Claim7 := { stood := { row := frameWordsRow, standIns := [], harness := (true, "c96b0f09e6e75f772ddabd7509371867804c45c7eb649fff0489397573cecd90"), looks := false }, kinds := [], alts := [], laidByText := true, laidKinds := [.data, .data, .data, .data, .data, .pinned], laidTests := true, laidLooks := .later }
def FrameWordsCardSaid : Prop := Claim7.holds Tryz.pinned (.plain (OpenSpec.ofChange frameWordsSpec)) frameWordsCard

/-- THE TIED CARD OF 'railheadlaw17.FrameLoops'. -/
def frameLoopsCard : Claim7 := { stood := { row := frameLoopsRow, standIns := [], harness := (true, "c96b0f09e6e75f772ddabd7509371867804c45c7eb649fff0489397573cecd90"), looks := false }, kinds := [], alts := [], laidByText := true, laidKinds := [.data, .data, .data, .data, .data, .pinned], laidTests := true, laidLooks := .later }
def FrameLoopsCardSaid : Prop := Claim7.holds Tryz.pinned (.plain (OpenSpec.ofChange frameLoopsSpec)) frameLoopsCard

/-- THE TIED CARD OF 'railheadlaw17.FrameMemory'. -/
def frameMemoryCard : Claim7 := { stood := { row := frameMemoryRow, standIns := [], harness := (true, "c96b0f09e6e75f772ddabd7509371867804c45c7eb649fff0489397573cecd90"), looks := false }, kinds := [], alts := [], laidByText := true, laidKinds := [.data, .data, .data, .data, .data, .pinned], laidTests := true, laidLooks := .later }
def FrameMemoryCardSaid : Prop := Claim7.holds Tryz.pinned (.plain (OpenSpec.ofChange frameMemorySpec)) frameMemoryCard

/-- THE SECOND FORM's CARD OF 'railheadlaw17.FrameTells'. -/
def frameTellsUptoCard : Claim7 := { stood := { row := frameTellsUptoRow, standIns := [], harness := (true, "c96b0f09e6e75f772ddabd7509371867804c45c7eb649fff0489397573cecd90"), looks := false }, kinds := [], alts := [], laidByText := true, laidKinds := [.data, .data, .data, .data, .data, .pinned], laidTests := true, laidLooks := .later }
def FrameTellsUptoCardSaid : Prop := Claim7.holds Tryz.pinned (.plain (OpenSpec.upto frameTellsSpec)) frameTellsUptoCard

/-- THE SECOND FORM's CARD OF 'railheadlaw17.FrameEnds'. -/
def frameEndsUptoCard : Claim7 := { stood := { row := frameEndsUptoRow, standIns := [], harness := (true, "c96b0f09e6e75f772ddabd7509371867804c45c7eb649fff0489397573cecd90"), looks := false }, kinds := [], alts := [], laidByText := true, laidKinds := [.data, .data, .data, .data, .data, .pinned], laidTests := true, laidLooks := .later }
def FrameEndsUptoCardSaid : Prop := Claim7.holds Tryz.pinned (.plain (OpenSpec.upto frameEndsSpec)) frameEndsUptoCard

/-- THE SECOND FORM's CARD OF 'railheadlaw17.FrameMore'. -/
def frameMoreUptoCard : Claim7 := { stood := { row := frameMoreUptoRow, standIns := [], harness := (true, "c96b0f09e6e75f772ddabd7509371867804c45c7eb649fff0489397573cecd90"), looks := false }, kinds := [], alts := [], laidByText := true, laidKinds := [.data, .data, .data, .data, .data, .pinned], laidTests := true, laidLooks := .later }
def FrameMoreUptoCardSaid : Prop := Claim7.holds Tryz.pinned (.plain (OpenSpec.upto frameMoreSpec)) frameMoreUptoCard

/-- THE SECOND FORM's CARD OF 'railheadlaw17.FrameParts'. -/
def framePartsUptoCard : Claim7 := { stood := { row := framePartsUptoRow, standIns := [], harness := (true, "c96b0f09e6e75f772ddabd7509371867804c45c7eb649fff0489397573cecd90"), looks := false }, kinds := [], alts := [], laidByText := true, laidKinds := [.data, .data, .data, .data, .data, .pinned], laidTests := true, laidLooks := .later }
def FramePartsUptoCardSaid : Prop := Claim7.holds Tryz.pinned (.plain (OpenSpec.upto framePartsSpec)) framePartsUptoCard

/-- THE SECOND FORM's CARD OF 'railheadlaw17.FrameWords'. -/
def frameWordsUptoCard : Claim7 := { stood := { row := frameWordsUptoRow, standIns := [], harness := (true, "c96b0f09e6e75f772ddabd7509371867804c45c7eb649fff0489397573cecd90"), looks := false }, kinds := [], alts := [], laidByText := true, laidKinds := [.data, .data, .data, .data, .data, .pinned], laidTests := true, laidLooks := .later }
def FrameWordsUptoCardSaid : Prop := Claim7.holds Tryz.pinned (.plain (OpenSpec.upto frameWordsSpec)) frameWordsUptoCard

/-- THE SECOND FORM's CARD OF 'railheadlaw17.FrameLoops'. -/
def frameLoopsUptoCard : Claim7 := { stood := { row := frameLoopsUptoRow, standIns := [], harness := (true, "c96b0f09e6e75f772ddabd7509371867804c45c7eb649fff0489397573cecd90"), looks := false }, kinds := [], alts := [], laidByText := true, laidKinds := [.data, .data, .data, .data, .data, .pinned], laidTests := true, laidLooks := .later }
def FrameLoopsUptoCardSaid : Prop := Claim7.holds Tryz.pinned (.plain (OpenSpec.upto frameLoopsSpec)) frameLoopsUptoCard

/-- THE SECOND FORM's CARD OF 'railheadlaw17.FrameMemory'. -/
def frameMemoryUptoCard : Claim7 := { stood := { row := frameMemoryUptoRow, standIns := [], harness := (true, "c96b0f09e6e75f772ddabd7509371867804c45c7eb649fff0489397573cecd90"), looks := false }, kinds := [], alts := [], laidByText := true, laidKinds := [.data, .data, .data, .data, .data, .pinned], laidTests := true, laidLooks := .later }
def FrameMemoryUptoCardSaid : Prop := Claim7.holds Tryz.pinned (.plain (OpenSpec.upto frameMemorySpec)) frameMemoryUptoCard
end Rows
end Go.Proofs.YtpbbjkbackiljaaGreatDoor
