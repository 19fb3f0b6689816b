/-
  DERIVED. GIVEN WITH THE SEED: THE CARDS: each row of YtkocobiglipecaaDoorRows.lean that lists a variable, with what it lists TIED to the program's text (the seventh form; the later family's looks); each row that meets fmt, with fmt's text TOLD by the authors' own Lean function (tested against real Go, not proved from fmt's source: count such statements apart). THE CARD IS WHAT COUNTS. Prove the row's statement (the work); the ties are given (YtkocobiglipecaaDoorTie.lean); close each card by the builder's one call (the guide's Derived/Test/ToyasCard.lean, 'card_holds'). Laid BY PROGRAM, IN A SANDBOX (cutbox-door.mjs). By AI agents, Wed Nov 11 2026. No macro, syntax, notation, axiom, sorry.
-/
import Derived.Test.YtkocobiglipecaaDoorRows
import GoSem.ClaimSeven
namespace Go.Proofs.YtkocobiglipecaaDoor
namespace Rows

/-- THE TIED CARD OF 'railheadlaw14.OpcodeBack'. -/
def opcodeBackCard : Claim7 := { stood := { row := opcodeBackRow, standIns := [], harness := (true, "07ffa7abc4ad867c0a4f26b95a7596047511f9bf465c5250c6fdc7ab97ae481d"), looks := false }, kinds := [], alts := [], laidByText := true, laidKinds := [.data, .data, .data, .data, .pinned], laidTests := true, laidLooks := .later }
def OpcodeBackCardSaid : Prop := Claim7.holds Tryd.pinned (.plain (OpenSpec.ofChange opcodeBackSpec)) opcodeBackCard

/-- THE TIED CARD OF 'railheadlaw14.OpcodeJumps'. -/
def opcodeJumpsCard : Claim7 := { stood := { row := opcodeJumpsRow, standIns := [], harness := (true, "07ffa7abc4ad867c0a4f26b95a7596047511f9bf465c5250c6fdc7ab97ae481d"), looks := false }, kinds := [], alts := [], laidByText := true, laidKinds := [.data, .data, .data, .data, .pinned], laidTests := true, laidLooks := .later }
def OpcodeJumpsCardSaid : Prop := Claim7.holds Tryd.pinned (.plain (OpenSpec.ofChange opcodeJumpsSpec)) opcodeJumpsCard

/-- THE TIED CARD OF 'railheadlaw14.OpcodeInfos'. -/
def opcodeInfosCard : Claim7 := { stood := { row := opcodeInfosRow, standIns := [], harness := (true, "07ffa7abc4ad867c0a4f26b95a7596047511f9bf465c5250c6fdc7ab97ae481d"), looks := false }, kinds := [], alts := [], laidByText := true, laidKinds := [.data, .data, .data, .data, .pinned], laidTests := true, laidLooks := .later }
def OpcodeInfosCardSaid : Prop := Claim7.holds Tryd.pinned (.plain (OpenSpec.ofChange opcodeInfosSpec)) opcodeInfosCard

/-- THE TIED CARD OF 'railheadlaw14.OpcodeLines'. -/
def opcodeLinesCard : Claim7 := { stood := { row := opcodeLinesRow, standIns := [], harness := (true, "07ffa7abc4ad867c0a4f26b95a7596047511f9bf465c5250c6fdc7ab97ae481d"), looks := false }, kinds := [], alts := [], laidByText := true, laidKinds := [.data, .data, .data, .data, .pinned], laidTests := true, laidLooks := .later }
def OpcodeLinesCardSaid : Prop := Claim7.holds Tryd.pinned (.plain (OpenSpec.ofChange opcodeLinesSpec)) opcodeLinesCard

/-- THE TIED CARD OF 'railheadlaw14.OpcodePushes'. -/
def opcodePushesCard : Claim7 := { stood := { row := opcodePushesRow, standIns := [], harness := (true, "07ffa7abc4ad867c0a4f26b95a7596047511f9bf465c5250c6fdc7ab97ae481d"), looks := false }, kinds := [], alts := [], laidByText := true, laidKinds := [.data, .data, .data, .data, .pinned], laidTests := true, laidLooks := .later }
def OpcodePushesCardSaid : Prop := Claim7.holds Tryd.pinned (.plain (OpenSpec.ofChange opcodePushesSpec)) opcodePushesCard

/-- THE SECOND FORM's CARD OF 'railheadlaw14.OpcodeBack'. -/
def opcodeBackUptoCard : Claim7 := { stood := { row := opcodeBackUptoRow, standIns := [], harness := (true, "07ffa7abc4ad867c0a4f26b95a7596047511f9bf465c5250c6fdc7ab97ae481d"), looks := false }, kinds := [], alts := [], laidByText := true, laidKinds := [.data, .data, .data, .data, .pinned], laidTests := true, laidLooks := .later }
def OpcodeBackUptoCardSaid : Prop := Claim7.holds Tryd.pinned (.plain (OpenSpec.upto opcodeBackSpec)) opcodeBackUptoCard

/-- THE SECOND FORM's CARD OF 'railheadlaw14.OpcodeJumps'. -/
def opcodeJumpsUptoCard : Claim7 := { stood := { row := opcodeJumpsUptoRow, standIns := [], harness := (true, "07ffa7abc4ad867c0a4f26b95a7596047511f9bf465c5250c6fdc7ab97ae481d"), looks := false }, kinds := [], alts := [], laidByText := true, laidKinds := [.data, .data, .data, .data, .pinned], laidTests := true, laidLooks := .later }
def OpcodeJumpsUptoCardSaid : Prop := Claim7.holds Tryd.pinned (.plain (OpenSpec.upto opcodeJumpsSpec)) opcodeJumpsUptoCard

/-- THE SECOND FORM's CARD OF 'railheadlaw14.OpcodeInfos'. -/
def opcodeInfosUptoCard : Claim7 := { stood := { row := opcodeInfosUptoRow, standIns := [], harness := (true, "07ffa7abc4ad867c0a4f26b95a7596047511f9bf465c5250c6fdc7ab97ae481d"), looks := false }, kinds := [], alts := [], laidByText := true, laidKinds := [.data, .data, .data, .data, .pinned], laidTests := true, laidLooks := .later }
def OpcodeInfosUptoCardSaid : Prop := Claim7.holds Tryd.pinned (.plain (OpenSpec.upto opcodeInfosSpec)) opcodeInfosUptoCard

/-- THE SECOND FORM's CARD OF 'railheadlaw14.OpcodeLines'. -/
def opcodeLinesUptoCard : Claim7 := { stood := { row := opcodeLinesUptoRow, standIns := [], harness := (true, "07ffa7abc4ad867c0a4f26b95a7596047511f9bf465c5250c6fdc7ab97ae481d"), looks := false }, kinds := [], alts := [], laidByText := true, laidKinds := [.data, .data, .data, .data, .pinned], laidTests := true, laidLooks := .later }
def OpcodeLinesUptoCardSaid : Prop := Claim7.holds Tryd.pinned (.plain (OpenSpec.upto opcodeLinesSpec)) opcodeLinesUptoCard

/-- THE SECOND FORM's CARD OF 'railheadlaw14.OpcodePushes'. -/
def opcodePushesUptoCard : Claim7 := { stood := { row := opcodePushesUptoRow, standIns := [], harness := (true, "07ffa7abc4ad867c0a4f26b95a7596047511f9bf465c5250c6fdc7ab97ae481d"), looks := false }, kinds := [], alts := [], laidByText := true, laidKinds := [.data, .data, .data, .data, .pinned], laidTests := true, laidLooks := .later }
def OpcodePushesUptoCardSaid : Prop := Claim7.holds Tryd.pinned (.plain (OpenSpec.upto opcodePushesSpec)) opcodePushesUptoCard
end Rows
end Go.Proofs.YtkocobiglipecaaDoor
