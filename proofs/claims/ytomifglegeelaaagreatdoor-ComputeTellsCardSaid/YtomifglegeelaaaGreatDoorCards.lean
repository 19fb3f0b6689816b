/-
  DERIVED. GIVEN WITH THE SEED: THE CARDS: each row of YtomifglegeelaaaGreatDoorRows.lean that lists a variable, with what it lists TIED to the program's text (the seventh form; the later family's looks); each row that meets fmt, with fmt's text TOLD by the authors' own Lean function (tested against real Go, not proved from fmt's source: count such statements apart). THE CARD IS WHAT COUNTS. Prove the row's statement (the work); the ties are given (YtomifglegeelaaaGreatDoorTie.lean); close each card by the builder's one call (the guide's Derived/Test/ToyasCard.lean, 'card_holds'). Laid BY PROGRAM, IN A SANDBOX (cutbox-door.mjs). By AI agents, Wed Nov 11 2026. No macro, syntax, notation, axiom, sorry.
-/
import Derived.Test.YtomifglegeelaaaGreatDoorRows
import GoSem.ClaimSeven
namespace Go.Proofs.YtomifglegeelaaaGreatDoor
namespace Rows

/-- THE TIED CARD OF 'railheadlaw16.ComputeTells'. -/
def computeTellsCard : Claim7 := { stood := { row := computeTellsRow, standIns := [], harness := (true, "9fbae8e8c16a5b20e212f553c8129971376525960d6770ed66e54a104ccdb184"), looks := false }, kinds := [], alts := [], laidByText := true, laidKinds := [.data, .data, .data], laidTests := true, laidLooks := .later }
def ComputeTellsCardSaid : Prop := Claim7.holds Tryz.pinned (.plain (OpenSpec.ofChange computeTellsSpec)) computeTellsCard

/-- THE TIED CARD OF 'railheadlaw16.ComputePops'. -/
def computePopsCard : Claim7 := { stood := { row := computePopsRow, standIns := [], harness := (true, "9fbae8e8c16a5b20e212f553c8129971376525960d6770ed66e54a104ccdb184"), looks := false }, kinds := [], alts := [], laidByText := true, laidKinds := [.data, .data, .data], laidTests := true, laidLooks := .later }
def ComputePopsCardSaid : Prop := Claim7.holds Tryz.pinned (.plain (OpenSpec.ofChange computePopsSpec)) computePopsCard

/-- THE TIED CARD OF 'railheadlaw16.ComputeWays'. -/
def computeWaysCard : Claim7 := { stood := { row := computeWaysRow, standIns := [], harness := (true, "9fbae8e8c16a5b20e212f553c8129971376525960d6770ed66e54a104ccdb184"), looks := false }, kinds := [], alts := [], laidByText := true, laidKinds := [.data, .data, .data], laidTests := true, laidLooks := .later }
def ComputeWaysCardSaid : Prop := Claim7.holds Tryz.pinned (.plain (OpenSpec.ofChange computeWaysSpec)) computeWaysCard

/-- THE TIED CARD OF 'railheadlaw16.ComputeChains'. -/
def computeChainsCard : Claim7 := { stood := { row := computeChainsRow, standIns := [], harness := (true, "9fbae8e8c16a5b20e212f553c8129971376525960d6770ed66e54a104ccdb184"), looks := false }, kinds := [], alts := [], laidByText := true, laidKinds := [.data, .data, .data], laidTests := true, laidLooks := .later }
def ComputeChainsCardSaid : Prop := Claim7.holds Tryz.pinned (.plain (OpenSpec.ofChange computeChainsSpec)) computeChainsCard

/-- THE TIED CARD OF 'railheadlaw16.ComputeMods'. -/
def computeModsCard : Claim7 := { stood := { row := computeModsRow, standIns := [], harness := (true, "9fbae8e8c16a5b20e212f553c8129971376525960d6770ed66e54a104ccdb184"), looks := false }, kinds := [], alts := [], laidByText := true, laidKinds := [.data, .data, .data], laidTests := true, laidLooks := .later }
def ComputeModsCardSaid : Prop := Claim7.holds Tryz.pinned (.plain (OpenSpec.ofChange computeModsSpec)) computeModsCard

/-- THE SECOND FORM's CARD OF 'railheadlaw16.ComputeTells'. -/
def computeTellsUptoCard : Claim7 := { stood := { row := computeTellsUptoRow, standIns := [], harness := (true, "9fbae8e8c16a5b20e212f553c8129971376525960d6770ed66e54a104ccdb184"), looks := false }, kinds := [], alts := [], laidByText := true, laidKinds := [.data, .data, .data], laidTests := true, laidLooks := .later }
def ComputeTellsUptoCardSaid : Prop := Claim7.holds Tryz.pinned (.plain (OpenSpec.upto computeTellsSpec)) computeTellsUptoCard

/-- THE SECOND FORM's CARD OF 'railheadlaw16.ComputePops'. -/
def computePopsUptoCard : Claim7 := { stood := { row := computePopsUptoRow, standIns := [], harness := (true, "9fbae8e8c16a5b20e212f553c8129971376525960d6770ed66e54a104ccdb184"), looks := false }, kinds := [], alts := [], laidByText := true, laidKinds := [.data, .data, .data], laidTests := true, laidLooks := .later }
def ComputePopsUptoCardSaid : Prop := Claim7.holds Tryz.pinned (.plain (OpenSpec.upto computePopsSpec)) computePopsUptoCard

/-- THE SECOND FORM's CARD OF 'railheadlaw16.ComputeWays'. -/
def computeWaysUptoCard : Claim7 := { stood := { row := computeWaysUptoRow, standIns := [], harness := (true, "9fbae8e8c16a5b20e212f553c8129971376525960d6770ed66e54a104ccdb184"), looks := false }, kinds := [], alts := [], laidByText := true, laidKinds := [.data, .data, .data], laidTests := true, laidLooks := .later }
def ComputeWaysUptoCardSaid : Prop := Claim7.holds Tryz.pinned (.plain (OpenSpec.upto computeWaysSpec)) computeWaysUptoCard

/-- THE SECOND FORM's CARD OF 'railheadlaw16.ComputeChains'. -/
def computeChainsUptoCard : Claim7 := { stood := { row := computeChainsUptoRow, standIns := [], harness := (true, "9fbae8e8c16a5b20e212f553c8129971376525960d6770ed66e54a104ccdb184"), looks := false }, kinds := [], alts := [], laidByText := true, laidKinds := [.data, .data, .data], laidTests := true, laidLooks := .later }
def ComputeChainsUptoCardSaid : Prop := Claim7.holds Tryz.pinned (.plain (OpenSpec.upto computeChainsSpec)) computeChainsUptoCard

/-- THE SECOND FORM's CARD OF 'railheadlaw16.ComputeMods'. -/
def computeModsUptoCard : Claim7 := { stood := { row := computeModsUptoRow, standIns := [], harness := (true, "9fbae8e8c16a5b20e212f553c8129971376525960d6770ed66e54a104ccdb184"), looks := false }, kinds := [], alts := [], laidByText := true, laidKinds := [.data, .data, .data], laidTests := true, laidLooks := .later }
def ComputeModsUptoCardSaid : Prop := Claim7.holds Tryz.pinned (.plain (OpenSpec.upto computeModsSpec)) computeModsUptoCard
end Rows
end Go.Proofs.YtomifglegeelaaaGreatDoor
