/-
  No cell of these rows narrows 'for every input' (looked for: loops, veiled, ifaces, maps, wideKeys, modest, calm, conditions, laid).
  DERIVED. THE GIVEN ROWS OF THIS SEAT. 4 by the template 'for every input the law returns true; each argument reads behind the call as it read before'; 0 by the template 'total and deterministic' (their statements: YtoiepfapghnccaaGreatTotals.lean).
  GIVEN WITH THE SEED: the statements are not yours to turn. If you find one false, say at which input.
  Laid BY PROGRAM, IN A SANDBOX (cutbox-rows.mjs): the forced cells as the released guide's own fill.sh prints them over the translation 29fcdc67606be6dc… (all of the seat's roots in one cut). By AI agents, Wed Nov 11 2026. No macro, syntax, notation, axiom, sorry.
-/
import Derived.Test.YtoiepfapghnccaaGreatChecked
import GoSem.Claim
import GoSem.ClaimJoined
import GoSem.ClaimMapViews
import Derived.JoinedTies
import Derived.KernelRfl
namespace Go.Proofs.YtoiepfapghnccaaGreat
/- THE CELL 'sum', in the pinned program and in every row, IS THE sha256 OF THE DUMP (.gsa) THAT YtoiepfapghnccaaGreatProg.lean LOADS. Nothing in Lean hashes anything: it is a label: what it is worth is what the hold of that sum in a sandbox is worth. -/
noncomputable def Tryz.pinned : Pinned := { name := "ytoiepfapghnccaagreat", sum := "29fcdc67606be6dc71e866e60fb4c6c9b700b126e37910162e5d9ebd884d2faf", checked := Tryz.checked }
namespace Rows
def none {H : Type} : Left H := { results := [], args := [] }

/-- 'railheadlaw20.LanesGo': WHATEVER THE INPUT: true; the input reads as it did. -/
def lanesGoSpec : ChangeSpec := { name := "lanesGo", fn := fun _ => fun
  | [d1, d2, d3, d4] => { results := [.lit (.bool true)], args := [d1, d2, d3, d4] }
  | _ => none }
def lanesGoRow : OpenClaim := { program := "ytoiepfapghnccaagreat", sum := "29fcdc67606be6dc71e866e60fb4c6c9b700b126e37910162e5d9ebd884d2faf", func := "railhead/railheadlaw20.LanesGo", spec := "lanesGo", inPlace := ["internal/bytealg.Compare"], unfollowed := true, recurses := true, apart := false }
def LanesGoSaid : Prop := lanesGoRow.holds Tryz.pinned (OpenSpec.ofChange lanesGoSpec)

/-- ITS FALSE NEIGHBOUR: 'it returns false'. Refute it at one input. -/
def lanesGoWrong : ChangeSpec := { name := "lanesGo", fn := fun _ => fun
  | [d1, d2, d3, d4] => { results := [.lit (.bool false)], args := [d1, d2, d3, d4] }
  | _ => none }
def LanesGoWrongFalsely : Prop := lanesGoRow.holds Tryz.pinned (OpenSpec.ofChange lanesGoWrong)

/-- 'railheadlaw20.LanesEnd': WHATEVER THE INPUT: true; the input reads as it did. -/
def lanesEndSpec : ChangeSpec := { name := "lanesEnd", fn := fun _ => fun
  | [d1, d2, d3, d4] => { results := [.lit (.bool true)], args := [d1, d2, d3, d4] }
  | _ => none }
def lanesEndRow : OpenClaim := { program := "ytoiepfapghnccaagreat", sum := "29fcdc67606be6dc71e866e60fb4c6c9b700b126e37910162e5d9ebd884d2faf", func := "railhead/railheadlaw20.LanesEnd", spec := "lanesEnd", inPlace := ["internal/bytealg.Compare"], unfollowed := true, recurses := true, apart := false }
def LanesEndSaid : Prop := lanesEndRow.holds Tryz.pinned (OpenSpec.ofChange lanesEndSpec)

/-- ITS FALSE NEIGHBOUR: 'it returns false'. Refute it at one input. -/
def lanesEndWrong : ChangeSpec := { name := "lanesEnd", fn := fun _ => fun
  | [d1, d2, d3, d4] => { results := [.lit (.bool false)], args := [d1, d2, d3, d4] }
  | _ => none }
def LanesEndWrongFalsely : Prop := lanesEndRow.holds Tryz.pinned (OpenSpec.ofChange lanesEndWrong)

/-- 'railheadlaw20.LanesOne': WHATEVER THE INPUT: true; the input reads as it did. -/
def lanesOneSpec : ChangeSpec := { name := "lanesOne", fn := fun _ => fun
  | [d1, d2] => { results := [.lit (.bool true)], args := [d1, d2] }
  | _ => none }
def lanesOneRow : OpenClaim := { program := "ytoiepfapghnccaagreat", sum := "29fcdc67606be6dc71e866e60fb4c6c9b700b126e37910162e5d9ebd884d2faf", func := "railhead/railheadlaw20.LanesOne", spec := "lanesOne", inPlace := ["internal/bytealg.Compare"], unfollowed := true, recurses := true, apart := false }
def LanesOneSaid : Prop := lanesOneRow.holds Tryz.pinned (OpenSpec.ofChange lanesOneSpec)

/-- ITS FALSE NEIGHBOUR: 'it returns false'. Refute it at one input. -/
def lanesOneWrong : ChangeSpec := { name := "lanesOne", fn := fun _ => fun
  | [d1, d2] => { results := [.lit (.bool false)], args := [d1, d2] }
  | _ => none }
def LanesOneWrongFalsely : Prop := lanesOneRow.holds Tryz.pinned (OpenSpec.ofChange lanesOneWrong)

/-- 'railheadlaw20.LanesParts': WHATEVER THE INPUT: true; the input reads as it did. -/
def lanesPartsSpec : ChangeSpec := { name := "lanesParts", fn := fun _ => fun
  | [d1, d2, d3, d4, d5] => { results := [.lit (.bool true)], args := [d1, d2, d3, d4, d5] }
  | _ => none }
def lanesPartsRow : OpenClaim := { program := "ytoiepfapghnccaagreat", sum := "29fcdc67606be6dc71e866e60fb4c6c9b700b126e37910162e5d9ebd884d2faf", func := "railhead/railheadlaw20.LanesParts", spec := "lanesParts", inPlace := ["internal/bytealg.Compare"], unfollowed := true, recurses := true, apart := false }
def LanesPartsSaid : Prop := lanesPartsRow.holds Tryz.pinned (OpenSpec.ofChange lanesPartsSpec)

/-- ITS FALSE NEIGHBOUR: 'it returns false'. Refute it at one input. -/
def lanesPartsWrong : ChangeSpec := { name := "lanesParts", fn := fun _ => fun
  | [d1, d2, d3, d4, d5] => { results := [.lit (.bool false)], args := [d1, d2, d3, d4, d5] }
  | _ => none }
def LanesPartsWrongFalsely : Prop := lanesPartsRow.holds Tryz.pinned (OpenSpec.ofChange lanesPartsWrong)

/- THE SECOND FORM. 'bulk': how many values and letters a reading holds, each counted each time it is reached (what is shared counts as often as it is met; a slice's spare places count too). A statement '..UptoSaid' is the law's where the arguments, and the package variables that the reading takes, are together of bulk at most 1048576: NARROWER than '..Said'. Prove '..Said' where nothing that the law and all that it calls make is longer than what came in: it says more and counts as full. Else prove '..UptoSaid'. A law counts once. -/
mutual
def uptoBulk {H : Type} : DataW H → Nat
  | .lit (.string bytes) => bytes.length + 1
  | .lit _ => 1
  | .nil => 1
  | .ptr d => uptoBulk d + 1
  | .slice elems spare => uptoBulkAll elems + uptoBulkAll spare + 1
  | .agg parts => uptoBulkAll parts + 1
  | .iface _ d => uptoBulk d + 1
  | .map entries => uptoBulkEntries entries + 1
  | .held _ => 1
def uptoBulkAll {H : Type} : List (DataW H) → Nat
  | [] => 0
  | d :: r => uptoBulk d + uptoBulkAll r
def uptoBulkEntries {H : Type} : List (Lit × DataW H) → Nat
  | [] => 0
  | x :: r => uptoBulkEntry x + uptoBulkEntries r
def uptoBulkEntry {H : Type} : Lit × DataW H → Nat
  | (.string bytes, d) => bytes.length + uptoBulk d + 1
  | (_, d) => uptoBulk d + 1
 end
def uptoSmall : (H : Type) → List (DataW H) → Bool := fun _ ds => decide (uptoBulkAll ds ≤ 1048576)
def OpenSpec.upto (s : _root_.Go.ChangeSpec) : _root_.Go.OpenSpec := { _root_.Go.OpenSpec.ofChange s with cond := some uptoSmall }

/-- 'railheadlaw20.LanesGo', WHERE WHAT IT READS IS OF BULK AT MOST 1048576: true; the input reads as it did. -/
def lanesGoUptoRow : OpenClaim := { program := "ytoiepfapghnccaagreat", sum := "29fcdc67606be6dc71e866e60fb4c6c9b700b126e37910162e5d9ebd884d2faf", func := "railhead/railheadlaw20.LanesGo", spec := "lanesGo", inPlace := ["internal/bytealg.Compare"], unfollowed := true, recurses := true, apart := false, narrowed := true }
def LanesGoUptoSaid : Prop := lanesGoUptoRow.holds Tryz.pinned (OpenSpec.upto lanesGoSpec)

/-- 'railheadlaw20.LanesEnd', WHERE WHAT IT READS IS OF BULK AT MOST 1048576: true; the input reads as it did. -/
def lanesEndUptoRow : OpenClaim := { program := "ytoiepfapghnccaagreat", sum := "29fcdc67606be6dc71e866e60fb4c6c9b700b126e37910162e5d9ebd884d2faf", func := "railhead/railheadlaw20.LanesEnd", spec := "lanesEnd", inPlace := ["internal/bytealg.Compare"], unfollowed := true, recurses := true, apart := false, narrowed := true }
def LanesEndUptoSaid : Prop := lanesEndUptoRow.holds Tryz.pinned (OpenSpec.upto lanesEndSpec)

/-- 'railheadlaw20.LanesOne', WHERE WHAT IT READS IS OF BULK AT MOST 1048576: true; the input reads as it did. -/
def lanesOneUptoRow : OpenClaim := { program := "ytoiepfapghnccaagreat", sum := "29fcdc67606be6dc71e866e60fb4c6c9b700b126e37910162e5d9ebd884d2faf", func := "railhead/railheadlaw20.LanesOne", spec := "lanesOne", inPlace := ["internal/bytealg.Compare"], unfollowed := true, recurses := true, apart := false, narrowed := true }
def LanesOneUptoSaid : Prop := lanesOneUptoRow.holds Tryz.pinned (OpenSpec.upto lanesOneSpec)

/-- 'railheadlaw20.LanesParts', WHERE WHAT IT READS IS OF BULK AT MOST 1048576: true; the input reads as it did. -/
def lanesPartsUptoRow : OpenClaim := { program := "ytoiepfapghnccaagreat", sum := "29fcdc67606be6dc71e866e60fb4c6c9b700b126e37910162e5d9ebd884d2faf", func := "railhead/railheadlaw20.LanesParts", spec := "lanesParts", inPlace := ["internal/bytealg.Compare"], unfollowed := true, recurses := true, apart := false, narrowed := true }
def LanesPartsUptoSaid : Prop := lanesPartsUptoRow.holds Tryz.pinned (OpenSpec.upto lanesPartsSpec)

end Rows
end Go.Proofs.YtoiepfapghnccaaGreat
