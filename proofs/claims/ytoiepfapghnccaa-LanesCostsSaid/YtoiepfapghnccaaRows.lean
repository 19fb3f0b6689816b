/-
  No cell of these rows narrows 'for every input' (looked for: loops, veiled, ifaces, maps, wideKeys, modest, calm, conditions, laid).
  DERIVED. THE GIVEN ROWS OF THIS SEAT. 11 by the template 'for every input the law returns true; each argument reads behind the call as it read before'; 0 by the template 'total and deterministic' (their statements: YtoiepfapghnccaaTotals.lean).
  GIVEN WITH THE SEED: the statements are not yours to turn. If you find one false, say at which input.
  Laid BY PROGRAM, IN A SANDBOX (cutbox-rows.mjs): the forced cells as the released guide's own fill.sh prints them over the translation 072b6e393019aca8… (all of the seat's roots in one cut). By AI agents, Wed Nov 11 2026. No macro, syntax, notation, axiom, sorry.
-/
import Derived.Test.YtoiepfapghnccaaChecked
import GoSem.Claim
import GoSem.ClaimJoined
import GoSem.ClaimMapViews
import Derived.JoinedTies
import Derived.KernelRfl
namespace Go.Proofs.Ytoiepfapghnccaa
/- THE CELL 'sum', in the pinned program and in every row, IS THE sha256 OF THE DUMP (.gsa) THAT YtoiepfapghnccaaProg.lean LOADS. Nothing in Lean hashes anything: it is a label: what it is worth is what the hold of that sum in a sandbox is worth. -/
noncomputable def Try.pinned : Pinned := { name := "ytoiepfapghnccaa", sum := "072b6e393019aca8bca3536232d6ff2540c048aad1b5d9e90c51c7d4ea29ecbd", checked := Try.checked }
namespace Rows
def none {H : Type} : Left H := { results := [], args := [] }

/-- 'railheadlaw10.AccessTells': WHATEVER THE INPUT: true; the input reads as it did. -/
def accessTellsSpec : ChangeSpec := { name := "accessTells", fn := fun _ => fun
  | [d1, d2, d3, d4, d5, d6] => { results := [.lit (.bool true)], args := [d1, d2, d3, d4, d5, d6] }
  | _ => none }
def accessTellsRow : OpenClaim := { program := "ytoiepfapghnccaa", sum := "072b6e393019aca8bca3536232d6ff2540c048aad1b5d9e90c51c7d4ea29ecbd", func := "railhead/railheadlaw10.AccessTells", spec := "accessTells", inPlace := ["internal/bytealg.Compare"], unfollowed := true, recurses := true, apart := false }
def AccessTellsSaid : Prop := accessTellsRow.holds Try.pinned (OpenSpec.ofChange accessTellsSpec)

/-- ITS FALSE NEIGHBOUR: 'it returns false'. Refute it at one input. -/
def accessTellsWrong : ChangeSpec := { name := "accessTells", fn := fun _ => fun
  | [d1, d2, d3, d4, d5, d6] => { results := [.lit (.bool false)], args := [d1, d2, d3, d4, d5, d6] }
  | _ => none }
def AccessTellsWrongFalsely : Prop := accessTellsRow.holds Try.pinned (OpenSpec.ofChange accessTellsWrong)

/-- 'railheadlaw10.AccessOrders': WHATEVER THE INPUT: true; the input reads as it did. -/
def accessOrdersSpec : ChangeSpec := { name := "accessOrders", fn := fun _ => fun
  | [d1, d2, d3] => { results := [.lit (.bool true)], args := [d1, d2, d3] }
  | _ => none }
def accessOrdersRow : OpenClaim := { program := "ytoiepfapghnccaa", sum := "072b6e393019aca8bca3536232d6ff2540c048aad1b5d9e90c51c7d4ea29ecbd", func := "railhead/railheadlaw10.AccessOrders", spec := "accessOrders", inPlace := ["internal/bytealg.Compare"], unfollowed := true, recurses := true, apart := false }
def AccessOrdersSaid : Prop := accessOrdersRow.holds Try.pinned (OpenSpec.ofChange accessOrdersSpec)

/-- ITS FALSE NEIGHBOUR: 'it returns false'. Refute it at one input. -/
def accessOrdersWrong : ChangeSpec := { name := "accessOrders", fn := fun _ => fun
  | [d1, d2, d3] => { results := [.lit (.bool false)], args := [d1, d2, d3] }
  | _ => none }
def AccessOrdersWrongFalsely : Prop := accessOrdersRow.holds Try.pinned (OpenSpec.ofChange accessOrdersWrong)

/-- 'railheadlaw10.AccessClash': WHATEVER THE INPUT: true; the input reads as it did. -/
def accessClashSpec : ChangeSpec := { name := "accessClash", fn := fun _ => fun
  | [d1, d2, d3, d4] => { results := [.lit (.bool true)], args := [d1, d2, d3, d4] }
  | _ => none }
def accessClashRow : OpenClaim := { program := "ytoiepfapghnccaa", sum := "072b6e393019aca8bca3536232d6ff2540c048aad1b5d9e90c51c7d4ea29ecbd", func := "railhead/railheadlaw10.AccessClash", spec := "accessClash", inPlace := ["internal/bytealg.Compare"], unfollowed := true, recurses := true, apart := false }
def AccessClashSaid : Prop := accessClashRow.holds Try.pinned (OpenSpec.ofChange accessClashSpec)

/-- ITS FALSE NEIGHBOUR: 'it returns false'. Refute it at one input. -/
def accessClashWrong : ChangeSpec := { name := "accessClash", fn := fun _ => fun
  | [d1, d2, d3, d4] => { results := [.lit (.bool false)], args := [d1, d2, d3, d4] }
  | _ => none }
def AccessClashWrongFalsely : Prop := accessClashRow.holds Try.pinned (OpenSpec.ofChange accessClashWrong)

/-- 'railheadlaw10.AccessJoins': WHATEVER THE INPUT: true; the input reads as it did. -/
def accessJoinsSpec : ChangeSpec := { name := "accessJoins", fn := fun _ => fun
  | [d1, d2, d3] => { results := [.lit (.bool true)], args := [d1, d2, d3] }
  | _ => none }
def accessJoinsRow : OpenClaim := { program := "ytoiepfapghnccaa", sum := "072b6e393019aca8bca3536232d6ff2540c048aad1b5d9e90c51c7d4ea29ecbd", func := "railhead/railheadlaw10.AccessJoins", spec := "accessJoins", inPlace := ["internal/bytealg.Compare"], unfollowed := true, recurses := true, apart := false }
def AccessJoinsSaid : Prop := accessJoinsRow.holds Try.pinned (OpenSpec.ofChange accessJoinsSpec)

/-- ITS FALSE NEIGHBOUR: 'it returns false'. Refute it at one input. -/
def accessJoinsWrong : ChangeSpec := { name := "accessJoins", fn := fun _ => fun
  | [d1, d2, d3] => { results := [.lit (.bool false)], args := [d1, d2, d3] }
  | _ => none }
def AccessJoinsWrongFalsely : Prop := accessJoinsRow.holds Try.pinned (OpenSpec.ofChange accessJoinsWrong)

/-- 'railheadlaw10.AccessMakes': WHATEVER THE INPUT: true; the input reads as it did. -/
def accessMakesSpec : ChangeSpec := { name := "accessMakes", fn := fun _ => fun
  | [d1, d2, d3, d4] => { results := [.lit (.bool true)], args := [d1, d2, d3, d4] }
  | _ => none }
def accessMakesRow : OpenClaim := { program := "ytoiepfapghnccaa", sum := "072b6e393019aca8bca3536232d6ff2540c048aad1b5d9e90c51c7d4ea29ecbd", func := "railhead/railheadlaw10.AccessMakes", spec := "accessMakes", inPlace := ["internal/bytealg.Compare"], unfollowed := true, recurses := true, apart := false }
def AccessMakesSaid : Prop := accessMakesRow.holds Try.pinned (OpenSpec.ofChange accessMakesSpec)

/-- ITS FALSE NEIGHBOUR: 'it returns false'. Refute it at one input. -/
def accessMakesWrong : ChangeSpec := { name := "accessMakes", fn := fun _ => fun
  | [d1, d2, d3, d4] => { results := [.lit (.bool false)], args := [d1, d2, d3, d4] }
  | _ => none }
def AccessMakesWrongFalsely : Prop := accessMakesRow.holds Try.pinned (OpenSpec.ofChange accessMakesWrong)

/-- 'railheadlaw19.GraphTells': WHATEVER THE INPUT: true; the input reads as it did. -/
def graphTellsSpec : ChangeSpec := { name := "graphTells", fn := fun _ => fun
  | [d1, d2, d3, d4, d5, d6] => { results := [.lit (.bool true)], args := [d1, d2, d3, d4, d5, d6] }
  | _ => none }
def graphTellsRow : OpenClaim := { program := "ytoiepfapghnccaa", sum := "072b6e393019aca8bca3536232d6ff2540c048aad1b5d9e90c51c7d4ea29ecbd", func := "railhead/railheadlaw19.GraphTells", spec := "graphTells", inPlace := ["internal/bytealg.Compare"], unfollowed := true, recurses := true, apart := false }
def GraphTellsSaid : Prop := graphTellsRow.holds Try.pinned (OpenSpec.ofChange graphTellsSpec)

/-- ITS FALSE NEIGHBOUR: 'it returns false'. Refute it at one input. -/
def graphTellsWrong : ChangeSpec := { name := "graphTells", fn := fun _ => fun
  | [d1, d2, d3, d4, d5, d6] => { results := [.lit (.bool false)], args := [d1, d2, d3, d4, d5, d6] }
  | _ => none }
def GraphTellsWrongFalsely : Prop := graphTellsRow.holds Try.pinned (OpenSpec.ofChange graphTellsWrong)

/-- 'railheadlaw19.GraphRuns': WHATEVER THE INPUT: true; the input reads as it did. -/
def graphRunsSpec : ChangeSpec := { name := "graphRuns", fn := fun _ => fun
  | [d1, d2] => { results := [.lit (.bool true)], args := [d1, d2] }
  | _ => none }
def graphRunsRow : OpenClaim := { program := "ytoiepfapghnccaa", sum := "072b6e393019aca8bca3536232d6ff2540c048aad1b5d9e90c51c7d4ea29ecbd", func := "railhead/railheadlaw19.GraphRuns", spec := "graphRuns", inPlace := ["internal/bytealg.Compare"], unfollowed := true, recurses := true, apart := false }
def GraphRunsSaid : Prop := graphRunsRow.holds Try.pinned (OpenSpec.ofChange graphRunsSpec)

/-- ITS FALSE NEIGHBOUR: 'it returns false'. Refute it at one input. -/
def graphRunsWrong : ChangeSpec := { name := "graphRuns", fn := fun _ => fun
  | [d1, d2] => { results := [.lit (.bool false)], args := [d1, d2] }
  | _ => none }
def GraphRunsWrongFalsely : Prop := graphRunsRow.holds Try.pinned (OpenSpec.ofChange graphRunsWrong)

/-- 'railheadlaw19.GraphLevels': WHATEVER THE INPUT: true; the input reads as it did. -/
def graphLevelsSpec : ChangeSpec := { name := "graphLevels", fn := fun _ => fun
  | [d] => { results := [.lit (.bool true)], args := [d] }
  | _ => none }
def graphLevelsRow : OpenClaim := { program := "ytoiepfapghnccaa", sum := "072b6e393019aca8bca3536232d6ff2540c048aad1b5d9e90c51c7d4ea29ecbd", func := "railhead/railheadlaw19.GraphLevels", spec := "graphLevels", inPlace := ["internal/bytealg.Compare"], unfollowed := true, recurses := true, apart := false }
def GraphLevelsSaid : Prop := graphLevelsRow.holds Try.pinned (OpenSpec.ofChange graphLevelsSpec)

/-- ITS FALSE NEIGHBOUR: 'it returns false'. Refute it at one input. -/
def graphLevelsWrong : ChangeSpec := { name := "graphLevels", fn := fun _ => fun
  | [d] => { results := [.lit (.bool false)], args := [d] }
  | _ => none }
def GraphLevelsWrongFalsely : Prop := graphLevelsRow.holds Try.pinned (OpenSpec.ofChange graphLevelsWrong)

/-- 'railheadlaw19.GraphEdges': WHATEVER THE INPUT: true; the input reads as it did. -/
def graphEdgesSpec : ChangeSpec := { name := "graphEdges", fn := fun _ => fun
  | [d] => { results := [.lit (.bool true)], args := [d] }
  | _ => none }
def graphEdgesRow : OpenClaim := { program := "ytoiepfapghnccaa", sum := "072b6e393019aca8bca3536232d6ff2540c048aad1b5d9e90c51c7d4ea29ecbd", func := "railhead/railheadlaw19.GraphEdges", spec := "graphEdges", inPlace := ["internal/bytealg.Compare"], unfollowed := true, recurses := true, apart := false }
def GraphEdgesSaid : Prop := graphEdgesRow.holds Try.pinned (OpenSpec.ofChange graphEdgesSpec)

/-- ITS FALSE NEIGHBOUR: 'it returns false'. Refute it at one input. -/
def graphEdgesWrong : ChangeSpec := { name := "graphEdges", fn := fun _ => fun
  | [d] => { results := [.lit (.bool false)], args := [d] }
  | _ => none }
def GraphEdgesWrongFalsely : Prop := graphEdgesRow.holds Try.pinned (OpenSpec.ofChange graphEdgesWrong)

/-- 'railheadlaw19.GraphOrders': WHATEVER THE INPUT: true; the input reads as it did. -/
def graphOrdersSpec : ChangeSpec := { name := "graphOrders", fn := fun _ => fun
  | [d1, d2] => { results := [.lit (.bool true)], args := [d1, d2] }
  | _ => none }
def graphOrdersRow : OpenClaim := { program := "ytoiepfapghnccaa", sum := "072b6e393019aca8bca3536232d6ff2540c048aad1b5d9e90c51c7d4ea29ecbd", func := "railhead/railheadlaw19.GraphOrders", spec := "graphOrders", inPlace := ["internal/bytealg.Compare"], unfollowed := true, recurses := true, apart := false }
def GraphOrdersSaid : Prop := graphOrdersRow.holds Try.pinned (OpenSpec.ofChange graphOrdersSpec)

/-- ITS FALSE NEIGHBOUR: 'it returns false'. Refute it at one input. -/
def graphOrdersWrong : ChangeSpec := { name := "graphOrders", fn := fun _ => fun
  | [d1, d2] => { results := [.lit (.bool false)], args := [d1, d2] }
  | _ => none }
def GraphOrdersWrongFalsely : Prop := graphOrdersRow.holds Try.pinned (OpenSpec.ofChange graphOrdersWrong)

/-- 'railheadlaw20.LanesCosts': WHATEVER THE INPUT: true; the input reads as it did. -/
def lanesCostsSpec : ChangeSpec := { name := "lanesCosts", fn := fun _ => fun
  | [d1, d2] => { results := [.lit (.bool true)], args := [d1, d2] }
  | _ => none }
def lanesCostsRow : OpenClaim := { program := "ytoiepfapghnccaa", sum := "072b6e393019aca8bca3536232d6ff2540c048aad1b5d9e90c51c7d4ea29ecbd", func := "railhead/railheadlaw20.LanesCosts", spec := "lanesCosts", inPlace := ["internal/bytealg.Compare"], unfollowed := true, recurses := true, apart := false }
def LanesCostsSaid : Prop := lanesCostsRow.holds Try.pinned (OpenSpec.ofChange lanesCostsSpec)

/-- ITS FALSE NEIGHBOUR: 'it returns false'. Refute it at one input. -/
def lanesCostsWrong : ChangeSpec := { name := "lanesCosts", fn := fun _ => fun
  | [d1, d2] => { results := [.lit (.bool false)], args := [d1, d2] }
  | _ => none }
def LanesCostsWrongFalsely : Prop := lanesCostsRow.holds Try.pinned (OpenSpec.ofChange lanesCostsWrong)

/- THE SECOND FORM. 'bulk': how many values and letters a reading holds, each counted each time it is reached (what is shared counts as often as it is met; a slice's spare places count too). A statement '..UptoSaid' is the law's where the arguments, and the package variables that the reading takes, are together of bulk at most 1048576: NARROWER than '..Said'. Prove '..Said' where nothing that the law and all that it calls make is longer than what came in: it says more and counts as full. Else prove '..UptoSaid'. A law counts once. -/
mutual
def uptoBulk {H : Type} : DataW H → Nat
  | .lit (.string bytes) => bytes.length + 1
  | .lit _ => 1
  | .nil => 1
  | .ptr d => uptoBulk d + 1
  | .slice elems spare => uptoBulkAll elems + uptoBulkAll spare + 1
  | .agg parts => uptoBulkAll parts + 1
  | .iface _ d => uptoBulk d + 1
  | .map entries => uptoBulkEntries entries + 1
  | .held _ => 1
def uptoBulkAll {H : Type} : List (DataW H) → Nat
  | [] => 0
  | d :: r => uptoBulk d + uptoBulkAll r
def uptoBulkEntries {H : Type} : List (Lit × DataW H) → Nat
  | [] => 0
  | x :: r => uptoBulkEntry x + uptoBulkEntries r
def uptoBulkEntry {H : Type} : Lit × DataW H → Nat
  | (.string bytes, d) => bytes.length + uptoBulk d + 1
  | (_, d) => uptoBulk d + 1
 end
def uptoSmall : (H : Type) → List (DataW H) → Bool := fun _ ds => decide (uptoBulkAll ds ≤ 1048576)
def OpenSpec.upto (s : _root_.Go.ChangeSpec) : _root_.Go.OpenSpec := { _root_.Go.OpenSpec.ofChange s with cond := some uptoSmall }

/-- 'railheadlaw10.AccessTells', WHERE WHAT IT READS IS OF BULK AT MOST 1048576: true; the input reads as it did. -/
def accessTellsUptoRow : OpenClaim := { program := "ytoiepfapghnccaa", sum := "072b6e393019aca8bca3536232d6ff2540c048aad1b5d9e90c51c7d4ea29ecbd", func := "railhead/railheadlaw10.AccessTells", spec := "accessTells", inPlace := ["internal/bytealg.Compare"], unfollowed := true, recurses := true, apart := false, narrowed := true }
def AccessTellsUptoSaid : Prop := accessTellsUptoRow.holds Try.pinned (OpenSpec.upto accessTellsSpec)

/-- 'railheadlaw10.AccessOrders', WHERE WHAT IT READS IS OF BULK AT MOST 1048576: true; the input reads as it did. -/
def accessOrdersUptoRow : OpenClaim := { program := "ytoiepfapghnccaa", sum := "072b6e393019aca8bca3536232d6ff2540c048aad1b5d9e90c51c7d4ea29ecbd", func := "railhead/railheadlaw10.AccessOrders", spec := "accessOrders", inPlace := ["internal/bytealg.Compare"], unfollowed := true, recurses := true, apart := false, narrowed := true }
def AccessOrdersUptoSaid : Prop := accessOrdersUptoRow.holds Try.pinned (OpenSpec.upto accessOrdersSpec)

/-- 'railheadlaw10.AccessClash', WHERE WHAT IT READS IS OF BULK AT MOST 1048576: true; the input reads as it did. -/
def accessClashUptoRow : OpenClaim := { program := "ytoiepfapghnccaa", sum := "072b6e393019aca8bca3536232d6ff2540c048aad1b5d9e90c51c7d4ea29ecbd", func := "railhead/railheadlaw10.AccessClash", spec := "accessClash", inPlace := ["internal/bytealg.Compare"], unfollowed := true, recurses := true, apart := false, narrowed := true }
def AccessClashUptoSaid : Prop := accessClashUptoRow.holds Try.pinned (OpenSpec.upto accessClashSpec)

/-- 'railheadlaw10.AccessJoins', WHERE WHAT IT READS IS OF BULK AT MOST 1048576: true; the input reads as it did. -/
def accessJoinsUptoRow : OpenClaim := { program := "ytoiepfapghnccaa", sum := "072b6e393019aca8bca3536232d6ff2540c048aad1b5d9e90c51c7d4ea29ecbd", func := "railhead/railheadlaw10.AccessJoins", spec := "accessJoins", inPlace := ["internal/bytealg.Compare"], unfollowed := true, recurses := true, apart := false, narrowed := true }
def AccessJoinsUptoSaid : Prop := accessJoinsUptoRow.holds Try.pinned (OpenSpec.upto accessJoinsSpec)

/-- 'railheadlaw10.AccessMakes', WHERE WHAT IT READS IS OF BULK AT MOST 1048576: true; the input reads as it did. -/
def accessMakesUptoRow : OpenClaim := { program := "ytoiepfapghnccaa", sum := "072b6e393019aca8bca3536232d6ff2540c048aad1b5d9e90c51c7d4ea29ecbd", func := "railhead/railheadlaw10.AccessMakes", spec := "accessMakes", inPlace := ["internal/bytealg.Compare"], unfollowed := true, recurses := true, apart := false, narrowed := true }
def AccessMakesUptoSaid : Prop := accessMakesUptoRow.holds Try.pinned (OpenSpec.upto accessMakesSpec)

/-- 'railheadlaw19.GraphTells', WHERE WHAT IT READS IS OF BULK AT MOST 1048576: true; the input reads as it did. -/
def graphTellsUptoRow : OpenClaim := { program := "ytoiepfapghnccaa", sum := "072b6e393019aca8bca3536232d6ff2540c048aad1b5d9e90c51c7d4ea29ecbd", func := "railhead/railheadlaw19.GraphTells", spec := "graphTells", inPlace := ["internal/bytealg.Compare"], unfollowed := true, recurses := true, apart := false, narrowed := true }
def GraphTellsUptoSaid : Prop := graphTellsUptoRow.holds Try.pinned (OpenSpec.upto graphTellsSpec)

/-- 'railheadlaw19.GraphRuns', WHERE WHAT IT READS IS OF BULK AT MOST 1048576: true; the input reads as it did. -/
def graphRunsUptoRow : OpenClaim := { program := "ytoiepfapghnccaa", sum := "072b6e393019aca8bca3536232d6ff2540c048aad1b5d9e90c51c7d4ea29ecbd", func := "railhead/railheadlaw19.GraphRuns", spec := "graphRuns", inPlace := ["internal/bytealg.Compare"], unfollowed := true, recurses := true, apart := false, narrowed := true }
def GraphRunsUptoSaid : Prop := graphRunsUptoRow.holds Try.pinned (OpenSpec.upto graphRunsSpec)

/-- 'railheadlaw19.GraphLevels', WHERE WHAT IT READS IS OF BULK AT MOST 1048576: true; the input reads as it did. -/
def graphLevelsUptoRow : OpenClaim := { program := "ytoiepfapghnccaa", sum := "072b6e393019aca8bca3536232d6ff2540c048aad1b5d9e90c51c7d4ea29ecbd", func := "railhead/railheadlaw19.GraphLevels", spec := "graphLevels", inPlace := ["internal/bytealg.Compare"], unfollowed := true, recurses := true, apart := false, narrowed := true }
def GraphLevelsUptoSaid : Prop := graphLevelsUptoRow.holds Try.pinned (OpenSpec.upto graphLevelsSpec)

/-- 'railheadlaw19.GraphEdges', WHERE WHAT IT READS IS OF BULK AT MOST 1048576: true; the input reads as it did. -/
def graphEdgesUptoRow : OpenClaim := { program := "ytoiepfapghnccaa", sum := "072b6e393019aca8bca3536232d6ff2540c048aad1b5d9e90c51c7d4ea29ecbd", func := "railhead/railheadlaw19.GraphEdges", spec := "graphEdges", inPlace := ["internal/bytealg.Compare"], unfollowed := true, recurses := true, apart := false, narrowed := true }
def GraphEdgesUptoSaid : Prop := graphEdgesUptoRow.holds Try.pinned (OpenSpec.upto graphEdgesSpec)

/-- 'railheadlaw19.GraphOrders', WHERE WHAT IT READS IS OF BULK AT MOST 1048576: true; the input reads as it did. -/
def graphOrdersUptoRow : OpenClaim := { program := "ytoiepfapghnccaa", sum := "072b6e393019aca8bca3536232d6ff2540c048aad1b5d9e90c51c7d4ea29ecbd", func := "railhead/railheadlaw19.GraphOrders", spec := "graphOrders", inPlace := ["internal/bytealg.Compare"], unfollowed := true, recurses := true, apart := false, narrowed := true }
def GraphOrdersUptoSaid : Prop := graphOrdersUptoRow.holds Try.pinned (OpenSpec.upto graphOrdersSpec)

/-- 'railheadlaw20.LanesCosts', WHERE WHAT IT READS IS OF BULK AT MOST 1048576: true; the input reads as it did. -/
def lanesCostsUptoRow : OpenClaim := { program := "ytoiepfapghnccaa", sum := "072b6e393019aca8bca3536232d6ff2540c048aad1b5d9e90c51c7d4ea29ecbd", func := "railhead/railheadlaw20.LanesCosts", spec := "lanesCosts", inPlace := ["internal/bytealg.Compare"], unfollowed := true, recurses := true, apart := false, narrowed := true }
def LanesCostsUptoSaid : Prop := lanesCostsUptoRow.holds Try.pinned (OpenSpec.upto lanesCostsSpec)

end Rows
end Go.Proofs.Ytoiepfapghnccaa
