/- AccessOrders: for every input the law returns true, and each argument reads behind the call as it read before. No condition. -/
import Derived.Test.YtoiepfapghnccaaALOrders
import Derived.Test.YtoiepfapghnccaaRailLaw
import Derived.Test.YtoiepfapghnccaaRows
namespace Go.Proofs.Ytoiepfapghnccaa
open Go Go.Rail Go.ChangeShapes Go.WideShapes Go.ChangeAt Go.RowKit
set_option linter.unusedVariables false

theorem ownK : ownKnob Try.prog.godebug = none := by kernel_rfl
theorem laidO : laidOutB Try.prog = true := by kernel_rfl
theorem rdKey : RdH Try.prog 31 Key (fun _ => True) :=
  RdH.key (ta := 26) (tb := 4) (tw := 29) Try.underlying31 ⟨rfl, rfl⟩ ⟨rfl, rfl⟩ ⟨rfl, rfl⟩ (by kernel_rfl) (by kernel_rfl) (by kernel_rfl) (by kernel_rfl)
    (RdH.addr (e := 5) (by kernel_rfl) (by kernel_rfl) (by kernel_rfl) (by kernel_rfl)) (RdH.bool (by kernel_rfl)) (RdH.word (e := 27) (by kernel_rfl) (by kernel_rfl) (by kernel_rfl) (by kernel_rfl))
def zKey : Value := .agg (Go.Rail.Key.cells ⟨Addr20.zero, false, Word.zero⟩).toArray

set_option maxRecDepth 100000 in
theorem lifted (os : Os) (started : os.Started) (H : Type) (enc : TypeId × Value → H) :
    ReturnsInHanded {} Try.checked os 4 .any (Rows.accessOrdersSpec.pre6 enc Try.prog Try.f4 Rows.accessOrdersRow.domain false) (Rows.accessOrdersSpec.post enc Try.prog Try.f4 false true false false) := by
  refine returnsInHanded_of_change_sized (C := Try.checked) ownK started (by kernel_rfl) Try.func4
    (ChangeSpec.witness6 (enc := enc) (C := Try.checked) false ⟨#[], #[zKey, zKey, zKey], []⟩ 8 (by kernel_rfl) (by kernel_rfl) (by kernel_rfl) (by kernel_rfl)) ?_
  intro W base args ds gs before hval hW _ hwt _
  have hW' := hW
  obtain ⟨p, q, hA, hV, rfl, hfz, hnd⟩ := hW
  obtain ⟨rfl, rfl⟩ := trodVars_none hV
  have hA' : DataW.TrodAll enc Try.prog W 0 (fun _ => true) true Try.f4.params.toList args.toList ds p := hA
  rw [Try.params4] at hA'
  obtain ⟨v0, v1, v2, d0, d1, d2, p0, p1, p2, rfl, rfl, rfl, h0, h1, h2⟩ := trodAll_three hA'
  obtain ⟨x, hx, _⟩ := rdKey.arg h0 (wt_of hwt 0 rfl rfl) (by decide) (fun h => absurd h (by decide))
  obtain ⟨y, hy, _⟩ := rdKey.arg h1 (wt_of hwt 1 rfl rfl) (by decide) (fun h => absurd h (by decide))
  obtain ⟨z, hz, _⟩ := rdKey.arg h2 (wt_of hwt 2 rfl rfl) (by decide) (fun h => absurd h (by decide))
  obtain ⟨_, rfl, rfl⟩ := hx
  obtain ⟨_, rfl, rfl⟩ := hy
  obtain ⟨_, rfl, rfl⟩ := hz
  refine (Fn.below (orders_walk x y z) W (fun _ h => by cases h)).mono ?_
  rintro e W' ⟨u, Φ', M', rfl, ⟨rfl, rfl, rfl⟩, hb⟩
  exact ⟨_, rfl, law_post laidO (by kernel_rfl) rfl rfl (by kernel_rfl) Try.underlying4 hW' hb⟩

theorem orders_holds : Rows.AccessOrdersSaid :=
  OpenClaim.holds_of_wide (p := Try.pinned) (s := Rows.accessOrdersSpec) (c := Rows.accessOrdersRow) 4 Try.f4 rfl rfl rfl rfl rfl rfl rfl ⟨rfl, rfl, rfl, rfl, rfl⟩ rfl rfl rfl rfl rfl (by kernel_rfl) Try.func4 (by kernel_rfl)
    (of_decide_eq_true (by kernel_rfl)) (by unfold Func.isWrapper; first | (rw [if_pos (by decide +kernel)]; kernel_rfl) | (rw [if_neg (by decide +kernel)]; exact ⟨rfl, rfl⟩))
    (fun os started H enc _ => lifted os started H enc)
end Go.Proofs.Ytoiepfapghnccaa
