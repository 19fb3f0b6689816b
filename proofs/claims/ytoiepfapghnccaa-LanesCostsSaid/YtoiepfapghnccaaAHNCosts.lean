/- LanesCosts: for every input the law returns true, and each argument reads behind the call as it read before. No condition. -/
import Derived.Test.YtoiepfapghnccaaALNCosts
import Derived.Test.YtoiepfapghnccaaRailD
import Derived.Test.YtoiepfapghnccaaRows
namespace Go.Proofs.Ytoiepfapghnccaa
open Go Go.Rail Go.ChangeShapes Go.WideShapes Go.ChangeAt Go.RowKit
set_option linter.unusedVariables false
set_option linter.unusedSimpArgs false
theorem ownK : ownKnob Try.prog.godebug = none := by kernel_rfl
theorem laidO : laidOutB Try.prog = true := by kernel_rfl
theorem rdInt : RdH Try.prog 3 Int (fun n => -9223372036854775808 ≤ n ∧ n ≤ 9223372036854775807) := RdH.int (by kernel_rfl)
theorem rdBool : RdH Try.prog 4 Bool (fun _ => True) := RdH.bool (by kernel_rfl)
theorem rdPair : RdH Try.prog 52 (Int × Int) In64 := RdH.pair (e := 3) (by kernel_rfl) (by kernel_rfl) (by kernel_rfl) (by kernel_rfl)
theorem rdRaw : RdH Try.prog 32 (List (Int × Int)) okRaw := RdH.slice (e := 52) (by kernel_rfl) (by kernel_rfl) (by decide) (of_decide_eq_true (by kernel_rfl)) rdPair
theorem rdRawS : RdH Try.prog 51 RawS (fun s => okRaw s.a ∧ okRaw s.b) := RdH.rawS (e := 32) (by kernel_rfl) (by kernel_rfl) (by kernel_rfl) rdRaw
theorem rdRaws : RdH Try.prog 57 (List RawS) (fun xs => xs.length ≤ reachBytes ∧ ∀ r ∈ xs, okRaw r.a ∧ okRaw r.b) := RdH.slice (e := 51) (by kernel_rfl) (by kernel_rfl) (by decide) (of_decide_eq_true (by kernel_rfl)) rdRawS
theorem rdInts : RdH Try.prog 59 (List Int) (fun xs => xs.length ≤ reachBytes ∧ ∀ n ∈ xs, -9223372036854775808 ≤ n ∧ n ≤ 9223372036854775807) := RdH.slice (e := 3) (by kernel_rfl) (by kernel_rfl) (by decide) (of_decide_eq_true (by kernel_rfl)) rdInt

set_option maxRecDepth 100000 in
theorem lifted (os : Os) (started : os.Started) (H : Type) (enc : TypeId × Value → H) :
    ReturnsInHanded {} Try.checked os 13 .any (Rows.lanesCostsSpec.pre6 enc Try.prog Try.f13 Rows.lanesCostsRow.domain false) (Rows.lanesCostsSpec.post enc Try.prog Try.f13 false true false false) := by
  refine returnsInHanded_of_change_sized (C := Try.checked) ownK started (by kernel_rfl) Try.func13
    (ChangeSpec.witness6 (enc := enc) (C := Try.checked) false ⟨#[], #[.slice none 0 0, .int .i64 0], []⟩ 8 (by kernel_rfl) (by kernel_rfl) (by kernel_rfl) (by kernel_rfl)) ?_
  intro W base args ds gs before hval hW _ hwt _
  have hW' := hW
  obtain ⟨p, q, hA, hV, rfl, hfz, hnd⟩ := hW
  obtain ⟨rfl, rfl⟩ := trodVars_none hV
  have hA' : DataW.TrodAll enc Try.prog W 0 (fun _ => true) true Try.f13.params.toList args.toList ds p := hA
  rw [Try.params13] at hA'
  rw [Try.params13] at hval
  obtain ⟨v0, vs0, d0, ds0, p0, e0, ha0, rfl, rfl, g0, r0⟩ := trodAll_cons hA'
  obtain ⟨v1, vs1, d1, ds1, p1, e1, rfl, rfl, rfl, g1, r1⟩ := trodAll_cons r0
  obtain ⟨rfl, rfl, rfl⟩ := trodAll_nil r1
  obtain rfl : args = #[v0, v1] := by cases args; simp_all
  obtain ⟨q0, rx0, o0⟩ := rdInts.arg g0 (wt_of hwt 0 rfl rfl) (by decide) (fun _ => okWide_slice (e := 3) (by kernel_rfl) (hval 0 _ _ rfl rfl))
  obtain ⟨n1, hn1, on1⟩ := rdInt.arg g1 (wt_of hwt 1 rfl rfl) (by decide) (fun _ => okWide_int (k := .i64) (by kernel_rfl) (hval 1 _ _ rfl rfl))
  obtain ⟨_, rfl, rfl⟩ := hn1
  refine (Fn.below (ncosts_walk v0 q0 n1 ⟨Nat.le_trans o0.1 (by decide), o0.2⟩ on1) W (List.forall_mem_cons.2 ⟨rx0, List.forall_mem_nil _⟩)).mono ?_
  rintro e W' ⟨u, Φ', M', rfl, ⟨rfl, rfl, rfl⟩, hb⟩
  exact ⟨_, rfl, law_post laidO (by kernel_rfl) rfl rfl (by kernel_rfl) Try.underlying4 hW' hb⟩

theorem ncosts_holds : Rows.LanesCostsSaid :=
  OpenClaim.holds_of_wide (p := Try.pinned) (s := Rows.lanesCostsSpec) (c := Rows.lanesCostsRow) 13 Try.f13 rfl rfl rfl rfl rfl rfl rfl ⟨rfl, rfl, rfl, rfl, rfl⟩ rfl rfl rfl rfl rfl (by kernel_rfl) Try.func13 (by kernel_rfl)
    (of_decide_eq_true (by kernel_rfl)) (by unfold Func.isWrapper; first | (rw [if_pos (by decide +kernel)]; kernel_rfl) | (rw [if_neg (by decide +kernel)]; exact ⟨rfl, rfl⟩))
    (fun os started H enc _ => lifted os started H enc)
end Go.Proofs.Ytoiepfapghnccaa
