/- LanesOne: for every input the law returns true, and each argument reads behind the call as it read before. No condition. -/
import Derived.Test.YtoiepfapghnccaaGreatALNOne
import Derived.Test.YtoiepfapghnccaaGreatRailD
import Derived.Test.YtoiepfapghnccaaGreatRows
namespace Go.Proofs.YtoiepfapghnccaaGreat
open Go Go.Rail Go.ChangeShapes Go.WideShapes Go.ChangeAt Go.RowKit
set_option linter.unusedVariables false
set_option linter.unusedSimpArgs false
theorem ownK : ownKnob Tryz.prog.godebug = none := by kernel_rfl
theorem laidO : laidOutB Tryz.prog = true := by kernel_rfl
theorem rdInt : RdH Tryz.prog 3 Int (fun n => -9223372036854775808 ≤ n ∧ n ≤ 9223372036854775807) := RdH.int (by kernel_rfl)
theorem rdBool : RdH Tryz.prog 4 Bool (fun _ => True) := RdH.bool (by kernel_rfl)
theorem rdPair : RdH Tryz.prog 76 (Int × Int) In64 := RdH.pair (e := 3) (by kernel_rfl) (by kernel_rfl) (by kernel_rfl) (by kernel_rfl)
theorem rdRaw : RdH Tryz.prog 73 (List (Int × Int)) okRaw := RdH.slice (e := 76) (by kernel_rfl) (by kernel_rfl) (by decide) (of_decide_eq_true (by kernel_rfl)) rdPair
theorem rdRawS : RdH Tryz.prog 85 RawS (fun s => okRaw s.a ∧ okRaw s.b) := RdH.rawS (e := 73) (by kernel_rfl) (by kernel_rfl) (by kernel_rfl) rdRaw
theorem rdRaws : RdH Tryz.prog 22 (List RawS) (fun xs => xs.length ≤ reachBytes ∧ ∀ r ∈ xs, okRaw r.a ∧ okRaw r.b) := RdH.slice (e := 85) (by kernel_rfl) (by kernel_rfl) (by decide) (of_decide_eq_true (by kernel_rfl)) rdRawS
theorem rdInts : RdH Tryz.prog 23 (List Int) (fun xs => xs.length ≤ reachBytes ∧ ∀ n ∈ xs, -9223372036854775808 ≤ n ∧ n ≤ 9223372036854775807) := RdH.slice (e := 3) (by kernel_rfl) (by kernel_rfl) (by decide) (of_decide_eq_true (by kernel_rfl)) rdInt

set_option maxRecDepth 100000 in
theorem lifted (os : Os) (started : os.Started) (H : Type) (enc : TypeId × Value → H) :
    ReturnsInHanded {} Tryz.checked os 5 .any (Rows.lanesOneSpec.pre6 enc Tryz.prog Tryz.f5 Rows.lanesOneRow.domain false) (Rows.lanesOneSpec.post enc Tryz.prog Tryz.f5 false true false false) := by
  refine returnsInHanded_of_change_sized (C := Tryz.checked) ownK started (by kernel_rfl) Tryz.func5
    (ChangeSpec.witness6 (enc := enc) (C := Tryz.checked) false ⟨#[], #[.slice none 0 0, .slice none 0 0], []⟩ 8 (by kernel_rfl) (by kernel_rfl) (by kernel_rfl) (by kernel_rfl)) ?_
  intro W base args ds gs before hval hW _ hwt _
  have hW' := hW
  obtain ⟨p, q, hA, hV, rfl, hfz, hnd⟩ := hW
  obtain ⟨rfl, rfl⟩ := trodVars_none hV
  have hA' : DataW.TrodAll enc Tryz.prog W 0 (fun _ => true) true Tryz.f5.params.toList args.toList ds p := hA
  rw [Tryz.params5] at hA'
  rw [Tryz.params5] at hval
  obtain ⟨v0, vs0, d0, ds0, p0, e0, ha0, rfl, rfl, g0, r0⟩ := trodAll_cons hA'
  obtain ⟨v1, vs1, d1, ds1, p1, e1, rfl, rfl, rfl, g1, r1⟩ := trodAll_cons r0
  obtain ⟨rfl, rfl, rfl⟩ := trodAll_nil r1
  obtain rfl : args = #[v0, v1] := by cases args; simp_all
  obtain ⟨q0, rx0, o0⟩ := rdRaws.arg g0 (wt_of hwt 0 rfl rfl) (by decide) (fun _ => okWide_slice (e := 85) (by kernel_rfl) (hval 0 _ _ rfl rfl))
  have o0 : okRaws q0 := ⟨Nat.le_trans o0.1 (by decide), o0.2⟩
  obtain ⟨q1, rx1, o1⟩ := rdInts.arg g1 (wt_of hwt 1 rfl rfl) (by decide) (fun _ => okWide_slice (e := 3) (by kernel_rfl) (hval 1 _ _ rfl rfl))
  refine (Fn.below (none_walk v0 v1 q0 q1 o0 ⟨Nat.le_trans o1.1 (by decide), o1.2⟩) W (List.forall_mem_cons.2 ⟨rx0, (List.forall_mem_cons.2 ⟨rx1, List.forall_mem_nil _⟩)⟩)).mono ?_
  rintro e W' ⟨u, Φ', M', rfl, ⟨rfl, rfl, rfl⟩, hb⟩
  exact ⟨_, rfl, law_post laidO (by kernel_rfl) rfl rfl (by kernel_rfl) Tryz.underlying4 hW' hb⟩

theorem none_holds : Rows.LanesOneSaid :=
  OpenClaim.holds_of_wide (p := Tryz.pinned) (s := Rows.lanesOneSpec) (c := Rows.lanesOneRow) 5 Tryz.f5 rfl rfl rfl rfl rfl rfl rfl ⟨rfl, rfl, rfl, rfl, rfl⟩ rfl rfl rfl rfl rfl (by kernel_rfl) Tryz.func5 (by kernel_rfl)
    (of_decide_eq_true (by kernel_rfl)) (by unfold Func.isWrapper; first | (rw [if_pos (by decide +kernel)]; kernel_rfl) | (rw [if_neg (by decide +kernel)]; exact ⟨rfl, rfl⟩))
    (fun os started H enc _ => lifted os started H enc)
end Go.Proofs.YtoiepfapghnccaaGreat
