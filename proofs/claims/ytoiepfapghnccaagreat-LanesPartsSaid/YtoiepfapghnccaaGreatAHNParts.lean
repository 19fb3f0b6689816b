/- LanesParts: for every input the law returns true, and each argument reads behind the call as it read before. No condition. -/
import Derived.Test.YtoiepfapghnccaaGreatALNParts
import Derived.Test.YtoiepfapghnccaaGreatRailD
import Derived.Test.YtoiepfapghnccaaGreatRows
namespace Go.Proofs.YtoiepfapghnccaaGreat
open Go Go.Rail Go.ChangeShapes Go.WideShapes Go.ChangeAt Go.RowKit
set_option linter.unusedVariables false
set_option linter.unusedSimpArgs false
theorem ownK : ownKnob Tryz.prog.godebug = none := by kernel_rfl
theorem laidO : laidOutB Tryz.prog = true := by kernel_rfl
theorem rdInt : RdH Tryz.prog 3 Int (fun n => -9223372036854775808 ≤ n ∧ n ≤ 9223372036854775807) := RdH.int (by kernel_rfl)
theorem rdBool : RdH Tryz.prog 4 Bool (fun _ => True) := RdH.bool (by kernel_rfl)
theorem rdPair : RdH Tryz.prog 76 (Int × Int) In64 := RdH.pair (e := 3) (by kernel_rfl) (by kernel_rfl) (by kernel_rfl) (by kernel_rfl)
theorem rdRaw : RdH Tryz.prog 73 (List (Int × Int)) okRaw := RdH.slice (e := 76) (by kernel_rfl) (by kernel_rfl) (by decide) (of_decide_eq_true (by kernel_rfl)) rdPair
theorem rdRawS : RdH Tryz.prog 85 RawS (fun s => okRaw s.a ∧ okRaw s.b) := RdH.rawS (e := 73) (by kernel_rfl) (by kernel_rfl) (by kernel_rfl) rdRaw
theorem rdRaws : RdH Tryz.prog 22 (List RawS) (fun xs => xs.length ≤ reachBytes ∧ ∀ r ∈ xs, okRaw r.a ∧ okRaw r.b) := RdH.slice (e := 85) (by kernel_rfl) (by kernel_rfl) (by decide) (of_decide_eq_true (by kernel_rfl)) rdRawS
theorem rdInts : RdH Tryz.prog 23 (List Int) (fun xs => xs.length ≤ reachBytes ∧ ∀ n ∈ xs, -9223372036854775808 ≤ n ∧ n ≤ 9223372036854775807) := RdH.slice (e := 3) (by kernel_rfl) (by kernel_rfl) (by decide) (of_decide_eq_true (by kernel_rfl)) rdInt

set_option maxRecDepth 100000 in
theorem lifted (os : Os) (started : os.Started) (H : Type) (enc : TypeId × Value → H) :
    ReturnsInHanded {} Tryz.checked os 6 .any (Rows.lanesPartsSpec.pre6 enc Tryz.prog Tryz.f6 Rows.lanesPartsRow.domain false) (Rows.lanesPartsSpec.post enc Tryz.prog Tryz.f6 false true false false) := by
  refine returnsInHanded_of_change_sized (C := Tryz.checked) ownK started (by kernel_rfl) Tryz.func6
    (ChangeSpec.witness6 (enc := enc) (C := Tryz.checked) false ⟨#[], #[.slice none 0 0, .slice none 0 0, .int .i64 0, .slice none 0 0, .int .i64 0], []⟩ 8 (by kernel_rfl) (by kernel_rfl) (by kernel_rfl) (by kernel_rfl)) ?_
  intro W base args ds gs before hval hW _ hwt _
  have hW' := hW
  obtain ⟨p, q, hA, hV, rfl, hfz, hnd⟩ := hW
  obtain ⟨rfl, rfl⟩ := trodVars_none hV
  have hA' : DataW.TrodAll enc Tryz.prog W 0 (fun _ => true) true Tryz.f6.params.toList args.toList ds p := hA
  rw [Tryz.params6] at hA'
  rw [Tryz.params6] at hval
  obtain ⟨v0, vs0, d0, ds0, p0, e0, ha0, rfl, rfl, g0, r0⟩ := trodAll_cons hA'
  obtain ⟨v1, vs1, d1, ds1, p1, e1, rfl, rfl, rfl, g1, r1⟩ := trodAll_cons r0
  obtain ⟨v2, vs2, d2, ds2, p2, e2, rfl, rfl, rfl, g2, r2⟩ := trodAll_cons r1
  obtain ⟨v3, vs3, d3, ds3, p3, e3, rfl, rfl, rfl, g3, r3⟩ := trodAll_cons r2
  obtain ⟨v4, vs4, d4, ds4, p4, e4, rfl, rfl, rfl, g4, r4⟩ := trodAll_cons r3
  obtain ⟨rfl, rfl, rfl⟩ := trodAll_nil r4
  obtain rfl : args = #[v0, v1, v2, v3, v4] := by cases args; simp_all
  obtain ⟨q0, rx0, o0⟩ := rdRaws.arg g0 (wt_of hwt 0 rfl rfl) (by decide) (fun _ => okWide_slice (e := 85) (by kernel_rfl) (hval 0 _ _ rfl rfl))
  have o0 : okRaws q0 := ⟨Nat.le_trans o0.1 (by decide), o0.2⟩
  obtain ⟨q1, rx1, o1⟩ := rdInts.arg g1 (wt_of hwt 1 rfl rfl) (by decide) (fun _ => okWide_slice (e := 3) (by kernel_rfl) (hval 1 _ _ rfl rfl))
  obtain ⟨n2, hn2, on2⟩ := rdInt.arg g2 (wt_of hwt 2 rfl rfl) (by decide) (fun _ => okWide_int (k := .i64) (by kernel_rfl) (hval 2 _ _ rfl rfl))
  obtain ⟨_, rfl, rfl⟩ := hn2
  obtain ⟨q3, rx3, o3⟩ := rdInts.arg g3 (wt_of hwt 3 rfl rfl) (by decide) (fun _ => okWide_slice (e := 3) (by kernel_rfl) (hval 3 _ _ rfl rfl))
  obtain ⟨n4, hn4, on4⟩ := rdInt.arg g4 (wt_of hwt 4 rfl rfl) (by decide) (fun _ => okWide_int (k := .i64) (by kernel_rfl) (hval 4 _ _ rfl rfl))
  obtain ⟨_, rfl, rfl⟩ := hn4
  refine (Fn.below (nparts_walk v0 v1 v3 q0 q1 q3 n2 n4 o0 ⟨Nat.le_trans o1.1 (by decide), o1.2⟩ on2 ⟨Nat.le_trans o3.1 (by decide), o3.2⟩ on4) W (List.forall_mem_cons.2 ⟨rx0, (List.forall_mem_cons.2 ⟨rx1, (List.forall_mem_cons.2 ⟨rx3, List.forall_mem_nil _⟩)⟩)⟩)).mono ?_
  rintro e W' ⟨u, Φ', M', rfl, ⟨rfl, rfl, rfl⟩, hb⟩
  exact ⟨_, rfl, law_post laidO (by kernel_rfl) rfl rfl (by kernel_rfl) Tryz.underlying4 hW' hb⟩

theorem nparts_holds : Rows.LanesPartsSaid :=
  OpenClaim.holds_of_wide (p := Tryz.pinned) (s := Rows.lanesPartsSpec) (c := Rows.lanesPartsRow) 6 Tryz.f6 rfl rfl rfl rfl rfl rfl rfl ⟨rfl, rfl, rfl, rfl, rfl⟩ rfl rfl rfl rfl rfl (by kernel_rfl) Tryz.func6 (by kernel_rfl)
    (of_decide_eq_true (by kernel_rfl)) (by unfold Func.isWrapper; first | (rw [if_pos (by decide +kernel)]; kernel_rfl) | (rw [if_neg (by decide +kernel)]; exact ⟨rfl, rfl⟩))
    (fun os started H enc _ => lifted os started H enc)
end Go.Proofs.YtoiepfapghnccaaGreat
