/- GraphTells: for every input the law returns true, and each argument reads behind the call as it read before. No condition. -/
import Derived.Test.YtoiepfapghnccaaALGTells
import Derived.Test.YtoiepfapghnccaaRailD
import Derived.Test.YtoiepfapghnccaaRows
namespace Go.Proofs.Ytoiepfapghnccaa
open Go Go.Rail Go.ChangeShapes Go.WideShapes Go.ChangeAt Go.RowKit
set_option linter.unusedVariables false
set_option linter.unusedSimpArgs false

theorem ownK : ownKnob Try.prog.godebug = none := by kernel_rfl
theorem laidO : laidOutB Try.prog = true := by kernel_rfl
theorem rdInt : RdH Try.prog 3 Int (fun n => -9223372036854775808 ≤ n ∧ n ≤ 9223372036854775807) := RdH.int (by kernel_rfl)
theorem rdBool : RdH Try.prog 4 Bool (fun _ => True) := RdH.bool (by kernel_rfl)
theorem rdPair : RdH Try.prog 52 (Int × Int) In64 := RdH.pair (e := 3) (by kernel_rfl) (by kernel_rfl) (by kernel_rfl) (by kernel_rfl)
theorem rdRaw : RdH Try.prog 32 (List (Int × Int)) okRaw := RdH.slice (e := 52) (by kernel_rfl) (by kernel_rfl) (by decide) (of_decide_eq_true (by kernel_rfl)) rdPair
theorem rdRawS : RdH Try.prog 51 RawS (fun s => okRaw s.a ∧ okRaw s.b) := RdH.rawS (e := 32) (by kernel_rfl) (by kernel_rfl) (by kernel_rfl) rdRaw
theorem rdRaws : RdH Try.prog 57 (List RawS) (fun xs => xs.length ≤ reachBytes ∧ ∀ r ∈ xs, okRaw r.a ∧ okRaw r.b) := RdH.slice (e := 51) (by kernel_rfl) (by kernel_rfl) (by decide) (of_decide_eq_true (by kernel_rfl)) rdRawS
theorem okWide_bool {P : Program} {t : TypeId} {W : World} {base : Nat} {v : Value} (hu : P.underlying t = some .bool) (h : Value.okWide P W .any base t v) : ∀ cs, v ≠ .agg cs := by
  intro cs hv
  subst hv
  unfold Value.okWide at h
  rw [hu] at h
  simp [Cell.okWide, Cell.ok, hu] at h
theorem rdBools : RdH Try.prog 58 (List Bool) (fun xs => xs.length ≤ reachBytes ∧ ∀ b ∈ xs, True) := RdH.slice (e := 4) (by kernel_rfl) (by kernel_rfl) (by decide) (of_decide_eq_true (by kernel_rfl)) rdBool
theorem rdInts : RdH Try.prog 59 (List Int) (fun xs => xs.length ≤ reachBytes ∧ ∀ n ∈ xs, -9223372036854775808 ≤ n ∧ n ≤ 9223372036854775807) := RdH.slice (e := 3) (by kernel_rfl) (by kernel_rfl) (by decide) (of_decide_eq_true (by kernel_rfl)) rdInt

set_option maxRecDepth 100000 in
theorem lifted (os : Os) (started : os.Started) (H : Type) (enc : TypeId × Value → H) :
    ReturnsInHanded {} Try.checked os 8 .any (Rows.graphTellsSpec.pre6 enc Try.prog Try.f8 Rows.graphTellsRow.domain false) (Rows.graphTellsSpec.post enc Try.prog Try.f8 false true false false) := by
  refine returnsInHanded_of_change_sized (C := Try.checked) ownK started (by kernel_rfl) Try.func8
    (ChangeSpec.witness6 (enc := enc) (C := Try.checked) false ⟨#[], #[.slice none 0 0, .bool false, .slice none 0 0, .slice none 0 0, .slice none 0 0, .int .i64 0], []⟩ 8 (by kernel_rfl) (by kernel_rfl) (by kernel_rfl) (by kernel_rfl)) ?_
  intro W base args ds gs before hval hW _ hwt _
  have hW' := hW
  obtain ⟨p, q, hA, hV, rfl, hfz, hnd⟩ := hW
  obtain ⟨rfl, rfl⟩ := trodVars_none hV
  have hA' : DataW.TrodAll enc Try.prog W 0 (fun _ => true) true Try.f8.params.toList args.toList ds p := hA
  rw [Try.params8] at hA'
  rw [Try.params8] at hval
  obtain ⟨v0, vs0, d0, ds0, p0, e0, ha0, rfl, rfl, g0, r0⟩ := trodAll_cons hA'
  obtain ⟨v1, vs1, d1, ds1, p1, e1, rfl, rfl, rfl, g1, r1⟩ := trodAll_cons r0
  obtain ⟨v2, vs2, d2, ds2, p2, e2, rfl, rfl, rfl, g2, r2⟩ := trodAll_cons r1
  obtain ⟨v3, vs3, d3, ds3, p3, e3, rfl, rfl, rfl, g3, r3⟩ := trodAll_cons r2
  obtain ⟨v4, vs4, d4, ds4, p4, e4, rfl, rfl, rfl, g4, r4⟩ := trodAll_cons r3
  obtain ⟨v5, vs5, d5, ds5, p5, e5, rfl, rfl, rfl, g5, r5⟩ := trodAll_cons r4
  obtain ⟨rfl, rfl, rfl⟩ := trodAll_nil r5
  obtain rfl : args = #[v0, v1, v2, v3, v4, v5] := by cases args; simp_all
  obtain ⟨q0, rx0, o0⟩ := rdRaws.arg g0 (wt_of hwt 0 rfl rfl) (by decide) (fun _ => okWide_slice (e := 51) (by kernel_rfl) (hval 0 _ _ rfl rfl))
  have o0 : okRaws q0 := ⟨Nat.le_trans o0.1 (by decide), o0.2⟩
  obtain ⟨n1, hn1, _⟩ := rdBool.arg g1 (wt_of hwt 1 rfl rfl) (by decide) (fun _ => okWide_bool (by kernel_rfl) (hval 1 _ _ rfl rfl))
  obtain ⟨_, rfl, rfl⟩ := hn1
  obtain ⟨q2, rx2, o2⟩ := rdBools.arg g2 (wt_of hwt 2 rfl rfl) (by decide) (fun _ => okWide_slice (e := 4) (by kernel_rfl) (hval 2 _ _ rfl rfl))
  obtain ⟨q3, rx3, o3⟩ := rdBools.arg g3 (wt_of hwt 3 rfl rfl) (by decide) (fun _ => okWide_slice (e := 4) (by kernel_rfl) (hval 3 _ _ rfl rfl))
  obtain ⟨q4, rx4, o4⟩ := rdInts.arg g4 (wt_of hwt 4 rfl rfl) (by decide) (fun _ => okWide_slice (e := 3) (by kernel_rfl) (hval 4 _ _ rfl rfl))
  obtain ⟨n5, hn5, on5⟩ := rdInt.arg g5 (wt_of hwt 5 rfl rfl) (by decide) (fun _ => okWide_int (k := .i64) (by kernel_rfl) (hval 5 _ _ rfl rfl))
  obtain ⟨_, rfl, rfl⟩ := hn5
  refine (Fn.below (gtells_walk v0 v2 v3 v4 q0 n1 q2 q3 q4 n5 o0 o2 o3 o4 on5) W (List.forall_mem_cons.2 ⟨rx0, (List.forall_mem_cons.2 ⟨rx2, (List.forall_mem_cons.2 ⟨rx3, (List.forall_mem_cons.2 ⟨rx4, List.forall_mem_nil _⟩)⟩)⟩)⟩)).mono ?_
  rintro e W' ⟨u, Φ', M', rfl, ⟨rfl, rfl, rfl⟩, hb⟩
  exact ⟨_, rfl, law_post laidO (by kernel_rfl) rfl rfl (by kernel_rfl) Try.underlying4 hW' hb⟩

theorem gtells_holds : Rows.GraphTellsSaid :=
  OpenClaim.holds_of_wide (p := Try.pinned) (s := Rows.graphTellsSpec) (c := Rows.graphTellsRow) 8 Try.f8 rfl rfl rfl rfl rfl rfl rfl ⟨rfl, rfl, rfl, rfl, rfl⟩ rfl rfl rfl rfl rfl (by kernel_rfl) Try.func8 (by kernel_rfl)
    (of_decide_eq_true (by kernel_rfl)) (by unfold Func.isWrapper; first | (rw [if_pos (by decide +kernel)]; kernel_rfl) | (rw [if_neg (by decide +kernel)]; exact ⟨rfl, rfl⟩))
    (fun os started H enc _ => lifted os started H enc)
end Go.Proofs.Ytoiepfapghnccaa
