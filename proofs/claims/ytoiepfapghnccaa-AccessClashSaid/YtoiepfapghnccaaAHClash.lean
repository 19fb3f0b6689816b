/- AccessClash: for every input the law returns true, and each argument reads behind the call as it read before. No condition. -/
import Derived.Test.YtoiepfapghnccaaALClash
import Derived.Test.YtoiepfapghnccaaRailD
import Derived.Test.YtoiepfapghnccaaRows
namespace Go.Proofs.Ytoiepfapghnccaa
open Go Go.Rail Go.ChangeShapes Go.WideShapes Go.ChangeAt Go.RowKit
set_option linter.unusedVariables false
set_option linter.unusedSimpArgs false

theorem ownK : ownKnob Try.prog.godebug = none := by kernel_rfl
theorem laidO : laidOutB Try.prog = true := by kernel_rfl
theorem rdInt : RdH Try.prog 3 Int (fun n => -9223372036854775808 ≤ n ∧ n ≤ 9223372036854775807) := RdH.int (by kernel_rfl)
theorem rdPair : RdH Try.prog 52 (Int × Int) In64 := RdH.pair (e := 3) (by kernel_rfl) (by kernel_rfl) (by kernel_rfl) (by kernel_rfl)
theorem rdRaw : RdH Try.prog 32 (List (Int × Int)) okRaw := RdH.slice (e := 52) (by kernel_rfl) (by kernel_rfl) (by decide) (of_decide_eq_true (by kernel_rfl)) rdPair
theorem rdKey : RdH Try.prog 31 Key (fun _ => True) :=
  RdH.key (ta := 26) (tb := 4) (tw := 29) Try.underlying31 ⟨rfl, rfl⟩ ⟨rfl, rfl⟩ ⟨rfl, rfl⟩ (by kernel_rfl) (by kernel_rfl) (by kernel_rfl) (by kernel_rfl)
    (RdH.addr (e := 5) (by kernel_rfl) (by kernel_rfl) (by kernel_rfl) (by kernel_rfl)) (RdH.bool (by kernel_rfl)) (RdH.word (e := 27) (by kernel_rfl) (by kernel_rfl) (by kernel_rfl) (by kernel_rfl))
def zKey : Value := .agg (Go.Rail.Key.cells ⟨Addr20.zero, false, Word.zero⟩).toArray

set_option maxRecDepth 100000 in
theorem lifted (os : Os) (started : os.Started) (H : Type) (enc : TypeId × Value → H) :
    ReturnsInHanded {} Try.checked os 5 .any (Rows.accessClashSpec.pre6 enc Try.prog Try.f5 Rows.accessClashRow.domain false) (Rows.accessClashSpec.post enc Try.prog Try.f5 false true false false) := by
  refine returnsInHanded_of_change_sized (C := Try.checked) ownK started (by kernel_rfl) Try.func5
    (ChangeSpec.witness6 (enc := enc) (C := Try.checked) false ⟨#[], #[.agg #[.slice none 0 0, .slice none 0 0], .agg #[.slice none 0 0, .slice none 0 0], .agg #[.slice none 0 0, .slice none 0 0], .agg #[.int .i64 0, .int .i64 0]], []⟩ 8 (by kernel_rfl) (by kernel_rfl) (by kernel_rfl) (by kernel_rfl)) ?_
  intro W base args ds gs before hval hW _ hwt _
  have hW' := hW
  obtain ⟨p, q, hA, hV, rfl, hfz, hnd⟩ := hW
  obtain ⟨rfl, rfl⟩ := trodVars_none hV
  have hA' : DataW.TrodAll enc Try.prog W 0 (fun _ => true) true Try.f5.params.toList args.toList ds p := hA
  rw [Try.params5] at hA'
  rw [Try.params5] at hval
  obtain ⟨v0, v1, v2, v3, d0, d1, d2, d3, p0, p1, p2, p3, rfl, rfl, rfl, h0, h1, h2, h3⟩ := trodAll_four hA'
  obtain ⟨x0, y0, q0, q1, rfl, rx0, ry0, o0, o1⟩ := arg_two (e := 32) (by kernel_rfl) (by kernel_rfl) (by kernel_rfl) rdRaw h0 (wt_of hwt 0 rfl rfl)
  obtain ⟨m0, k0, rfl, s0⟩ := rx0.slice
  obtain ⟨m1, k1, rfl, s1⟩ := ry0.slice
  obtain ⟨x1, y1, q2, q3, rfl, rx1, ry1, o2, o3⟩ := arg_two (e := 32) (by kernel_rfl) (by kernel_rfl) (by kernel_rfl) rdRaw h1 (wt_of hwt 1 rfl rfl)
  obtain ⟨m2, k2, rfl, s2⟩ := rx1.slice
  obtain ⟨m3, k3, rfl, s3⟩ := ry1.slice
  obtain ⟨x2, y2, q4, q5, rfl, rx2, ry2, o4, o5⟩ := arg_two (e := 32) (by kernel_rfl) (by kernel_rfl) (by kernel_rfl) rdRaw h2 (wt_of hwt 2 rfl rfl)
  obtain ⟨m4, k4, rfl, s4⟩ := rx2.slice
  obtain ⟨m5, k5, rfl, s5⟩ := ry2.slice
  obtain ⟨pk, hpk, opk⟩ := rdPair.arg h3 (wt_of hwt 3 rfl rfl) (by decide) (fun h => absurd h (by decide))
  obtain ⟨_, rfl, rfl⟩ := hpk
  refine (Fn.below (clash_walk m0 m1 m2 m3 m4 m5 k0 k1 k2 k3 k4 k5 q0 q1 q2 q3 q4 q5 o0 o1 o2 o3 o4 o5 pk opk) W (List.forall_mem_cons.2 ⟨rx0, (List.forall_mem_cons.2 ⟨ry0, (List.forall_mem_cons.2 ⟨rx1, (List.forall_mem_cons.2 ⟨ry1, (List.forall_mem_cons.2 ⟨rx2, (List.forall_mem_cons.2 ⟨ry2, List.forall_mem_nil _⟩)⟩)⟩)⟩)⟩)⟩)).mono ?_
  rintro e W' ⟨u, Φ', M', rfl, ⟨rfl, rfl, rfl⟩, hb⟩
  exact ⟨_, rfl, law_post laidO (by kernel_rfl) rfl rfl (by kernel_rfl) Try.underlying4 hW' hb⟩

theorem clash_holds : Rows.AccessClashSaid :=
  OpenClaim.holds_of_wide (p := Try.pinned) (s := Rows.accessClashSpec) (c := Rows.accessClashRow) 5 Try.f5 rfl rfl rfl rfl rfl rfl rfl ⟨rfl, rfl, rfl, rfl, rfl⟩ rfl rfl rfl rfl rfl (by kernel_rfl) Try.func5 (by kernel_rfl)
    (of_decide_eq_true (by kernel_rfl)) (by unfold Func.isWrapper; first | (rw [if_pos (by decide +kernel)]; kernel_rfl) | (rw [if_neg (by decide +kernel)]; exact ⟨rfl, rfl⟩))
    (fun os started H enc _ => lifted os started H enc)
end Go.Proofs.Ytoiepfapghnccaa
