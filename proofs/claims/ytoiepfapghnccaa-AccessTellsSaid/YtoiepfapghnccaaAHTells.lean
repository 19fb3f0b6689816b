/- AccessTells: for every input the law returns true, and each argument reads behind the call as it read before. No condition. -/
import Derived.Test.YtoiepfapghnccaaALTells
import Derived.Test.YtoiepfapghnccaaRailLaw
import Derived.Test.YtoiepfapghnccaaRows
namespace Go.Proofs.Ytoiepfapghnccaa
open Go Go.Rail Go.ChangeShapes Go.WideShapes Go.ChangeAt Go.RowKit
set_option linter.unusedVariables false
set_option linter.unusedSimpArgs false

theorem ownK : ownKnob Try.prog.godebug = none := by kernel_rfl
theorem laidO : laidOutB Try.prog = true := by kernel_rfl
theorem rdInt : RdH Try.prog 3 Int (fun n => -9223372036854775808 ≤ n ∧ n ≤ 9223372036854775807) := RdH.int (by kernel_rfl)
theorem rdPair : RdH Try.prog 52 (Int × Int) In64 := RdH.pair (e := 3) (by kernel_rfl) (by kernel_rfl) (by kernel_rfl) (by kernel_rfl)
theorem rdRaw : RdH Try.prog 32 (List (Int × Int)) okRaw := RdH.slice (e := 52) (by kernel_rfl) (by kernel_rfl) (by decide) (of_decide_eq_true (by kernel_rfl)) rdPair
theorem rdKey : RdH Try.prog 31 Key (fun _ => True) :=
  RdH.key (ta := 26) (tb := 4) (tw := 29) Try.underlying31 ⟨rfl, rfl⟩ ⟨rfl, rfl⟩ ⟨rfl, rfl⟩ (by kernel_rfl) (by kernel_rfl) (by kernel_rfl) (by kernel_rfl)
    (RdH.addr (e := 5) (by kernel_rfl) (by kernel_rfl) (by kernel_rfl) (by kernel_rfl)) (RdH.bool (by kernel_rfl)) (RdH.word (e := 27) (by kernel_rfl) (by kernel_rfl) (by kernel_rfl) (by kernel_rfl))
theorem rdKeys : RdH Try.prog 22 (List Key) (fun xs => xs.length ≤ reachBytes ∧ ∀ k ∈ xs, True) := RdH.slice (e := 31) (by kernel_rfl) (by kernel_rfl) (by decide) (of_decide_eq_true (by kernel_rfl)) rdKey
theorem rdSets : RdH Try.prog 24 Sets (fun s => (s.reads.length ≤ reachBytes ∧ ∀ k ∈ s.reads, True) ∧ (s.writes.length ≤ reachBytes ∧ ∀ k ∈ s.writes, True)) := RdH.sets (tl := 22) Try.underlying24 ⟨rfl, rfl⟩ ⟨rfl, rfl⟩ (by kernel_rfl) (by kernel_rfl) rdKeys
def zKey : Value := .agg (Go.Rail.Key.cells ⟨Addr20.zero, false, Word.zero⟩).toArray

set_option maxRecDepth 100000 in
theorem lifted (os : Os) (started : os.Started) (H : Type) (enc : TypeId × Value → H) :
    ReturnsInHanded {} Try.checked os 3 .any (Rows.accessTellsSpec.pre6 enc Try.prog Try.f3 Rows.accessTellsRow.domain false) (Rows.accessTellsSpec.post enc Try.prog Try.f3 false true false false) := by
  refine returnsInHanded_of_change_sized (C := Try.checked) ownK started (by kernel_rfl) Try.func3
    (ChangeSpec.witness6 (enc := enc) (C := Try.checked) false ⟨#[], #[.agg #[.slice none 0 0, .slice none 0 0], zKey, zKey, .slice none 0 0, .slice none 0 0, .int .i64 0], []⟩ 8 (by kernel_rfl) (by kernel_rfl) (by kernel_rfl) (by kernel_rfl)) ?_
  intro W base args ds gs before hval hW _ hwt _
  have hW' := hW
  obtain ⟨p, q, hA, hV, rfl, hfz, hnd⟩ := hW
  obtain ⟨rfl, rfl⟩ := trodVars_none hV
  have hA' : DataW.TrodAll enc Try.prog W 0 (fun _ => true) true Try.f3.params.toList args.toList ds p := hA
  rw [Try.params3] at hA'
  rw [Try.params3] at hval
  obtain ⟨v0, vs0, d0, ds0, p0, e0, ha0, rfl, rfl, g0, r0⟩ := trodAll_cons hA'
  obtain ⟨v1, vs1, d1, ds1, p1, e1, rfl, rfl, rfl, g1, r1⟩ := trodAll_cons r0
  obtain ⟨v2, vs2, d2, ds2, p2, e2, rfl, rfl, rfl, g2, r2⟩ := trodAll_cons r1
  obtain ⟨v3, vs3, d3, ds3, p3, e3, rfl, rfl, rfl, g3, r3⟩ := trodAll_cons r2
  obtain ⟨v4, vs4, d4, ds4, p4, e4, rfl, rfl, rfl, g4, r4⟩ := trodAll_cons r3
  obtain ⟨v5, vs5, d5, ds5, p5, e5, rfl, rfl, rfl, g5, r5⟩ := trodAll_cons r4
  obtain ⟨rfl, rfl, rfl⟩ := trodAll_nil r5
  obtain rfl : args = #[v0, v1, v2, v3, v4, v5] := by cases args; simp_all
  obtain ⟨any, hany, oa0, oa1⟩ := rdSets.arg g0 (wt_of hwt 0 rfl rfl) (by decide) (fun h => absurd h (by decide))
  obtain ⟨_, rfl, rA, wA, rfl, hrA, hwA⟩ := hany
  obtain ⟨m0, k0, rfl, s0⟩ := hrA.slice
  obtain ⟨m1, k1, rfl, s1⟩ := hwA.slice
  obtain ⟨x, hx, _⟩ := rdKey.arg g1 (wt_of hwt 1 rfl rfl) (by decide) (fun h => absurd h (by decide))
  obtain ⟨_, rfl, rfl⟩ := hx
  obtain ⟨y, hy, _⟩ := rdKey.arg g2 (wt_of hwt 2 rfl rfl) (by decide) (fun h => absurd h (by decide))
  obtain ⟨_, rfl, rfl⟩ := hy
  obtain ⟨q2, rx2, o2⟩ := rdRaw.arg g3 (wt_of hwt 3 rfl rfl) (by decide) (fun _ => okWide_slice (e := 52) (by kernel_rfl) (hval 3 _ _ rfl rfl))
  obtain ⟨m2, k2, rfl, s2⟩ := rx2.slice
  obtain ⟨q3, rx3, o3⟩ := rdRaw.arg g4 (wt_of hwt 4 rfl rfl) (by decide) (fun _ => okWide_slice (e := 52) (by kernel_rfl) (hval 4 _ _ rfl rfl))
  obtain ⟨m3, k3, rfl, s3⟩ := rx3.slice
  obtain ⟨many, hn, om⟩ := rdInt.arg g5 (wt_of hwt 5 rfl rfl) (by decide) (fun _ => okWide_int (k := .i64) (by kernel_rfl) (hval 5 _ _ rfl rfl))
  obtain ⟨_, rfl, rfl⟩ := hn
  refine (Fn.below (tells_walk m0 m1 m2 m3 k0 k1 k2 k3 any x y q2 q3 ⟨oa0.1, oa1.1⟩ o2 o3 many om) W (List.forall_mem_cons.2 ⟨hrA, (List.forall_mem_cons.2 ⟨hwA, (List.forall_mem_cons.2 ⟨rx2, (List.forall_mem_cons.2 ⟨rx3, List.forall_mem_nil _⟩)⟩)⟩)⟩)).mono ?_
  rintro e W' ⟨u, Φ', M', rfl, ⟨rfl, rfl, rfl⟩, hb⟩
  exact ⟨_, rfl, law_post laidO (by kernel_rfl) rfl rfl (by kernel_rfl) Try.underlying4 hW' hb⟩

theorem tells_holds : Rows.AccessTellsSaid :=
  OpenClaim.holds_of_wide (p := Try.pinned) (s := Rows.accessTellsSpec) (c := Rows.accessTellsRow) 3 Try.f3 rfl rfl rfl rfl rfl rfl rfl ⟨rfl, rfl, rfl, rfl, rfl⟩ rfl rfl rfl rfl rfl (by kernel_rfl) Try.func3 (by kernel_rfl)
    (of_decide_eq_true (by kernel_rfl)) (by unfold Func.isWrapper; first | (rw [if_pos (by decide +kernel)]; kernel_rfl) | (rw [if_neg (by decide +kernel)]; exact ⟨rfl, rfl⟩))
    (fun os started H enc _ => lifted os started H enc)
end Go.Proofs.Ytoiepfapghnccaa
