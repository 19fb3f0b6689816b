/- ComputeTells: for every input the law returns true, and each argument reads behind the call as it read before. No condition but that listed variables of the library hold what the program's text lays (tied). -/
import Derived.Test.YtomifglegeelaaaGreatDoorAC21L16T
import Derived.Test.YtomifglegeelaaaGreatDoorRailD
import Derived.HandedShaped
import Derived.ProofKit
import Derived.LaidMore
import Derived.OpenShut
import Derived.SevenTiedAt
import Derived.Test.YtomifglegeelaaaGreatDoorRows
import Derived.Test.YtomifglegeelaaaGreatDoorCards
import Derived.Test.YtomifglegeelaaaGreatDoorTie
namespace Go.Proofs.YtomifglegeelaaaGreatDoor
open Go Go.Rail Go.ChangeShapes Go.WideShapes Go.ChangeAt Go.RowKit
set_option linter.unusedVariables false
set_option linter.unusedSimpArgs false
theorem ownK : ownKnob Tryz.prog.godebug = none := by kernel_rfl
theorem laidO : laidOutB Tryz.prog = true := by kernel_rfl
theorem rdBool : RdH Tryz.prog 4 Bool (fun _ => True) := RdH.bool (by kernel_rfl)
theorem rdInt : RdH Tryz.prog 3 Int (fun n => -9223372036854775808 ≤ n ∧ n ≤ 9223372036854775807) := RdH.int (by kernel_rfl)
theorem rdWord : RdH Tryz.prog 24 Word (fun _ => True) := RdH.word (e := 22) (by kernel_rfl) (by kernel_rfl) (by kernel_rfl) (by kernel_rfl)
set_option maxRecDepth 100000
theorem doorMet (os : Os) (args : Array Value) : laidMetH Tryz.prog Rows.computeTellsRow.laid ((World.doorLaid Tryz.prog 400 os).forCall (fun _ _ => 0) ⟨#[], args, []⟩).memory :=
  laidMetH_of_parts3 (fuel := 8) (laidMet_of_run' 8 (by kernel_rfl) (by kernel_rfl)) (by kernel_rfl) (by kernel_rfl)
theorem lifted (os : Os) (started : os.Started) (H : Type) (enc : TypeId × Value → H) :
    ReturnsInHanded {} Tryz.checked os 3 .any (fun w args => (Rows.computeTellsSpec.pre enc Tryz.prog Tryz.f3 [] false w args ∧ laidMetH Tryz.prog Rows.computeTellsRow.laid w) ∧ sizedMet enc Tryz.prog Tryz.f3 (OpenSpec.ofChange Rows.computeTellsSpec) false w args)
      (Rows.computeTellsSpec.post enc Tryz.prog Tryz.f3 false true false false) := by
  refine returnsInHanded_of_change_and (C := Tryz.checked) (X := fun w _ => laidMetH Tryz.prog Rows.computeTellsRow.laid w) (fun _ _ _ hh h => h.of_heap hh) ownK started (by kernel_rfl) Tryz.func3
    (ChangeSpec.witness_shaped (enc := enc) (C := Tryz.checked) (os := os) (X := fun w _ => laidMetH Tryz.prog Rows.computeTellsRow.laid w) false (World.doorLaid Tryz.prog 400 os) #[.int .i64 0, .agg #[.int .u64 0, .int .u64 0, .int .u64 0, .int .u64 0], .agg #[.int .u64 0, .int .u64 0, .int .u64 0, .int .u64 0], .agg #[.int .u64 0, .int .u64 0, .int .u64 0, .int .u64 0], .int .i64 0, .bool false] 8 rfl (World.shaped_of_RefB (by kernel_rfl) (by kernel_rfl)) (by kernel_rfl) (by kernel_rfl) (by kernel_rfl) (doorMet os _)) ?_
  intro W base args ds gs before hval hW _ hwt hL _
  have hW' := hW
  obtain ⟨p, q, hA, hV, rfl, hfz, hnd⟩ := hW
  obtain ⟨rfl, rfl⟩ := trodVars_none hV
  have hA' : DataW.TrodAll enc Tryz.prog W 0 (fun _ => true) true Tryz.f3.params.toList args.toList ds p := hA
  rw [Tryz.params3] at hA'
  rw [Tryz.params3] at hval
  obtain ⟨v0, vs0, d0, ds0, p0, e0, ha0, rfl, rfl, g0, r0⟩ := trodAll_cons hA'
  obtain ⟨v1, vs1, d1, ds1, p1, e1, rfl, rfl, rfl, g1, r1⟩ := trodAll_cons r0
  obtain ⟨v2, vs2, d2, ds2, p2, e2, rfl, rfl, rfl, g2, r2⟩ := trodAll_cons r1
  obtain ⟨v3, vs3, d3, ds3, p3, e3, rfl, rfl, rfl, g3, r3⟩ := trodAll_cons r2
  obtain ⟨v4, vs4, d4, ds4, p4, e4, rfl, rfl, rfl, g4, r4⟩ := trodAll_cons r3
  obtain ⟨v5, vs5, d5, ds5, p5, e5, rfl, rfl, rfl, g5, r5⟩ := trodAll_cons r4
  obtain ⟨rfl, rfl, rfl⟩ := trodAll_nil r5
  obtain rfl : args = #[v0, v1, v2, v3, v4, v5] := by cases args; simp_all
  obtain ⟨x0, hn0, on0⟩ := rdInt.arg g0 (wt_of hwt 0 rfl rfl) (by decide) (fun _ => okWide_int (k := .i64) (by kernel_rfl) (hval 0 _ _ rfl rfl))
  obtain ⟨_, rfl, rfl⟩ := hn0
  obtain ⟨x1, rx1, -⟩ := rdWord.arg g1 (wt_of hwt 1 rfl rfl) (by decide) (fun h => by cases h)
  obtain rfl : v1 = x1.v := Rp.flat.1 rx1
  obtain ⟨x2, rx2, -⟩ := rdWord.arg g2 (wt_of hwt 2 rfl rfl) (by decide) (fun h => by cases h)
  obtain rfl : v2 = x2.v := Rp.flat.1 rx2
  obtain ⟨x3, rx3, -⟩ := rdWord.arg g3 (wt_of hwt 3 rfl rfl) (by decide) (fun h => by cases h)
  obtain rfl : v3 = x3.v := Rp.flat.1 rx3
  obtain ⟨x4, hn4, on4⟩ := rdInt.arg g4 (wt_of hwt 4 rfl rfl) (by decide) (fun _ => okWide_int (k := .i64) (by kernel_rfl) (hval 4 _ _ rfl rfl))
  obtain ⟨_, rfl, rfl⟩ := hn4
  obtain ⟨x5, hn5, -⟩ := rdBool.arg g5 (wt_of hwt 5 rfl rfl) (by decide) (fun _ cs h => by obtain ⟨z, hb⟩ := okWide_bool (by kernel_rfl) (hval 5 _ _ rfl rfl); have hb : v5 = .bool z := hb; rw [hb] at h; cases h)
  obtain ⟨_, rfl, rfl⟩ := hn5
  refine (Fn.below (tells_walk x0 x1 x2 x3 x4 x5 on0.1 on4.1) W (List.forall_mem_nil _)).mono ?_
  rintro e W' ⟨u, Φ', M', rfl, ⟨rfl, rfl, rfl⟩, hb⟩
  exact ⟨_, rfl, law_post laidO (by kernel_rfl) rfl rfl (by kernel_rfl) Tryz.underlying4 hW' hb⟩

theorem row_holds : Rows.ComputeTellsSaid :=
  OpenClaim.holds_of_wide 3 Tryz.f3 rfl rfl rfl rfl rfl rfl rfl ⟨rfl, rfl, rfl, rfl, rfl⟩ rfl rfl rfl rfl rfl (by kernel_rfl) Tryz.func3 (by kernel_rfl)
    (of_decide_eq_true (by kernel_rfl)) (by unfold Func.isWrapper; first | (rw [if_pos (by decide +kernel)]; kernel_rfl) | (rw [if_neg (by decide +kernel)]; exact ⟨rfl, rfl⟩))
    (fun os started H enc _ => lifted os started H enc)
theorem ctells_holds : Rows.ComputeTellsCardSaid :=
  Claim7.holds_tied_plain_at .later [] Rows.computeTellsCard.laidKinds true Rows.computeTellsCard.stood.harness false
    row_holds (fun _ h => by cases h) (by kernel_rfl) (fun _ h => by cases h) computeTells_row_tie rfl ⟨rfl, rfl⟩ (by kernel_rfl) rfl
    (fun f fn hf hfn => by
      obtain rfl : f = 3 := Option.some.inj ((show Tryz.prog.funcNamed "railhead/railheadlaw16.ComputeTells" = some 3 by kernel_rfl).symm.trans hf) |>.symm
      obtain rfl : fn = Tryz.f3 := (Option.some.inj (Tryz.func3.symm.trans hfn)).symm
      exact ⟨by kernel_rfl, fun j t ht => by
        rw [Tryz.params3] at ht
        have hm : t ∈ Tryz.f3.params.toList := by rw [Tryz.params3]; simpa using Array.mem_of_getElem? ht
        have hall : (Tryz.f3.params.toList.all fun u => !Tryz.prog.wantsStandIn u) = true := by kernel_rfl
        exact (show Tryz.prog.wantsStandIn t = false by simpa using List.all_eq_true.1 hall t hm)⟩)
    (by kernel_rfl)
end Go.Proofs.YtomifglegeelaaaGreatDoor
