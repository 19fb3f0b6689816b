/- OpcodeJumps: for every input the law returns true, and each argument reads behind the call as it read before. No condition but that listed variables of the library hold what the program's text lays (tied). -/
import Derived.Test.YtkocobiglipecaaDoorAL14J
import Derived.Test.YtkocobiglipecaaDoorRailD
import Derived.HandedShaped
import Derived.ProofKit
import Derived.LaidMore
import Derived.OpenShut
import Derived.SevenTiedAt
import Derived.Lay
import Derived.Test.YtkocobiglipecaaDoorRows
import Derived.Test.YtkocobiglipecaaDoorCards
import Derived.Test.YtkocobiglipecaaDoorTie
namespace Go.Proofs.YtkocobiglipecaaDoor
open Go Go.Rail Go.ChangeShapes Go.WideShapes Go.ChangeAt Go.RowKit
set_option linter.unusedVariables false
set_option linter.unusedSimpArgs false
theorem ownK : ownKnob Tryd.prog.godebug = none := by kernel_rfl
theorem laidO : laidOutB Tryd.prog = true := by kernel_rfl
theorem rdPair : RdH Tryd.prog 49 (Int × Int) okR := RdH.pair (e := 3) (by kernel_rfl) (by kernel_rfl) (by kernel_rfl) (by kernel_rfl)
theorem rdRaw : RdH Tryd.prog 22 (List (Int × Int)) (fun xs => xs.length ≤ reachBytes ∧ ∀ a ∈ xs, okR a) := RdH.slice (e := 49) (by kernel_rfl) (by kernel_rfl) (by decide) (of_decide_eq_true (by kernel_rfl)) rdPair
set_option maxRecDepth 100000
theorem doorMet (os : Os) (args : Array Value) : laidMetH Tryd.prog Rows.opcodeJumpsRow.laid ((World.laidAll Tryd.prog os Rows.opcodeJumpsRow.laid).forCall (fun _ _ => 0) ⟨#[], args, []⟩).memory :=
  laidMetH_of_parts3 (fuel := 8) (by rw [show (Rows.opcodeJumpsRow.laid.filter fun x => x.2.handleName?.isNone) = Rows.opcodeJumpsRow.laid from by kernel_rfl]; exact laidMet_laidAll _ (by kernel_rfl) (by kernel_rfl)) (by kernel_rfl) (by kernel_rfl)
theorem lifted (os : Os) (started : os.Started) (H : Type) (enc : TypeId × Value → H) :
    ReturnsInHanded {} Tryd.checked os 4 .any (fun w args => (Rows.opcodeJumpsSpec.pre enc Tryd.prog Tryd.f4 [] false w args ∧ laidMetH Tryd.prog Rows.opcodeJumpsRow.laid w) ∧ sizedMet enc Tryd.prog Tryd.f4 (OpenSpec.ofChange Rows.opcodeJumpsSpec) false w args)
      (Rows.opcodeJumpsSpec.post enc Tryd.prog Tryd.f4 false true false false) := by
  refine returnsInHanded_of_change_and (C := Tryd.checked) (X := fun w _ => laidMetH Tryd.prog Rows.opcodeJumpsRow.laid w) (fun _ _ _ hh h => h.of_heap hh) ownK started (by kernel_rfl) Tryd.func4
    (ChangeSpec.witness_shaped (enc := enc) (C := Tryd.checked) (os := os) (X := fun w _ => laidMetH Tryd.prog Rows.opcodeJumpsRow.laid w) false (World.laidAll Tryd.prog os Rows.opcodeJumpsRow.laid) #[.slice none 0 0, .slice none 0 0] 8 rfl (World.shaped_of_ZipB (by kernel_rfl) (by kernel_rfl)) (by kernel_rfl) (by kernel_rfl) (by kernel_rfl) (doorMet os _)) ?_
  intro W base args ds gs before hval hW _ hwt hL _
  have hW' := hW
  obtain ⟨p, q, hA, hV, rfl, hfz, hnd⟩ := hW
  obtain ⟨rfl, rfl⟩ := trodVars_none hV
  have hA' : DataW.TrodAll enc Tryd.prog W 0 (fun _ => true) true Tryd.f4.params.toList args.toList ds p := hA
  rw [Tryd.params4] at hA'
  rw [Tryd.params4] at hval
  obtain ⟨v0, vs0, d0, ds0, p0, e0, ha0, rfl, rfl, g0, r0⟩ := trodAll_cons hA'
  obtain ⟨v1, vs1, d1, ds1, p1, e1, rfl, rfl, rfl, g1, r1⟩ := trodAll_cons r0
  obtain ⟨rfl, rfl, rfl⟩ := trodAll_nil r1
  obtain rfl : args = #[v0, v1] := by cases args; simp_all
  obtain ⟨q0, rx0, on0⟩ := rdRaw.arg g0 (wt_of hwt 0 rfl rfl) (by decide) (fun _ => okWide_slice (e := 49) (by kernel_rfl) (hval 0 _ _ rfl rfl))
  obtain ⟨q1, rx1, on1⟩ := rdRaw.arg g1 (wt_of hwt 1 rfl rfl) (by decide) (fun _ => okWide_slice (e := 49) (by kernel_rfl) (hval 1 _ _ rfl rfl))
  refine (Fn.below (jumps_walk v0 v1 q0 q1 on0.2 on1.2) W (List.forall_mem_cons.2 ⟨rx0, (List.forall_mem_cons.2 ⟨rx1, (List.forall_mem_nil _)⟩)⟩)).mono ?_
  rintro e W' ⟨u, Φ', M', rfl, ⟨rfl, rfl, rfl⟩, hb⟩
  exact ⟨_, rfl, law_post laidO (by kernel_rfl) rfl rfl (by kernel_rfl) Tryd.underlying4 hW' hb⟩

theorem row_holds : Rows.OpcodeJumpsSaid :=
  OpenClaim.holds_of_wide 4 Tryd.f4 rfl rfl rfl rfl rfl rfl rfl ⟨rfl, rfl, rfl, rfl, rfl⟩ rfl rfl rfl rfl rfl (by kernel_rfl) Tryd.func4 (by kernel_rfl)
    (of_decide_eq_true (by kernel_rfl)) (by unfold Func.isWrapper; first | (rw [if_pos (by decide +kernel)]; kernel_rfl) | (rw [if_neg (by decide +kernel)]; exact ⟨rfl, rfl⟩))
    (fun os started H enc _ => lifted os started H enc)
theorem ojumps_holds : Rows.OpcodeJumpsCardSaid :=
  Claim7.holds_tied_plain_at .later [] Rows.opcodeJumpsCard.laidKinds true Rows.opcodeJumpsCard.stood.harness false
    row_holds (fun _ h => by cases h) (by kernel_rfl) (fun _ h => by cases h) opcodeJumps_row_tie rfl ⟨rfl, rfl⟩ (by kernel_rfl) rfl
    (fun f fn hf hfn => by
      obtain rfl : f = 4 := Option.some.inj ((show Tryd.prog.funcNamed "railhead/railheadlaw14.OpcodeJumps" = some 4 by kernel_rfl).symm.trans hf) |>.symm
      obtain rfl : fn = Tryd.f4 := (Option.some.inj (Tryd.func4.symm.trans hfn)).symm
      exact ⟨by kernel_rfl, fun j t ht => by
        rw [Tryd.params4] at ht
        have hm : t ∈ Tryd.f4.params.toList := by rw [Tryd.params4]; simpa using Array.mem_of_getElem? ht
        have hall : (Tryd.f4.params.toList.all fun u => !Tryd.prog.wantsStandIn u) = true := by kernel_rfl
        exact (show Tryd.prog.wantsStandIn t = false by simpa using List.all_eq_true.1 hall t hm)⟩)
    (by kernel_rfl)
end Go.Proofs.YtkocobiglipecaaDoor
