/- FrameEnds: for every input the law returns true, and each argument reads behind the call as it read before. No condition but that listed variables of the library hold what the program's text lays (tied). -/
import Derived.Test.YtpbbjkbackiljaaGreatDoorAL17PG3
import Derived.Test.YtpbbjkbackiljaaGreatDoorRailD
import Derived.HandedShaped
import Derived.ProofKit
import Derived.LaidMore
import Derived.OpenShut
import Derived.SevenTiedAt
import Derived.Lay
import Derived.Test.YtpbbjkbackiljaaGreatDoorRows
import Derived.Test.YtpbbjkbackiljaaGreatDoorCards
import Derived.Test.YtpbbjkbackiljaaGreatDoorTie
namespace Go.Proofs.YtpbbjkbackiljaaGreatDoor
open Go Go.Rail Go.ChangeShapes Go.WideShapes Go.ChangeAt Go.RowKit
set_option linter.unusedVariables false
set_option linter.unusedSimpArgs false
theorem ownK : ownKnob Tryz.prog.godebug = none := by kernel_rfl
theorem laidO : laidOutB Tryz.prog = true := by kernel_rfl
theorem rdInt : RdH Tryz.prog 3 Int (fun n => -9223372036854775808 ≤ n ∧ n ≤ 9223372036854775807) := RdH.int (by kernel_rfl)
theorem rdPair : RdH Tryz.prog 45 (Int × Int) okR := RdH.pair (e := 3) (by kernel_rfl) (by kernel_rfl) (by kernel_rfl) (by kernel_rfl)
theorem rdRaw : RdH Tryz.prog 22 (List (Int × Int)) (fun xs => xs.length ≤ reachBytes ∧ ∀ a ∈ xs, okR a) := RdH.slice (e := 45) (by kernel_rfl) (by kernel_rfl) (by decide) (of_decide_eq_true (by kernel_rfl)) rdPair
theorem rdStr : RdH Tryz.prog 9 ByteArray (fun s => s.data.toList.length ≤ reachBytes) := RdH.str (by kernel_rfl)
set_option maxRecDepth 100000
theorem doorMet (os : Os) (args : Array Value) : laidMetH Tryz.prog Rows.frameEndsRow.laid ((World.laidAll Tryz.prog os Rows.frameEndsRow.laid).forCall (fun _ _ => 0) ⟨#[], args, []⟩).memory :=
  laidMetH_of_parts3 (fuel := 8) (by rw [show (Rows.frameEndsRow.laid.filter fun x => x.2.handleName?.isNone) = Rows.frameEndsRow.laid from by kernel_rfl]; exact laidMet_laidAll _ (by kernel_rfl) (by kernel_rfl)) (by kernel_rfl) (by kernel_rfl)
theorem lifted (os : Os) (started : os.Started) (H : Type) (enc : TypeId × Value → H) :
    ReturnsInHanded {} Tryz.checked os 4 .any (fun w args => (Rows.frameEndsSpec.pre enc Tryz.prog Tryz.f4 [] false w args ∧ laidMetH Tryz.prog Rows.frameEndsRow.laid w) ∧ sizedMet enc Tryz.prog Tryz.f4 (OpenSpec.ofChange Rows.frameEndsSpec) false w args)
      (Rows.frameEndsSpec.post enc Tryz.prog Tryz.f4 false true false false) := by
  refine returnsInHanded_of_change_and (C := Tryz.checked) (X := fun w _ => laidMetH Tryz.prog Rows.frameEndsRow.laid w) (fun _ _ _ hh h => h.of_heap hh) ownK started (by kernel_rfl) Tryz.func4
    (ChangeSpec.witness_shaped (enc := enc) (C := Tryz.checked) (os := os) (X := fun w _ => laidMetH Tryz.prog Rows.frameEndsRow.laid w) false (World.laidAll Tryz.prog os Rows.frameEndsRow.laid) #[.slice none 0 0, .string ⟨#[]⟩, .string ⟨#[]⟩, .int .i64 0] 8 rfl (World.shaped_of_ZipB (by kernel_rfl) (by kernel_rfl)) (by kernel_rfl) (by kernel_rfl) (by kernel_rfl) (doorMet os _)) ?_
  intro W base args ds gs before hval hW _ hwt hL _
  have hW' := hW
  obtain ⟨p, q, hA, hV, rfl, hfz, hnd⟩ := hW
  obtain ⟨rfl, rfl⟩ := trodVars_none hV
  have hA' : DataW.TrodAll enc Tryz.prog W 0 (fun _ => true) true Tryz.f4.params.toList args.toList ds p := hA
  rw [Tryz.params4] at hA'
  rw [Tryz.params4] at hval
  obtain ⟨v0, vs0, d0, ds0, p0, e0, ha0, rfl, rfl, g0, r0⟩ := trodAll_cons hA'
  obtain ⟨v1, vs1, d1, ds1, p1, e1, rfl, rfl, rfl, g1, r1⟩ := trodAll_cons r0
  obtain ⟨v2, vs2, d2, ds2, p2, e2, rfl, rfl, rfl, g2, r2⟩ := trodAll_cons r1
  obtain ⟨v3, vs3, d3, ds3, p3, e3, rfl, rfl, rfl, g3, r3⟩ := trodAll_cons r2
  obtain ⟨rfl, rfl, rfl⟩ := trodAll_nil r3
  obtain rfl : args = #[v0, v1, v2, v3] := by cases args; simp_all
  obtain ⟨q0, rx0, on0⟩ := rdRaw.arg g0 (wt_of hwt 0 rfl rfl) (by decide) (fun _ => okWide_slice (e := 45) (by kernel_rfl) (hval 0 _ _ rfl rfl))
  obtain ⟨x1, hn1, on1⟩ := rdStr.arg g1 (wt_of hwt 1 rfl rfl) (by decide) (fun _ => okWide_str (by kernel_rfl) (hval 1 _ _ rfl rfl))
  obtain ⟨_, rfl, rfl⟩ := hn1
  obtain ⟨x2, hn2, on2⟩ := rdStr.arg g2 (wt_of hwt 2 rfl rfl) (by decide) (fun _ => okWide_str (by kernel_rfl) (hval 2 _ _ rfl rfl))
  obtain ⟨_, rfl, rfl⟩ := hn2
  obtain ⟨x3, hn3, on3⟩ := rdInt.arg g3 (wt_of hwt 3 rfl rfl) (by decide) (fun _ => okWide_int (k := .i64) (by kernel_rfl) (hval 3 _ _ rfl rfl))
  obtain ⟨_, rfl, rfl⟩ := hn3
  have hkc : fKc.p (fun b => W.heap[b]?) := by
    obtain ⟨t', ht'⟩ := laid_ints (n := "railhead/keccak.constants") (ns := kcL.map fun (n : Nat) => (n : Int)) (k := .u64) (m := 24) (e := 47) hL (by kernel_rfl) (List.mem_of_getElem? (i := 4) (by kernel_rfl)) (g := 0) (t := 276) (by kernel_rfl) (by kernel_rfl) (by kernel_rfl) (by kernel_rfl) (by kernel_rfl) (by kernel_rfl) (by decide)
    exact ⟨t', ht'⟩
  refine (Fn.below (ends17_walk v0 q0 x1.data.toList x2.data.toList x3 on0.2 (by have := on2; unfold reachBytes at this; omega) (by have := on1; unfold reachBytes at this; omega) on3.1) W (List.forall_mem_cons.2 ⟨rx0, (List.forall_mem_cons.2 ⟨hkc, (List.forall_mem_nil _)⟩)⟩)).mono ?_
  rintro e W' ⟨u, Φ', M', rfl, ⟨rfl, rfl, rfl⟩, hb⟩
  exact ⟨_, rfl, law_post laidO (by kernel_rfl) rfl rfl (by kernel_rfl) Tryz.underlying4 hW' hb⟩

theorem and_of {a b : Bool} (h : a = true) (k : b = true) : (a && b) = true := by rw [h, k]; rfl
set_option maxHeartbeats 4000000
theorem jfacts : joinedFacts Tryz.prog 4 Tryz.f4 Rows.frameEndsSpec Rows.frameEndsRow = true := by
  unfold joinedFacts
  iterate 31 (refine and_of ?_ (by as_aux_lemma => kernel_rfl))
  as_aux_lemma => kernel_rfl
theorem row_holds : Rows.FrameEndsSaid :=
  OpenClaim.holds_of_wide 4 Tryz.f4 rfl rfl rfl rfl rfl rfl rfl ⟨rfl, rfl, rfl, rfl, rfl⟩ rfl rfl rfl rfl rfl (by as_aux_lemma => kernel_rfl) Tryz.func4 (jfacts)
    (of_decide_eq_true (by kernel_rfl)) (by unfold Func.isWrapper; first | (rw [if_pos (by decide +kernel)]; kernel_rfl) | (rw [if_neg (by decide +kernel)]; exact ⟨rfl, rfl⟩))
    (fun os started H enc _ => lifted os started H enc)
theorem fends_holds : Rows.FrameEndsCardSaid :=
  Claim7.holds_tied_plain_at .later [] Rows.frameEndsCard.laidKinds true Rows.frameEndsCard.stood.harness false
    row_holds (fun _ h => by cases h) (by as_aux_lemma => kernel_rfl) (fun _ h => by cases h) frameEnds_row_tie rfl ⟨rfl, rfl⟩ (by as_aux_lemma => kernel_rfl) rfl
    (fun f fn hf hfn => by
      obtain rfl : f = 4 := Option.some.inj ((show Tryz.prog.funcNamed "railhead/railheadlaw17.FrameEnds" = some 4 by kernel_rfl).symm.trans hf) |>.symm
      obtain rfl : fn = Tryz.f4 := (Option.some.inj (Tryz.func4.symm.trans hfn)).symm
      exact ⟨by kernel_rfl, fun j t ht => by
        rw [Tryz.params4] at ht
        have hm : t ∈ Tryz.f4.params.toList := by rw [Tryz.params4]; simpa using Array.mem_of_getElem? ht
        have hall : (Tryz.f4.params.toList.all fun u => !Tryz.prog.wantsStandIn u) = true := by kernel_rfl
        exact (show Tryz.prog.wantsStandIn t = false by simpa using List.all_eq_true.1 hall t hm)⟩)
    (by as_aux_lemma => kernel_rfl)
end Go.Proofs.YtpbbjkbackiljaaGreatDoor
