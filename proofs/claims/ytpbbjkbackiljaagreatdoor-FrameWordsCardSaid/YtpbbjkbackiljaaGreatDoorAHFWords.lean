/- FrameWords: for every input the law returns true, and each argument reads behind the call as it read before. No condition but that listed variables of the library hold what the program's text lays (tied). -/
import Derived.Test.YtpbbjkbackiljaaGreatDoorAL17W
import Derived.Test.YtpbbjkbackiljaaGreatDoorRailD
import Derived.HandedShaped
import Derived.ProofKit
import Derived.LaidMore
import Derived.OpenShut
import Derived.SevenTiedAt
import Derived.Lay
import Derived.Test.YtpbbjkbackiljaaGreatDoorRows
import Derived.Test.YtpbbjkbackiljaaGreatDoorCards
import Derived.Test.YtpbbjkbackiljaaGreatDoorTie
set_option linter.unusedSimpArgs false
set_option linter.unusedVariables false
namespace Go.Proofs.YtpbbjkbackiljaaGreatDoor
open Go Go.Rail Go.ChangeShapes Go.WideShapes Go.ChangeAt Go.RowKit
theorem ownK : ownKnob Tryz.prog.godebug = none := by kernel_rfl
theorem laidO : laidOutB Tryz.prog = true := by kernel_rfl
theorem rdPair : RdH Tryz.prog 45 (Int × Int) okR := RdH.pair (e := 3) (by kernel_rfl) (by kernel_rfl) (by kernel_rfl) (by kernel_rfl)
theorem rdRaw : RdH Tryz.prog 22 (List (Int × Int)) (fun xs => xs.length ≤ reachBytes ∧ ∀ a ∈ xs, okR a) := RdH.slice (e := 45) (by kernel_rfl) (by kernel_rfl) (by decide) (of_decide_eq_true (by kernel_rfl)) rdPair
set_option maxRecDepth 100000
theorem doorMet (os : Os) (args : Array Value) : laidMetH Tryz.prog Rows.frameWordsRow.laid ((World.laidAll Tryz.prog os Rows.frameWordsRow.laid).forCall (fun _ _ => 0) ⟨#[], args, []⟩).memory :=
  laidMetH_of_parts3 (fuel := 8) (by rw [show (Rows.frameWordsRow.laid.filter fun x => x.2.handleName?.isNone) = Rows.frameWordsRow.laid from by kernel_rfl]; exact laidMet_laidAll _ (by kernel_rfl) (by kernel_rfl)) (by kernel_rfl) (by kernel_rfl)
theorem lifted (os : Os) (started : os.Started) (H : Type) (enc : TypeId × Value → H) :
    ReturnsInHanded {} Tryz.checked os 7 .any (fun w args => (Rows.frameWordsSpec.pre enc Tryz.prog Tryz.f7 [] false w args ∧ laidMetH Tryz.prog Rows.frameWordsRow.laid w) ∧ sizedMet enc Tryz.prog Tryz.f7 (OpenSpec.ofChange Rows.frameWordsSpec) false w args)
      (Rows.frameWordsSpec.post enc Tryz.prog Tryz.f7 false true false false) := by
  refine returnsInHanded_of_change_and (C := Tryz.checked) (X := fun w _ => laidMetH Tryz.prog Rows.frameWordsRow.laid w) (fun _ _ _ hh h => h.of_heap hh) ownK started (by kernel_rfl) Tryz.func7
    (ChangeSpec.witness_shaped (enc := enc) (C := Tryz.checked) (os := os) (X := fun w _ => laidMetH Tryz.prog Rows.frameWordsRow.laid w) false (World.laidAll Tryz.prog os Rows.frameWordsRow.laid) #[.slice none 0 0] 8 rfl (World.shaped_of_ZipB (by kernel_rfl) (by kernel_rfl)) (by kernel_rfl) (by kernel_rfl) (by kernel_rfl) (doorMet os _)) ?_
  intro W base args ds gs before hval hW _ hwt hL _
  have hW' := hW
  obtain ⟨p, q, hA, hV, rfl, hfz, hnd⟩ := hW
  obtain ⟨rfl, rfl⟩ := trodVars_none hV
  have hA' : DataW.TrodAll enc Tryz.prog W 0 (fun _ => true) true Tryz.f7.params.toList args.toList ds p := hA
  rw [Tryz.params7] at hA'
  rw [Tryz.params7] at hval
  obtain ⟨v0, vs0, d0, ds0, p0, e0, ha0, rfl, rfl, g0, r0⟩ := trodAll_cons hA'
  obtain ⟨rfl, rfl, rfl⟩ := trodAll_nil r0
  obtain rfl : args = #[v0] := by cases args; simp_all
  obtain ⟨q0, rx0, on0⟩ := rdRaw.arg g0 (wt_of hwt 0 rfl rfl) (by decide) (fun _ => okWide_slice (e := 45) (by kernel_rfl) (hval 0 _ _ rfl rfl))
  have hkc : fKc.p (fun b => W.heap[b]?) := by
    obtain ⟨t', ht'⟩ := laid_ints (n := "railhead/keccak.constants") (ns := kcL.map fun (n : Nat) => (n : Int)) (k := .u64) (m := 24) (e := 47) hL (by kernel_rfl) (List.mem_of_getElem? (i := 4) (by kernel_rfl)) (g := 0) (t := 276) (by kernel_rfl) (by kernel_rfl) (by kernel_rfl) (by kernel_rfl) (by kernel_rfl) (by kernel_rfl) (by decide)
    exact ⟨t', ht'⟩
  refine (Fn.below (words17_walk v0 q0 on0.2) W (List.forall_mem_cons.2 ⟨rx0, (List.forall_mem_cons.2 ⟨hkc, (List.forall_mem_nil _)⟩)⟩)).mono ?_
  rintro e W' ⟨u, Φ', M', rfl, ⟨rfl, rfl, rfl⟩, hb⟩
  exact ⟨_, rfl, law_post laidO (by kernel_rfl) rfl rfl (by kernel_rfl) Tryz.underlying4 hW' hb⟩

theorem and_of {a b : Bool} (h : a = true) (k : b = true) : (a && b) = true := by rw [h, k]; rfl
set_option maxHeartbeats 4000000
theorem jfacts : joinedFacts Tryz.prog 7 Tryz.f7 Rows.frameWordsSpec Rows.frameWordsRow = true := by
  unfold joinedFacts
  iterate 31 (refine and_of ?_ (by as_aux_lemma => kernel_rfl))
  as_aux_lemma => kernel_rfl
theorem row_holds : Rows.FrameWordsSaid :=
  OpenClaim.holds_of_wide 7 Tryz.f7 rfl rfl rfl rfl rfl rfl rfl ⟨rfl, rfl, rfl, rfl, rfl⟩ rfl rfl rfl rfl rfl (by as_aux_lemma => kernel_rfl) Tryz.func7 (jfacts)
    (of_decide_eq_true (by kernel_rfl)) (by unfold Func.isWrapper; first | (rw [if_pos (by decide +kernel)]; kernel_rfl) | (rw [if_neg (by decide +kernel)]; exact ⟨rfl, rfl⟩))
    (fun os started H enc _ => lifted os started H enc)
theorem fwords_holds : Rows.FrameWordsCardSaid :=
  Claim7.holds_tied_plain_at .later [] Rows.frameWordsCard.laidKinds true Rows.frameWordsCard.stood.harness false
    row_holds (fun _ h => by cases h) (by as_aux_lemma => kernel_rfl) (fun _ h => by cases h) frameWords_row_tie rfl ⟨rfl, rfl⟩ (by as_aux_lemma => kernel_rfl) rfl
    (fun f fn hf hfn => by
      obtain rfl : f = 7 := Option.some.inj ((show Tryz.prog.funcNamed "railhead/railheadlaw17.FrameWords" = some 7 by kernel_rfl).symm.trans hf) |>.symm
      obtain rfl : fn = Tryz.f7 := (Option.some.inj (Tryz.func7.symm.trans hfn)).symm
      exact ⟨by kernel_rfl, fun j t ht => by
        rw [Tryz.params7] at ht
        have hm : t ∈ Tryz.f7.params.toList := by rw [Tryz.params7]; simpa using Array.mem_of_getElem? ht
        have hall : (Tryz.f7.params.toList.all fun u => !Tryz.prog.wantsStandIn u) = true := by kernel_rfl
        exact (show Tryz.prog.wantsStandIn t = false by simpa using List.all_eq_true.1 hall t hm)⟩)
    (by as_aux_lemma => kernel_rfl)
end Go.Proofs.YtpbbjkbackiljaaGreatDoor
