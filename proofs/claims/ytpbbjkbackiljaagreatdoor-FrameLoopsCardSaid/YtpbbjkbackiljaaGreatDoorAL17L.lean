/- FrameLoops: the walk. -/
import Derived.Test.YtpbbjkbackiljaaGreatDoorAFSP3
import Derived.Test.YtpbbjkbackiljaaGreatDoorAP4
import Derived.Test.YtpbbjkbackiljaaGreatDoorAD5DA
import Derived.Test.YtpbbjkbackiljaaGreatDoorAOneOrd
set_option linter.unusedSimpArgs false
set_option linter.unusedVariables false
namespace Go.Rail
open Go Go.Proofs
set_option maxHeartbeats 400000
set_option maxRecDepth 4000
attribute [local irreducible] OpK G W LW wpListIn Exit.then Exit.inBlock Post rounds opRun bodyPostM intOp
set_option maxHeartbeats 2000000
theorem loops17_walk (rounds gas : Int) (hr : -9223372036854775808 ≤ rounds) (hg : -9223372036854775808 ≤ gas) :
    FnV Tryz.prog 8 [.int .i64 rounds, .int .i64 gas] [fKc] (.bool true) := by
  have c1 := awake17_spec
  have c2 := pick17_spec rounds 60 hr (by decide)
  have c3 := pick17_spec gas 4000 hg (by decide)
  have p2 := pickI_nn rounds 60 (by decide)
  have p3 := pickI_nn gas 4000 (by decide)
  generalize pickI gas 4000 = g at c3 p3
  obtain ⟨n, hn⟩ : ∃ n : Nat, (n : Int) = 1 + pickI rounds 60 := ⟨(1 + pickI rounds 60).toNat, by omega⟩
  generalize pickI rounds 60 = k at *
  have n1 : 1 ≤ n := by omega
  have n2 : n ≤ 60 := by omega
  have hRt : Rt (bgF (loopC n) [] g) := lp_Rt (by decide) (by decide) (Nat.zero_le _) (.inl rfl) (by omega) (by omega)
  have c4 := begin_spec (loopC n) [] g (right_Rt.2 hRt)
  have c5 := fun w => fRun_spec (bgF (loopC n) [] g) w 5000 (by decide) hRt
  have hrun : ((21 + 38 * n : Int) ≤ g → runL keccakL 5000 (bgF (loopC n) [] g) = (lpEnd n (g - (21 + 38 * n)), 9 + 11 * n)) ∧ (g < 21 + 38 * n → (runL keccakL 5000 (bgF (loopC n) [] g)).1.status = 4 ∧ (runL keccakL 5000 (bgF (loopC n) [] g)).1.errno = 43 ∧ (runL keccakL 5000 (bgF (loopC n) [] g)).1.gas = 0) :=
    lp_run keccakL n1 n2 (x := g) (by omega) (by omega)
  generalize runL keccakL 5000 (bgF (loopC n) [] g) = R at c5 hrun
  obtain ⟨R1, steps⟩ := R
  have cO := of_spec (3 * (n : Int))
  have cB := rbytes_spec (Word.of (3 * (n : Int)))
  have hnum : (Word.of (3 * (n : Int))).num = 3 * n := by
    rw [show 3 * (n : Int) = ((3 * n : Nat) : Int) from by omega, of_nat0 (3 * n) (by omega), nat_num (by omega)]
  rw [hnum] at cB
  refine Fn.enter Tryz.func8 rfl Tryz.ntmps8 (by simp) (fun I0 w0 => ?_)
  repeat (first | (refine sty ?_; try intro _) | (refine st ?_; try intro _) | (refine stz ?_; try intro _) | (refine stq ?_; try intro _))
  refine o_callV rfl rfl rfl rfl c1 rfl ?_
  repeat (first | (refine sty ?_; try intro _) | (refine st ?_; try intro _) | (refine stz ?_; try intro _) | (refine stq ?_; try intro _))
  refine o_callV rfl rfl rfl rfl c2 rfl ?_
  repeat (first | (refine sty ?_; try intro _) | (refine st ?_; try intro _) | (refine stz ?_; try intro _) | (refine stq ?_; try intro _))
  rw [← hn]
  repeat (first | (refine sty ?_; try intro _) | (refine st ?_; try intro _) | (refine stz ?_; try intro _) | (refine stq ?_; try intro _))
  refine o_litV (xs := [UInt8.ofNat n]) rfl rfl rfl (.cons (u8v n (by omega)) .nil) inferInstance inferInstance rfl rfl ?_
  intro v
  repeat (first | (refine sty ?_; try intro _) | (refine st ?_; try intro _) | (refine stz ?_; try intro _) | (refine stq ?_; try intro _))
  refine o_catT (l := [0x5f, 0x60]) (m := [UInt8.ofNat n]) rfl rfl rfl rfl (by show 3 < _; decide) ?_
  repeat (first | (refine sty ?_; try intro _) | (refine st ?_; try intro _) | (refine stz ?_; try intro _) | (refine stq ?_; try intro _))
  refine o_catT (l := [0x5f, 0x60] ++ [UInt8.ofNat n]) (m := [0x5b, 0x5b, 0x90, 0x60, 0x03, 0x01, 0x90, 0x60, 0x01, 0x90, 0x03, 0x80, 0x60, 0x04, 0x57, 0x50, 0x5f, 0x52, 0x60, 0x20, 0x5f, 0xf3]) rfl rfl rfl rfl (by show 25 < _; decide) ?_
  rw [show [0x5f, 0x60] ++ [UInt8.ofNat n] ++ [0x5b, 0x5b, 0x90, 0x60, 0x03, 0x01, 0x90, 0x60, 0x01, 0x90, 0x03, 0x80, 0x60, 0x04, 0x57, 0x50, 0x5f, 0x52, 0x60, 0x20, 0x5f, 0xf3] = loopC n from rfl]
  repeat (first | (refine sty ?_; try intro _) | (refine st ?_; try intro _) | (refine stz ?_; try intro _) | (refine stq ?_; try intro _))
  refine o_callV rfl rfl rfl rfl c3 rfl ?_
  repeat (first | (refine sty ?_; try intro _) | (refine st ?_; try intro _) | (refine stz ?_; try intro _) | (refine stq ?_; try intro _))
  refine o_callV rfl rfl rfl rfl c4 rfl ?_
  refine G.learn (fRp (.slice none 0 0) (bgF (loopC n) [] g).stack) (e := ⟨fun I hp => Rp.nil none 0⟩) ?_
  repeat (first | (refine sty ?_; try intro _) | (refine st ?_; try intro _) | (refine stz ?_; try intro _) | (refine stq ?_; try intro _))
  refine OpK.call rfl rfl rfl rfl (c5 _) inferInstance (Mr := _) (List.Perm.refl _) ?_
  rintro u Φ' Mc' ⟨a2, k2, rfl, rfl, rfl⟩
  dsimp only [List.cons_append, List.nil_append]
  by_cases hlt : g < 21 + 38 * n
  · obtain ⟨s1, s2, s3⟩ := hrun.2 hlt
    dsimp only at s1 s2 s3
    repeat (first | (refine sty ?_; try intro _) | (refine st ?_; try intro _) | (refine stz ?_; try intro _) | (refine stq ?_; try intro _))
    refine G.retV ?_
    rfl
  · have e := hrun.1 (by omega)
    obtain ⟨rfl, rfl⟩ := Prod.mk.inj e
    repeat (first | (refine sty ?_; try intro _) | (refine st ?_; try intro _) | (refine stz ?_; try intro _) | (refine stq ?_; try intro _))
    refine W.drawA 29 (dq _ :: dq _ :: dq _ :: dq _ :: dq _ :: dq _ :: dq _ :: dq _ :: dq _ :: dq _ :: dq _ :: dq _ :: dq _ :: dq _ :: dq _ :: dq _ :: dq _ :: dq _ :: dq _ :: dq _ :: dq _ :: dq _ :: dq _ :: dq _ :: dq _ :: dq _ :: dq _ :: dq _ :: dq _ :: []) ([] :: [0] :: [1] :: [1,2] :: [1,3] :: [1,4] :: [5] :: [6] :: [6,7] :: [6] :: [6,9] :: [6,10] :: [6,11] :: [6,8,12] :: [6,13] :: [14] :: [15] :: [15,16] :: [15] :: [15] :: [15,18,19] :: [15,17,20] :: [15,21] :: [22] :: [23] :: [23] :: [23,25] :: [23,26] :: [23,27] :: []) [23, 24, 28] (hrest := fun c => nrm ?_) (hops := by
      iterate 11 refine AllQ.aq ?_
      refine AllQ.mk (by intro c z0 Φr Lr K; refine nrm ?_; intro hK; refine o_callV rfl rfl rfl rfl cO rfl ?_; exact hK z0) ?_
      refine AllQ.mk (by intro c z0 Φr Lr K; refine nrm ?_; intro hK; refine o_callV rfl rfl rfl rfl cB rfl ?_; exact hK z0) ?_
      refine AllQ.mk (by intro c z0 Φr Lr K; refine nrm ?_; intro hK; refine o_eqT rfl rfl rfl rfl (decide_eq_true rfl) ?_; exact hK z0) ?_
      iterate 15 refine AllQ.aq ?_
      exact AllQ.nil)
    repeat (first | (refine sty ?_; try intro _) | (refine st ?_; try intro _) | (refine stz ?_; try intro _) | (refine stq ?_; try intro _))
    refine G.retV ?_
    rfl
end Go.Rail
