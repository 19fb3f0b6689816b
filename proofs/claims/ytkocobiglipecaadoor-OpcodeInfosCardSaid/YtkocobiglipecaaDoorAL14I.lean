/- Layer 14: OpcodeInfos, walked. -/
import Derived.Test.YtkocobiglipecaaDoorABEBK
namespace Go.Rail
open Go Go.Proofs
set_option linter.unusedSimpArgs false
set_option linter.unusedVariables false
set_option maxHeartbeats 400000
set_option maxRecDepth 4000
attribute [local irreducible] OpK G W LW wpListIn Exit.then Exit.inBlock Post rounds opRun bodyPostM intOp
set_option maxHeartbeats 8000000
def rowX (n : Nat) : Row := (infoN n).getD noRow
def isX (n : Nat) : Bool := (infoN n).isSome
theorem infoV_X (n : Nat) : infoV n = .tuple #[rowV (rowX n), .bool (isX n)] := by
  unfold infoV rowX isX
  cases infoN n <;> rfl
/-- What is to be said of one row. -/
def chkI (n : Nat) : Bool := (decide (isX n = !(decide ((rowX n).name = []))) && decide ((rowX n).pops ≤ 17) && decide ((rowX n).pushes ≤ 17)) &&
  (if 96 ≤ n ∧ n ≤ 127 then isX n && decide ((rowX n).pops = 0) && decide ((rowX n).pushes = 1) && decide ((rowX n).gas = 3)
   else if 128 ≤ n ∧ n ≤ 143 then isX n && decide ((rowX n).pushes = (rowX n).pops + 1) && decide ((rowX n).pops = n - 127)
   else if 144 ≤ n ∧ n ≤ 159 then isX n && decide ((rowX n).pushes = (rowX n).pops) && decide ((rowX n).pops = n - 142)
   else decide ((rowX n).pushes ≤ 1) && decide ((rowX n).pops ≤ 7))
theorem chkI_all : ((List.range 256).all chkI) = true := by kernel_rfl
theorem nameX (n : Nat) (hn : n < 256) (h : isX n = true) : nameL (UInt8.ofNat n) = (rowX n).name := by
  unfold nameL rowX
  rw [show (UInt8.ofNat n).toNat = n from by rw [UInt8.toNat_ofNat']; omega]
  unfold isX at h
  cases hi : infoN n with
  | none => rw [hi] at h; cases h
  | some r => rfl
theorem name_iff (n m : Nat) (hn : n < 256) (hm : m < 256) (h1 : isX n = true) (h2 : isX m = true) : (rowX n).name = (rowX m).name ↔ n = m := by
  constructor
  · intro h
    exact name_inj n m hn hm (by rw [nameX n hn h1, nameX m hm h2, h])
  · intro h; rw [h]
theorem infos_walk (one two : Int) (h1 : -9223372036854775808 ≤ one) (h2 : -9223372036854775808 ≤ two) : FnV Tryd.prog 5 [.int .i64 one, .int .i64 two] [] (.bool true) := by
  have p1 := pickI_nn one 256 (by decide)
  have p2 := pickI_nn two 256 (by decide)
  have hp1 := pick14_spec one 256 h1 (by decide)
  have hp2 := pick14_spec two 256 h2 (by decide)
  obtain ⟨n, hn⟩ : ∃ n : Nat, pickI one 256 = (n : Int) := ⟨(pickI one 256).toNat, by omega⟩
  obtain ⟨m, hm⟩ : ∃ m : Nat, pickI two 256 = (m : Int) := ⟨(pickI two 256).toNat, by omega⟩
  rw [hn] at hp1
  rw [hm] at hp2
  have hn256 : n < 256 := by omega
  have hm256 : m < 256 := by omega
  have hi1 := info_spec n hn256
  have hi2 := info_spec m hm256
  rw [infoV_X] at hi1 hi2
  have hc := List.all_eq_true.1 chkI_all n (List.mem_range.2 hn256)
  have hnm := name_iff n m hn256 hm256
  unfold chkI at hc
  simp only [Bool.and_eq_true, decide_eq_true_eq] at hc
  obtain ⟨⟨⟨hname, hpo⟩, hpu⟩, hrg⟩ := hc
  generalize rowX n = r at hi1 hname hrg hnm hpo hpu
  generalize rowX m = q at hi2 hnm
  generalize isX n = b at hi1 hname hrg hnm
  generalize isX m = c at hi2 hnm
  obtain ⟨nm, po, pu, ga⟩ := r
  obtain ⟨nm2, po2, pu2, ga2⟩ := q
  dsimp only at hname hrg hnm hpo hpu
  unfold rowV at hi1 hi2
  dsimp only at hi1 hi2
  refine Fn.enter Tryd.func5 rfl Tryd.ntmps5 (by simp) (fun I0 w0 => ?_)
  repeat (first | (refine sty ?_; try intro _) | (refine st ?_; try intro _) | (refine stz ?_; try intro _) | (refine stq ?_; try intro _))
  refine o_callV rfl rfl rfl rfl awake14_spec rfl ?_
  repeat (first | (refine sty ?_; try intro _) | (refine st ?_; try intro _) | (refine stz ?_; try intro _) | (refine stq ?_; try intro _))
  refine o_callV rfl rfl rfl rfl hp1 rfl ?_
  repeat (first | (refine sty ?_; try intro _) | (refine st ?_; try intro _) | (refine stz ?_; try intro _) | (refine stq ?_; try intro _))
  refine o_callV rfl rfl rfl rfl hp2 rfl ?_
  repeat (first | (refine sty ?_; try intro _) | (refine st ?_; try intro _) | (refine stz ?_; try intro _) | (refine stq ?_; try intro _))
  refine o_callV rfl rfl rfl rfl hi1 rfl ?_
  repeat (first | (refine sty ?_; try intro _) | (refine st ?_; try intro _) | (refine stz ?_; try intro _) | (refine stq ?_; try intro _))
  refine o_callV rfl rfl rfl rfl hi2 rfl ?_
  repeat (first | (refine sty ?_; try intro _) | (refine st ?_; try intro _) | (refine stz ?_; try intro _) | (refine stq ?_; try intro _))
  cases b with
  | false =>
    have hnn : nm = [] := by
      by_cases h : nm = []
      · exact h
      · rw [decide_eq_false h] at hname; cases hname
    subst hnn
    have r1 : ¬ (96 ≤ n ∧ n ≤ 127) := fun h => by rw [if_pos h] at hrg; simp at hrg
    rw [if_neg r1] at hrg
    have r2 : ¬ (128 ≤ n ∧ n ≤ 143) := fun h => by rw [if_pos h] at hrg; simp at hrg
    rw [if_neg r2] at hrg
    have r3 : ¬ (144 ≤ n ∧ n ≤ 159) := fun h => by rw [if_pos h] at hrg; simp at hrg
    rw [if_neg r3] at hrg
    simp only [Bool.and_eq_true, decide_eq_true_eq] at hrg
    obtain ⟨q2, q3⟩ := hrg
    by_cases r4 : n < 96
    · repeat (first | (refine sty ?_; try intro _) | (refine st ?_; try intro _) | (refine stz ?_; try intro _) | (refine stq ?_; try intro _))
      refine G.retV ?_
      rfl
    · have r5 : 159 < n := by omega
      repeat (first | (refine sty ?_; try intro _) | (refine st ?_; try intro _) | (refine stz ?_; try intro _) | (refine stq ?_; try intro _))
      refine G.retV ?_
      rfl
  | true =>
    have hnn : nm ≠ [] := by
      intro h
      rw [decide_eq_true h] at hname; cases hname
    cases c with
    | false =>
      by_cases r1 : 96 ≤ n ∧ n ≤ 127
      · rw [if_pos r1] at hrg
        simp only [Bool.true_and, Bool.and_eq_true, decide_eq_true_eq] at hrg
        obtain ⟨⟨q2, q3⟩, q4⟩ := hrg
        subst q2 q3 q4
        repeat (first | (refine sty ?_; try intro _) | (refine st ?_; try intro _) | (refine stz ?_; try intro _) | (refine stq ?_; try intro _))
        refine G.retV ?_
        rfl
      rw [if_neg r1] at hrg
      by_cases r2 : 128 ≤ n ∧ n ≤ 143
      · rw [if_pos r2] at hrg
        simp only [Bool.true_and, Bool.and_eq_true, decide_eq_true_eq] at hrg
        obtain ⟨q2, q3⟩ := hrg
        by_cases r4 : 96 ≤ n
        · repeat (first | (refine sty ?_; try intro _) | (refine st ?_; try intro _) | (refine stz ?_; try intro _) | (refine stq ?_; try intro _))
          refine G.retV ?_
          rfl
        · omega
      rw [if_neg r2] at hrg
      by_cases r3 : 144 ≤ n ∧ n ≤ 159
      · rw [if_pos r3] at hrg
        simp only [Bool.true_and, Bool.and_eq_true, decide_eq_true_eq] at hrg
        obtain ⟨q2, q3⟩ := hrg
        repeat (first | (refine sty ?_; try intro _) | (refine st ?_; try intro _) | (refine stz ?_; try intro _) | (refine stq ?_; try intro _))
        refine G.retV ?_
        rfl
      rw [if_neg r3] at hrg
      simp only [Bool.and_eq_true, decide_eq_true_eq] at hrg
      obtain ⟨q2, q3⟩ := hrg
      by_cases r4 : n < 96
      · repeat (first | (refine sty ?_; try intro _) | (refine st ?_; try intro _) | (refine stz ?_; try intro _) | (refine stq ?_; try intro _))
        refine G.retV ?_
        rfl
      · have r5 : 159 < n := by omega
        repeat (first | (refine sty ?_; try intro _) | (refine st ?_; try intro _) | (refine stz ?_; try intro _) | (refine stq ?_; try intro _))
        refine G.retV ?_
        rfl
    | true =>
      have hnm := hnm rfl rfl
      by_cases hxy : n = m
      · have hxz := hnm.2 hxy
        by_cases r1 : 96 ≤ n ∧ n ≤ 127
        · rw [if_pos r1] at hrg
          simp only [Bool.true_and, Bool.and_eq_true, decide_eq_true_eq] at hrg
          obtain ⟨⟨q2, q3⟩, q4⟩ := hrg
          subst q2 q3 q4
          repeat (first | (refine sty ?_; try intro _) | (refine st ?_; try intro _) | (refine stz ?_; try intro _) | (refine stq ?_; try intro _))
          refine G.retV ?_
          rfl
        rw [if_neg r1] at hrg
        by_cases r2 : 128 ≤ n ∧ n ≤ 143
        · rw [if_pos r2] at hrg
          simp only [Bool.true_and, Bool.and_eq_true, decide_eq_true_eq] at hrg
          obtain ⟨q2, q3⟩ := hrg
          by_cases r4 : 96 ≤ n
          · repeat (first | (refine sty ?_; try intro _) | (refine st ?_; try intro _) | (refine stz ?_; try intro _) | (refine stq ?_; try intro _))
            refine G.retV ?_
            rfl
          · omega
        rw [if_neg r2] at hrg
        by_cases r3 : 144 ≤ n ∧ n ≤ 159
        · rw [if_pos r3] at hrg
          simp only [Bool.true_and, Bool.and_eq_true, decide_eq_true_eq] at hrg
          obtain ⟨q2, q3⟩ := hrg
          repeat (first | (refine sty ?_; try intro _) | (refine st ?_; try intro _) | (refine stz ?_; try intro _) | (refine stq ?_; try intro _))
          refine G.retV ?_
          rfl
        rw [if_neg r3] at hrg
        simp only [Bool.and_eq_true, decide_eq_true_eq] at hrg
        obtain ⟨q2, q3⟩ := hrg
        by_cases r4 : n < 96
        · repeat (first | (refine sty ?_; try intro _) | (refine st ?_; try intro _) | (refine stz ?_; try intro _) | (refine stq ?_; try intro _))
          refine G.retV ?_
          rfl
        · have r5 : 159 < n := by omega
          repeat (first | (refine sty ?_; try intro _) | (refine st ?_; try intro _) | (refine stz ?_; try intro _) | (refine stq ?_; try intro _))
          refine G.retV ?_
          rfl
      · have hxz : ¬ nm = nm2 := fun h => hxy (hnm.1 h)
        by_cases r1 : 96 ≤ n ∧ n ≤ 127
        · rw [if_pos r1] at hrg
          simp only [Bool.true_and, Bool.and_eq_true, decide_eq_true_eq] at hrg
          obtain ⟨⟨q2, q3⟩, q4⟩ := hrg
          subst q2 q3 q4
          repeat (first | (refine sty ?_; try intro _) | (refine st ?_; try intro _) | (refine stz ?_; try intro _) | (refine stq ?_; try intro _))
          refine G.retV ?_
          rfl
        rw [if_neg r1] at hrg
        by_cases r2 : 128 ≤ n ∧ n ≤ 143
        · rw [if_pos r2] at hrg
          simp only [Bool.true_and, Bool.and_eq_true, decide_eq_true_eq] at hrg
          obtain ⟨q2, q3⟩ := hrg
          by_cases r4 : 96 ≤ n
          · repeat (first | (refine sty ?_; try intro _) | (refine st ?_; try intro _) | (refine stz ?_; try intro _) | (refine stq ?_; try intro _))
            refine G.retV ?_
            rfl
          · omega
        rw [if_neg r2] at hrg
        by_cases r3 : 144 ≤ n ∧ n ≤ 159
        · rw [if_pos r3] at hrg
          simp only [Bool.true_and, Bool.and_eq_true, decide_eq_true_eq] at hrg
          obtain ⟨q2, q3⟩ := hrg
          repeat (first | (refine sty ?_; try intro _) | (refine st ?_; try intro _) | (refine stz ?_; try intro _) | (refine stq ?_; try intro _))
          refine G.retV ?_
          rfl
        rw [if_neg r3] at hrg
        simp only [Bool.and_eq_true, decide_eq_true_eq] at hrg
        obtain ⟨q2, q3⟩ := hrg
        by_cases r4 : n < 96
        · repeat (first | (refine sty ?_; try intro _) | (refine st ?_; try intro _) | (refine stz ?_; try intro _) | (refine stq ?_; try intro _))
          refine G.retV ?_
          rfl
        · have r5 : 159 < n := by omega
          repeat (first | (refine sty ?_; try intro _) | (refine st ?_; try intro _) | (refine stz ?_; try intro _) | (refine stq ?_; try intro _))
          refine G.retV ?_
          rfl
end Go.Rail
