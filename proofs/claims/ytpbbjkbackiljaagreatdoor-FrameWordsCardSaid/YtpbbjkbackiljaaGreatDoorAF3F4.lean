/- gas, memory: what is small. -/
import Derived.Test.YtpbbjkbackiljaaGreatDoorABJF0
import Derived.Test.YtpbbjkbackiljaaGreatDoorAAccRev
import Derived.Test.YtpbbjkbackiljaaGreatDoorAC7C12
import Derived.Test.YtpbbjkbackiljaaGreatDoorAC14C10
set_option linter.unusedSimpArgs false
set_option linter.unusedVariables false
namespace Go.Rail
open Go Go.Proofs
set_option maxHeartbeats 400000
set_option maxRecDepth 4000
attribute [local irreducible] OpK G W LW wpListIn Exit.then Exit.inBlock Post rounds opRun bodyPostM intOp
set_option maxHeartbeats 2000000
theorem gwithin_spec (x : Nat) : FnV Tryz.prog 318 [.int .i64 (x : Int), .int .i64 0, .int .i64 1048576] [] (.int .i64 ((min x 1048576 : Nat) : Int)) := by
  refine Fn.enter Tryz.func318 rfl Tryz.ntmps318 (by simp) (fun I0 w0 => ?_)
  by_cases h : x ≤ 1048576
  · rw [Nat.min_eq_left h]
    repeat (first | (refine sty ?_; try intro _) | (refine st ?_; try intro _) | (refine stz ?_; try intro _) | (refine stq ?_; try intro _))
    refine G.retV ?_
    refine congrArg (Value.int .i64) ?_
    split <;> split <;> omega
  · rw [Nat.min_eq_right (by omega)]
    repeat (first | (refine sty ?_; try intro _) | (refine st ?_; try intro _) | (refine stz ?_; try intro _) | (refine stq ?_; try intro _))
    refine G.retV ?_
    refine congrArg (Value.int .i64) ?_
    split <;> split <;> omega
theorem gmany_spec (x : Nat) : FnV Tryz.prog 269 [.int .i64 (x : Int)] [] (.int .i64 ((manyF x : Nat) : Int)) := by
  have h := gwithin_spec x
  refine Fn.enter Tryz.func269 rfl Tryz.ntmps269 (by simp) (fun I0 w0 => ?_)
  repeat (first | (refine sty ?_; try intro _) | (refine st ?_; try intro _) | (refine stz ?_; try intro _) | (refine stq ?_; try intro _))
  refine o_callV rfl rfl rfl rfl h rfl ?_
  repeat (first | (refine sty ?_; try intro _) | (refine st ?_; try intro _) | (refine stz ?_; try intro _) | (refine stq ?_; try intro _))
  refine G.retV ?_
  rfl
theorem gwords_spec (x : Nat) : FnV Tryz.prog 186 [.int .i64 (x : Int)] [] (.int .i64 ((wordsF x : Nat) : Int)) := by
  have h := gmany_spec x
  have hm : manyF x ≤ 1048576 := by unfold manyF; omega
  unfold wordsF
  generalize manyF x = m at h hm
  refine Fn.enter Tryz.func186 rfl Tryz.ntmps186 (by simp) (fun I0 w0 => ?_)
  repeat (first | (refine sty ?_; try intro _) | (refine st ?_; try intro _) | (refine stz ?_; try intro _) | (refine stq ?_; try intro _))
  refine o_callV rfl rfl rfl rfl h rfl ?_
  repeat (first | (refine sty ?_; try intro _) | (refine st ?_; try intro _) | (refine stz ?_; try intro _) | (refine stq ?_; try intro _))
  refine G.retV ?_
  refine congrArg (Value.int .i64) ?_
  omega
theorem gcopy_spec (x : Nat) : FnV Tryz.prog 104 [.int .i64 (x : Int)] [] (.int .i64 ((3 * wordsF x : Nat) : Int)) := by
  have h := gwords_spec x
  have hm : wordsF x ≤ 32768 := by unfold wordsF manyF; omega
  generalize wordsF x = m at h hm
  refine Fn.enter Tryz.func104 rfl Tryz.ntmps104 (by simp) (fun I0 w0 => ?_)
  repeat (first | (refine sty ?_; try intro _) | (refine st ?_; try intro _) | (refine stz ?_; try intro _) | (refine stq ?_; try intro _))
  refine o_callV rfl rfl rfl rfl h rfl ?_
  repeat (first | (refine sty ?_; try intro _) | (refine st ?_; try intro _) | (refine stz ?_; try intro _) | (refine stq ?_; try intro _))
  refine G.retV ?_
  rfl
theorem ghash_spec (x : Nat) : FnV Tryz.prog 97 [.int .i64 (x : Int)] [] (.int .i64 ((6 * wordsF x : Nat) : Int)) := by
  have h := gwords_spec x
  have hm : wordsF x ≤ 32768 := by unfold wordsF manyF; omega
  generalize wordsF x = m at h hm
  refine Fn.enter Tryz.func97 rfl Tryz.ntmps97 (by simp) (fun I0 w0 => ?_)
  repeat (first | (refine sty ?_; try intro _) | (refine st ?_; try intro _) | (refine stz ?_; try intro _) | (refine stq ?_; try intro _))
  refine o_callV rfl rfl rfl rfl h rfl ?_
  repeat (first | (refine sty ?_; try intro _) | (refine st ?_; try intro _) | (refine stz ?_; try intro _) | (refine stq ?_; try intro _))
  refine G.retV ?_
  rfl
theorem trimB_spec (l : List UInt8) (hl : l.length ≤ 1000000) : FnV Tryz.prog 169 [.string (ba l), .int .u8 0] [] (.string (ba (trimF l))) := by
  refine Fn.enter Tryz.func169 rfl Tryz.ntmps169 (by simp) (fun I0 w0 => ?_)
  repeat (first | (refine sty ?_; try intro _) | (refine st ?_; try intro _) | (refine stz ?_; try intro _) | (refine stq ?_; try intro _))
  refine W.lp (S := List UInt8) (fun s => ([], [(0, .string (ba s)), (1, .int .u8 0)], [])) (fun s => trimF s = trimF l ∧ s.length ≤ l.length) (fun s => s.length) l ?_ (h0 := ⟨rfl, Nat.le_refl _⟩)
  rintro s ⟨hs, hsl⟩
  dsimp only
  cases s with
  | nil =>
    rw [← hs]
    repeat (first | (refine sty ?_; try intro _) | (refine st ?_; try intro _) | (refine stz ?_; try intro _) | (refine stq ?_; try intro _))
    refine G.retV ?_
    rfl
  | cons a s =>
    rw [List.length_cons] at hsl
    by_cases ha : a.toNat = 0
    · have ha0 : a = 0 := UInt8.toNat_inj.1 ha
      subst ha0
      have hs2 : trimF s = trimF l := by rw [← hs]; rfl
      have hpos : 0 < ((0 : UInt8) :: s).length := Nat.succ_pos _
      repeat (first | (refine sty ?_; try intro _) | (refine st ?_; try intro _) | (refine stz ?_; try intro _) | (refine stq ?_; try intro _))
      have e : (((0 : UInt8) :: s).take ((0 : UInt8) :: s).length).drop 1 = s := by rw [List.take_length]; rfl
      rw [e]
      exact G.ag (S := List UInt8) s (hμ := Nat.lt_succ_self _) (hpre := ⟨hs2, by omega⟩)
    · have hs2 : trimF l = a :: s := by
        rw [← hs]
        unfold trimF
        rw [List.dropWhile_cons_of_neg]
        intro h
        exact ha (by rw [eq_of_beq h]; rfl)
      rw [hs2]
      have hpos : 0 < (a :: s).length := Nat.succ_pos _
      repeat (first | (refine sty ?_; try intro _) | (refine st ?_; try intro _) | (refine stz ?_; try intro _) | (refine stq ?_; try intro _))
      refine G.retV ?_
      rfl
theorem mwithin_spec (x : Int) (m : Int) (hm : 0 ≤ m) : FnV Tryz.prog 197 [.int .i64 x, .int .i64 0, .int .i64 m] [] (.int .i64 (max 0 (min x m))) := by
  refine Fn.enter Tryz.func197 rfl Tryz.ntmps197 (by simp) (fun I0 w0 => ?_)
  repeat (first | (refine sty ?_; try intro _) | (refine st ?_; try intro _) | (refine stz ?_; try intro _) | (refine stq ?_; try intro _))
  refine G.retV ?_
  refine congrArg (Value.int .i64) ?_
  split <;> split <;> omega
theorem mcost_spec (n : Nat) : FnV Tryz.prog 195 [.int .i64 (n : Int)] [] (.int .i64 ((costF n : Nat) : Int)) := by
  have h := mwithin_spec (n : Int) 32768 (by decide)
  rw [show max 0 (min (n : Int) 32768) = ((min n 32768 : Nat) : Int) from by omega] at h
  unfold costF
  have hm : min n 32768 ≤ 32768 := by omega
  generalize min n 32768 = m at h hm
  have h2 : m * m ≤ 32768 * 32768 := Nat.mul_le_mul hm hm
  refine Fn.enter Tryz.func195 rfl Tryz.ntmps195 (by simp) (fun I0 w0 => ?_)
  repeat (first | (refine sty ?_; try intro _) | (refine st ?_; try intro _) | (refine stz ?_; try intro _) | (refine stq ?_; try intro _))
  refine o_callV rfl rfl rfl rfl h rfl ?_
  repeat (first | (refine sty ?_; try intro _) | (refine st ?_; try intro _) | (refine stz ?_; try intro _) | (refine stq ?_; try intro _))
  refine G.retV ?_
  rfl
theorem mmay_spec (l : List UInt8) (hl : l.length ≤ 1000000000) : FnV Tryz.prog 196 [.string (ba l)] [] (.bool (decide (l.length ≤ 1048576 ∧ l.length % 32 = 0))) := by
  refine Fn.enter Tryz.func196 rfl Tryz.ntmps196 (by simp) (fun I0 w0 => ?_)
  by_cases h1 : l.length ≤ 1048576
  · by_cases h2 : l.length % 32 = 0
    · rw [decide_eq_true ⟨h1, h2⟩]
      repeat (first | (refine sty ?_; try intro _) | (refine st ?_; try intro _) | (refine stz ?_; try intro _) | (refine stq ?_; try intro _))
      refine G.retV ?_
      rfl
    · rw [decide_eq_false (fun h => h2 h.2)]
      repeat (first | (refine sty ?_; try intro _) | (refine st ?_; try intro _) | (refine stz ?_; try intro _) | (refine stq ?_; try intro _))
      refine G.retV ?_
      rfl
  · rw [decide_eq_false (fun h => h1 h.1)]
    repeat (first | (refine sty ?_; try intro _) | (refine st ?_; try intro _) | (refine stz ?_; try intro _) | (refine stq ?_; try intro _))
    refine G.retV ?_
    rfl
end Go.Rail
namespace Go.Rail
open Go Go.Proofs
set_option maxHeartbeats 400000
set_option maxRecDepth 4000
attribute [local irreducible] OpK G W LW wpListIn Exit.then Exit.inBlock Post rounds opRun bodyPostM intOp
set_option maxHeartbeats 2000000
attribute [local irreducible] addW cmpW Word.nat
theorem number_spec (w : Word) : FnV Tryz.prog 184 [w.v] [] (.int .i64 ((numF w : Nat) : Int)) := by
  have h := wint_spec w
  unfold numF
  by_cases h1 : w.num ≤ 4611686018427387903
  · rw [if_pos h1, decide_eq_true h1] at h
    generalize w.num = n at h h1 ⊢
    refine Fn.enter Tryz.func184 rfl Tryz.ntmps184 (by simp) (fun I0 w0 => ?_)
    repeat (first | (refine sty ?_; try intro _) | (refine st ?_; try intro _) | (refine stz ?_; try intro _) | (refine stq ?_; try intro _))
    refine o_callV rfl rfl rfl rfl h rfl ?_
    repeat (first | (refine sty ?_; try intro _) | (refine st ?_; try intro _) | (refine stz ?_; try intro _) | (refine stq ?_; try intro _))
    refine G.retV ?_
    refine congrArg (Value.int .i64) ?_
    split <;> omega
  · rw [if_neg h1, decide_eq_false h1] at h
    rw [Nat.min_eq_right (by omega)]
    refine Fn.enter Tryz.func184 rfl Tryz.ntmps184 (by simp) (fun I0 w0 => ?_)
    repeat (first | (refine sty ?_; try intro _) | (refine st ?_; try intro _) | (refine stz ?_; try intro _) | (refine stq ?_; try intro _))
    refine o_callV rfl rfl rfl rfl h rfl ?_
    repeat (first | (refine sty ?_; try intro _) | (refine st ?_; try intro _) | (refine stz ?_; try intro _) | (refine stq ?_; try intro _))
    refine G.retV ?_
    rfl
theorem need_spec (a n : Word) : FnV Tryz.prog 275 [a.v, n.v] [] (.tuple #[.int .i64 (((needF a n).getD 0 : Nat) : Int), .bool (needF a n).isSome]) := by
  have h1 := wadd_spec a n
  have h2 := wint_spec (addW a n)
  unfold needF
  generalize addW a n = e at h1 h2 ⊢
  have h3 := cmpW_num e a
  by_cases hn : n = .zero
  · rw [if_pos hn]
    subst hn
    refine Fn.enter Tryz.func275 rfl Tryz.ntmps275 (by simp) (fun I0 w0 => ?_)
    repeat (first | (refine sty ?_; try intro _) | (refine st ?_; try intro _) | (refine stz ?_; try intro _) | (refine stq ?_; try intro _))
    refine o_callV rfl rfl rfl rfl h1 rfl ?_
    repeat (first | (refine sty ?_; try intro _) | (refine st ?_; try intro _) | (refine stz ?_; try intro _) | (refine stq ?_; try intro _))
    refine o_callV rfl rfl rfl rfl h2 rfl ?_
    repeat (first | (refine sty ?_; try intro _) | (refine st ?_; try intro _) | (refine stz ?_; try intro _) | (refine stq ?_; try intro _))
    refine G.retV ?_
    rfl
  rw [if_neg hn]
  by_cases hi : e.num ≤ 4611686018427387903
  · rw [if_pos hi, decide_eq_true hi] at h2
    by_cases hm : e.num ≤ 1048576
    · by_cases hc : e.num < a.num
      · rw [if_pos hc] at h3
        rw [if_neg (by omega)]
        refine Fn.enter Tryz.func275 rfl Tryz.ntmps275 (by simp) (fun I0 w0 => ?_)
        repeat (first | (refine sty ?_; try intro _) | (refine st ?_; try intro _) | (refine stz ?_; try intro _) | (refine stq ?_; try intro _))
        refine o_callV rfl rfl rfl rfl h1 rfl ?_
        repeat (first | (refine sty ?_; try intro _) | (refine st ?_; try intro _) | (refine stz ?_; try intro _) | (refine stq ?_; try intro _))
        refine o_callV rfl rfl rfl rfl h2 rfl ?_
        repeat (first | (refine sty ?_; try intro _) | (refine st ?_; try intro _) | (refine stz ?_; try intro _) | (refine stq ?_; try intro _))
        refine G.retV ?_
        rfl
      · rw [if_neg hc] at h3
        rw [if_pos ⟨hm, by omega⟩]
        have h3' : ∃ q : Int, 0 ≤ q ∧ (if a.num < e.num then (1 : Int) else 0) = q := ⟨_, by split <;> decide, rfl⟩
        obtain ⟨q, hq, hq2⟩ := h3'
        rw [hq2] at h3
        refine Fn.enter Tryz.func275 rfl Tryz.ntmps275 (by simp) (fun I0 w0 => ?_)
        repeat (first | (refine sty ?_; try intro _) | (refine st ?_; try intro _) | (refine stz ?_; try intro _) | (refine stq ?_; try intro _))
        refine o_callV rfl rfl rfl rfl h1 rfl ?_
        repeat (first | (refine sty ?_; try intro _) | (refine st ?_; try intro _) | (refine stz ?_; try intro _) | (refine stq ?_; try intro _))
        refine o_callV rfl rfl rfl rfl h2 rfl ?_
        repeat (first | (refine sty ?_; try intro _) | (refine st ?_; try intro _) | (refine stz ?_; try intro _) | (refine stq ?_; try intro _))
        refine G.retV ?_
        rfl
    · rw [if_neg (by omega)]
      refine Fn.enter Tryz.func275 rfl Tryz.ntmps275 (by simp) (fun I0 w0 => ?_)
      repeat (first | (refine sty ?_; try intro _) | (refine st ?_; try intro _) | (refine stz ?_; try intro _) | (refine stq ?_; try intro _))
      refine o_callV rfl rfl rfl rfl h1 rfl ?_
      repeat (first | (refine sty ?_; try intro _) | (refine st ?_; try intro _) | (refine stz ?_; try intro _) | (refine stq ?_; try intro _))
      refine o_callV rfl rfl rfl rfl h2 rfl ?_
      repeat (first | (refine sty ?_; try intro _) | (refine st ?_; try intro _) | (refine stz ?_; try intro _) | (refine stq ?_; try intro _))
      refine G.retV ?_
      rfl
  · rw [if_neg hi, decide_eq_false hi] at h2
    rw [if_neg (by omega)]
    refine Fn.enter Tryz.func275 rfl Tryz.ntmps275 (by simp) (fun I0 w0 => ?_)
    repeat (first | (refine sty ?_; try intro _) | (refine st ?_; try intro _) | (refine stz ?_; try intro _) | (refine stq ?_; try intro _))
    refine o_callV rfl rfl rfl rfl h1 rfl ?_
    repeat (first | (refine sty ?_; try intro _) | (refine st ?_; try intro _) | (refine stz ?_; try intro _) | (refine stq ?_; try intro _))
    refine o_callV rfl rfl rfl rfl h2 rfl ?_
    repeat (first | (refine sty ?_; try intro _) | (refine st ?_; try intro _) | (refine stz ?_; try intro _) | (refine stq ?_; try intro _))
    refine G.retV ?_
    rfl
theorem there_spec (m : List UInt8) (at_ n : Int) (hm : m.length ≤ 1000000000) : FnV Tryz.prog 270 [.string (ba m), .int .i64 at_, .int .i64 n] [] (.bool (decide ((m.length ≤ 1048576 ∧ m.length % 32 = 0) ∧ 0 ≤ n ∧ 0 ≤ at_ ∧ at_ ≤ m.length ∧ n ≤ m.length - at_))) := by
  have h := mmay_spec m hm
  by_cases h0 : m.length ≤ 1048576 ∧ m.length % 32 = 0
  · rw [decide_eq_true h0] at h
    by_cases h1 : 0 ≤ n
    · by_cases h2 : 0 ≤ at_
      · by_cases h3 : at_ ≤ m.length
        · by_cases h4 : n ≤ m.length - at_
          · rw [decide_eq_true ⟨h0, h1, h2, h3, h4⟩]
            refine Fn.enter Tryz.func270 rfl Tryz.ntmps270 (by simp) (fun I0 w0 => ?_)
            repeat (first | (refine sty ?_; try intro _) | (refine st ?_; try intro _) | (refine stz ?_; try intro _) | (refine stq ?_; try intro _))
            refine o_callV rfl rfl rfl rfl h rfl ?_
            repeat (first | (refine sty ?_; try intro _) | (refine st ?_; try intro _) | (refine stz ?_; try intro _) | (refine stq ?_; try intro _))
            refine G.retV ?_
            rfl
          · rw [decide_eq_false (fun q => h4 q.2.2.2.2)]
            refine Fn.enter Tryz.func270 rfl Tryz.ntmps270 (by simp) (fun I0 w0 => ?_)
            repeat (first | (refine sty ?_; try intro _) | (refine st ?_; try intro _) | (refine stz ?_; try intro _) | (refine stq ?_; try intro _))
            refine o_callV rfl rfl rfl rfl h rfl ?_
            repeat (first | (refine sty ?_; try intro _) | (refine st ?_; try intro _) | (refine stz ?_; try intro _) | (refine stq ?_; try intro _))
            refine G.retV ?_
            rfl
        · rw [decide_eq_false (fun q => h3 q.2.2.2.1)]
          refine Fn.enter Tryz.func270 rfl Tryz.ntmps270 (by simp) (fun I0 w0 => ?_)
          repeat (first | (refine sty ?_; try intro _) | (refine st ?_; try intro _) | (refine stz ?_; try intro _) | (refine stq ?_; try intro _))
          refine o_callV rfl rfl rfl rfl h rfl ?_
          repeat (first | (refine sty ?_; try intro _) | (refine st ?_; try intro _) | (refine stz ?_; try intro _) | (refine stq ?_; try intro _))
          refine G.retV ?_
          rfl
      · rw [decide_eq_false (fun q => h2 q.2.2.1)]
        refine Fn.enter Tryz.func270 rfl Tryz.ntmps270 (by simp) (fun I0 w0 => ?_)
        repeat (first | (refine sty ?_; try intro _) | (refine st ?_; try intro _) | (refine stz ?_; try intro _) | (refine stq ?_; try intro _))
        refine o_callV rfl rfl rfl rfl h rfl ?_
        repeat (first | (refine sty ?_; try intro _) | (refine st ?_; try intro _) | (refine stz ?_; try intro _) | (refine stq ?_; try intro _))
        refine G.retV ?_
        rfl
    · rw [decide_eq_false (fun q => h1 q.2.1)]
      refine Fn.enter Tryz.func270 rfl Tryz.ntmps270 (by simp) (fun I0 w0 => ?_)
      repeat (first | (refine sty ?_; try intro _) | (refine st ?_; try intro _) | (refine stz ?_; try intro _) | (refine stq ?_; try intro _))
      refine o_callV rfl rfl rfl rfl h rfl ?_
      repeat (first | (refine sty ?_; try intro _) | (refine st ?_; try intro _) | (refine stz ?_; try intro _) | (refine stq ?_; try intro _))
      refine G.retV ?_
      rfl
  · rw [decide_eq_false h0] at h
    rw [decide_eq_false (fun q => h0 q.1)]
    refine Fn.enter Tryz.func270 rfl Tryz.ntmps270 (by simp) (fun I0 w0 => ?_)
    repeat (first | (refine sty ?_; try intro _) | (refine st ?_; try intro _) | (refine stz ?_; try intro _) | (refine stq ?_; try intro _))
    refine o_callV rfl rfl rfl rfl h rfl ?_
    repeat (first | (refine sty ?_; try intro _) | (refine st ?_; try intro _) | (refine stz ?_; try intro _) | (refine stq ?_; try intro _))
    refine G.retV ?_
    rfl
theorem noughts_spec (n : Int) (hn : n ≤ 100000000) : FnV Tryz.prog 200 [.int .i64 n] [] (.string (ba (List.replicate n.toNat 0))) := by
  have h := repeat_spec n.toNat (by omega)
  rw [show ((n.toNat : Nat) : Int) = (if n < 0 then 0 else n) from by split <;> omega] at h
  refine Fn.enter Tryz.func200 rfl Tryz.ntmps200 (by simp) (fun I0 w0 => ?_)
  repeat (first | (refine sty ?_; try intro _) | (refine st ?_; try intro _) | (refine stz ?_; try intro _) | (refine stq ?_; try intro _))
  refine o_callV rfl rfl rfl rfl h rfl ?_
  repeat (first | (refine sty ?_; try intro _) | (refine st ?_; try intro _) | (refine stz ?_; try intro _) | (refine stq ?_; try intro _))
  refine G.retV ?_
  rfl
def txE1 (ts : List (List UInt8)) : List (List Value) := ts.map fun t => [.string (ba t)]
theorem txE1_len (ts : List (List UInt8)) : (txE1 ts).length = ts.length := by simp [txE1]
theorem txE1_one (ts : List (List UInt8)) : ∀ vs ∈ txE1 ts, vs.length = 1 := by
  intro vs h
  obtain ⟨p, _, rfl⟩ := List.mem_map.1 h
  rfl
theorem txE1_at (ts : List (List UInt8)) (k : Nat) (h : k < (txE1 ts).length) (h2 : k < ts.length) : (txE1 ts)[k] = [.string (ba (ts[k]'h2))] := by simp [txE1]
theorem flat_step (ts : List (List UInt8)) (k : Nat) (h : k < ts.length) : (ts.take (k + 1)).flatten = (ts.take k).flatten ++ ts[k] := by
  rw [List.take_succ_eq_append_getElem h, List.flatten_append]; simp
theorem flat_le (ts : List (List UInt8)) (k : Nat) : (ts.take k).flatten.length ≤ ts.flatten.length := by
  conv => rhs; rw [← List.take_append_drop k ts, List.flatten_append, List.length_append]
  omega
theorem joined_spec (gf : FuncId) [HasFn Tryz.prog gf] (lb : List Value) (ts : List (List UInt8)) (Φi : List Fa) (hit : IterR Tryz.prog gf lb (txE1 ts) Φi) (hx : ts.flatten.length ≤ 100000000) :
    FnV Tryz.prog 198 [.func (.func gf) #[] lb.toArray] Φi (.string (ba ts.flatten)) := by
  refine Fn.enter Tryz.func198 rfl Tryz.ntmps198 (by simp) (fun I0 w0 => ?_)
  repeat (first | (refine sty ?_; try intro _) | (refine st ?_; try intro _) | (refine stz ?_; try intro _) | (refine stq ?_; try intro _))
  rename_i B
  refine W.rangeFuncR (enc := txE1 ts) (ps := [6]) (Φi := Φi) (Mr := []) (fun k s => ∃ a v o, (a = none ∨ a = some ⟨B, 0, none⟩) ∧ IsBuf v (ts.take k).flatten o ∧ s = ([], bldM B a v (ts.take k).flatten o)) (fun _ _ => False) rfl hit (by decide) (txE1_one ts) ⟨fun I hp φ hφ => hp φ hφ⟩ ([], bldM B none (.slice none 0 0) [] none) ⟨_, _, none, .inl rfl, ⟨rfl, rfl⟩, rfl⟩ inferInstance (List.Perm.refl _) ?_ ?_ ?_
  · rintro y rec I0' w0' k hk _ ⟨a, v, o, ha, hb, rfl⟩
    rw [txE1_len] at hk
    have hst := flat_step ts k hk
    have hle := flat_le ts (k + 1)
    dsimp only
    rw [txE1_at ts k (by rw [txE1_len]; exact hk) hk]
    generalize ts[k]'hk = t at hst ⊢
    rw [hst] at hle
    have hw := writeString_spec B a ha v (ts.take k).flatten t o hb (by rw [List.length_append] at hle; omega)
    show W _ _ _ _ ((6, .string (ba t)) :: _) _
    repeat (first | (refine sty ?_; try intro _) | (refine st ?_; try intro _) | (refine stz ?_; try intro _) | (refine stq ?_; try intro _))
    refine G.begin (by rfl) ?_
    repeat (first | (refine sty ?_; try intro _) | (refine st ?_; try intro _) | (refine stz ?_; try intro _) | (refine stq ?_; try intro _))
    refine OpK.call rfl rfl rfl rfl hw inferInstance (Mr := [_]) (List.perm_append_comm (l₁ := [_])) ?_
    rintro u Φ' Mc' ⟨v3, o3, hb3, rfl, rfl, rfl⟩
    refine G.perm ?_ List.perm_append_comm
    rw [← hst] at hb3 ⊢
    dsimp only [List.cons_append, List.nil_append]
    repeat (first | (refine sty ?_; try intro _) | (refine st ?_; try intro _) | (refine stz ?_; try intro _) | (refine stq ?_; try intro _))
    refine G.roundEnd inferInstance (Φ' := []) (M'' := bldM B (some ⟨B, 0, none⟩) v3 (ts.take (k + 1)).flatten o3) ?_ inferInstance (by first | exact List.Sublist.refl _ | exact .cons _ (List.Sublist.refl _))
    exact Or.inl ⟨rfl, ([], bldM B (some ⟨B, 0, none⟩) v3 (ts.take (k + 1)).flatten o3), ⟨_, v3, o3, .inr rfl, hb3, rfl⟩, rfl⟩
  · rintro D _ ⟨a, v, o, ha, hb, rfl⟩
    rw [txE1_len, List.take_length] at hb ⊢
    have hs := bString_spec B a v ts.flatten o hb (by omega)
    refine G.perm ?_ List.perm_append_comm
    dsimp only [List.cons_append, List.nil_append]
    repeat (first | (refine sty ?_; try intro _) | (refine st ?_; try intro _) | (refine stz ?_; try intro _) | (refine stq ?_; try intro _))
    refine OpK.call rfl rfl rfl rfl hs inferInstance (Mr := [_]) (List.perm_append_comm (l₁ := [_])) ?_
    rintro u Φ' Mc' ⟨o', hb', rfl, rfl, rfl⟩
    refine G.perm ?_ List.perm_append_comm
    dsimp only [List.cons_append, List.nil_append]
    repeat (first | (refine sty ?_; try intro _) | (refine st ?_; try intro _) | (refine stz ?_; try intro _) | (refine stq ?_; try intro _))
    refine G.unmark inferInstance ?_
    refine G.retV ?_
    rfl
  · intro D c s h
    exact h.elim
end Go.Rail
