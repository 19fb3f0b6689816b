/- The document's numbers: bit by bit, and moved. -/
import Derived.Test.YtomifglegeelaaaGreatDoorAC10D8
namespace Go.Rail
open Go Go.Proofs
set_option linter.unusedSimpArgs false
set_option linter.unusedVariables false
set_option maxHeartbeats 400000
set_option maxRecDepth 4000
attribute [local irreducible] OpK G W LW wpListIn Exit.then Exit.inBlock Post rounds opRun bodyPostM intOp
set_option maxHeartbeats 4000000
attribute [local irreducible] Word.num Word.nat
def tab4 (p q r s : Nat) (k : Nat) : Nat := [p, q, r, s].getD k 0
theorem tab_lt {p q r s : Nat} (hp : p < 2) (hq : q < 2) (hr : r < 2) (hs : s < 2) : ∀ i < 4, tab4 p q r s i < 2
  | 0, _ => hp
  | 1, _ => hq
  | 2, _ => hr
  | 3, _ => hs
theorem rand_spec (a b : Word) : FnV Tryz.prog 59 [a.v, b.v] [] (andW a b).v := by
  have h := both_spec a b (tab4 0 0 0 1) (tab_lt (by decide) (by decide) (by decide) (by decide))
  rw [sum_bits (y := a.num &&& b.num) (fun i hi => by rw [bt_test, bt_test, bt_test, Nat.testBit_and]; cases a.num.testBit i <;> cases b.num.testBit i <;> rfl)] at h
  refine Fn.enter Tryz.func59 rfl Tryz.ntmps59 (by simp) (fun I0 w0 => ?_)
  repeat (first | (refine sty ?_; try intro _) | (refine st ?_; try intro _) | (refine stz ?_; try intro _))
  refine o_callV rfl rfl rfl rfl h rfl ?_
  repeat (first | (refine sty ?_; try intro _) | (refine st ?_; try intro _) | (refine stz ?_; try intro _))
  refine G.retV ?_
  rfl
theorem ror_spec (a b : Word) : FnV Tryz.prog 60 [a.v, b.v] [] (orW a b).v := by
  have h := both_spec a b (tab4 0 1 1 1) (tab_lt (by decide) (by decide) (by decide) (by decide))
  rw [sum_bits (y := a.num ||| b.num) (fun i hi => by rw [bt_test, bt_test, bt_test, Nat.testBit_or]; cases a.num.testBit i <;> cases b.num.testBit i <;> rfl)] at h
  refine Fn.enter Tryz.func60 rfl Tryz.ntmps60 (by simp) (fun I0 w0 => ?_)
  repeat (first | (refine sty ?_; try intro _) | (refine st ?_; try intro _) | (refine stz ?_; try intro _))
  refine o_callV rfl rfl rfl rfl h rfl ?_
  repeat (first | (refine sty ?_; try intro _) | (refine st ?_; try intro _) | (refine stz ?_; try intro _))
  refine G.retV ?_
  rfl
theorem rxor_spec (a b : Word) : FnV Tryz.prog 61 [a.v, b.v] [] (xorW a b).v := by
  have h := both_spec a b (tab4 0 1 1 0) (tab_lt (by decide) (by decide) (by decide) (by decide))
  rw [sum_bits (y := a.num ^^^ b.num) (fun i hi => by rw [bt_test, bt_test, bt_test, Nat.testBit_xor]; cases a.num.testBit i <;> cases b.num.testBit i <;> rfl)] at h
  refine Fn.enter Tryz.func61 rfl Tryz.ntmps61 (by simp) (fun I0 w0 => ?_)
  repeat (first | (refine sty ?_; try intro _) | (refine st ?_; try intro _) | (refine stz ?_; try intro _))
  refine o_callV rfl rfl rfl rfl h rfl ?_
  repeat (first | (refine sty ?_; try intro _) | (refine st ?_; try intro _) | (refine stz ?_; try intro _))
  refine G.retV ?_
  rfl
theorem not_test {x i : Nat} (hx : x < top256) (hi : i < 256) : (top256 - 1 - x).testBit i = !x.testBit i := by
  have e : top256 = 2 ^ 256 := by kernel_rfl
  rw [e] at hx ⊢
  rw [Nat.sub_sub, Nat.add_comm 1 x, Nat.testBit_two_pow_sub_succ hx, decide_eq_true hi, Bool.true_and]
theorem rnot_spec (a : Word) : FnV Tryz.prog 62 [a.v] [] (notW a).v := by
  have h := both_spec a a (tab4 1 1 0 0) (tab_lt (by decide) (by decide) (by decide) (by decide))
  rw [sum_bits (y := top256 - 1 - a.num) (fun i hi => by rw [bt_test, bt_test, not_test a.num_lt hi]; cases a.num.testBit i <;> rfl)] at h
  refine Fn.enter Tryz.func62 rfl Tryz.ntmps62 (by simp) (fun I0 w0 => ?_)
  repeat (first | (refine sty ?_; try intro _) | (refine st ?_; try intro _) | (refine stz ?_; try intro _))
  refine o_callV rfl rfl rfl rfl h rfl ?_
  repeat (first | (refine sty ?_; try intro _) | (refine st ?_; try intro _) | (refine stz ?_; try intro _))
  refine G.retV ?_
  rfl
/-- Bits that are moved. -/
def mvF (x : Nat) (k : Int) (t i : Nat) : Nat := if 0 ≤ (i : Int) - k ∧ (i : Int) - k < 256 then bt x ((i : Int) - k).toNat else t
theorem mvF_lt {x : Nat} {k : Int} {t i : Nat} (ht : t < 2) : mvF x k t i < 2 := by unfold mvF; split; exact bt_lt _ _; exact ht
theorem moved_spec (a : Word) (k : Int) (t : Nat) (hk : -256 ≤ k ∧ k ≤ 256) (ht : t < 2) : FnV Tryz.prog 115 [a.v, .int .i64 k, .int .i64 (t : Int)] [] (Word.nat (sumB 2 (mvF a.num k t) 256)).v := by
  refine Fn.enter Tryz.func115 rfl Tryz.ntmps115 (by simp) (fun I0 w0 => ?_)
  repeat (first | (refine sty ?_; try intro _) | (refine st ?_; try intro _) | (refine stz ?_; try intro _))
  rename_i b3 b6
  refine o_callO rfl rfl rfl rfl (bits_spec a) ?_
  intro vx ox hox
  refine G.giveOwn2 vx (rowN 256 (bt a.num)) ox 3 hox inferInstance (List.Perm.refl _) ?_
  repeat (first | (refine sty ?_; try intro _) | (refine st ?_; try intro _) | (refine stz ?_; try intro _))
  refine W.lp (S := Nat × Value × OR) (fun s => ([fRow (ocells s.2.2) (rowN s.1 (mvF a.num k t)), fRp vx (rowN 256 (bt a.num))], [(9, .int .i64 (s.1 : Int)), (8, s.2.1), (7, vx), (6, .pointer (some ⟨b6, 0, none⟩)), (2, .int .i64 (t : Int)), (1, .int .i64 k)], (b6, Ob Word.zero.cells 24) :: ownM 3 s.2.2)) (fun s => s.1 ≤ 256 ∧ IsOwn 1 s.2.1 s.1 s.2.2) (fun s => 256 - s.1) (0, .slice none 0 0, none) ?_ (h0 := ⟨Nat.zero_le _, rfl, rfl⟩) (hM := .cons_cons _ (List.nil_sublist _))
  rintro ⟨i, w, o⟩ ⟨hi, hown⟩
  dsimp only at hi hown ⊢
  by_cases hi32 : i = 256
  · subst hi32
    refine W.bare (G.giveOwn2 (Mr := [(b6, Ob Word.zero.cells 24)]) w (rowN 256 (mvF a.num k t)) o 3 (by rw [rowZ_length]; exact hown) inferInstance (List.Perm.refl _) ?_)
    refine G.code ?_
    repeat (first | (refine sty ?_; try intro _) | (refine st ?_; try intro _) | (refine stz ?_; try intro _))
    refine o_callV rfl rfl rfl rfl (fromBits_spec w (mvF a.num k t) (fun i _ => mvF_lt ht)) rfl ?_
    repeat (first | (refine sty ?_; try intro _) | (refine st ?_; try intro _) | (refine stz ?_; try intro _))
    refine G.retV ?_
    rfl
  · have hd2 := rowZ_succ i (fun i => ((mvF a.num k t i : Nat) : Int))
    by_cases h0 : 0 ≤ (i : Int) - k ∧ (i : Int) - k < 256
    · obtain ⟨j, hj⟩ : ∃ j : Nat, (i : Int) - k = (j : Int) := ⟨((i : Int) - k).toNat, by omega⟩
      have hNL : NL ((i : Int) - k) j := ⟨hj⟩
      have hv : mvF a.num k t i = bt a.num j := by unfold mvF; rw [if_pos h0, hj]; rfl
      rw [hv] at hd2
      repeat (first | (refine sty ?_; try intro _) | (refine st ?_; try intro _) | (refine stz ?_; try intro _))
      refine o_app2 (Mr := [(b6, Ob Word.zero.cells 24)]) o (xs := rowN i (mvF a.num k t)) (ys := [((bt a.num j : Nat) : Int)]) (by rw [rowZ_length]; exact hown) ⟨by simp [rowZ_length]; omega, by simp [rowZ_length]; omega, rfl⟩ rfl rfl rfl rfl inferInstance inferInstance (List.Perm.refl _) ?_
      intro w' o' hown'
      rw [← hd2] at hown' ⊢
      rw [rowZ_length] at hown'
      dsimp only [List.cons_append, List.nil_append]
      repeat (first | (refine sty ?_; try intro _) | (refine st ?_; try intro _) | (refine stz ?_; try intro _))
      exact G.ag (S := Nat × Value × OR) (i + 1, w', o') (hpre := ⟨by dsimp only; omega, hown'⟩)
    · have hv : mvF a.num k t i = t := by unfold mvF; rw [if_neg h0]
      rw [hv] at hd2
      by_cases h1 : 0 ≤ (i : Int) - k
      · repeat (first | (refine sty ?_; try intro _) | (refine st ?_; try intro _) | (refine stz ?_; try intro _))
        refine o_app2 (Mr := [(b6, Ob Word.zero.cells 24)]) o (xs := rowN i (mvF a.num k t)) (ys := [((t : Nat) : Int)]) (by rw [rowZ_length]; exact hown) ⟨by simp [rowZ_length]; omega, by simp [rowZ_length]; omega, rfl⟩ rfl rfl rfl rfl inferInstance inferInstance (List.Perm.refl _) ?_
        intro w' o' hown'
        rw [← hd2] at hown' ⊢
        rw [rowZ_length] at hown'
        dsimp only [List.cons_append, List.nil_append]
        repeat (first | (refine sty ?_; try intro _) | (refine st ?_; try intro _) | (refine stz ?_; try intro _))
        exact G.ag (S := Nat × Value × OR) (i + 1, w', o') (hpre := ⟨by dsimp only; omega, hown'⟩)
      · repeat (first | (refine sty ?_; try intro _) | (refine st ?_; try intro _) | (refine stz ?_; try intro _))
        refine o_app2 (Mr := [(b6, Ob Word.zero.cells 24)]) o (xs := rowN i (mvF a.num k t)) (ys := [((t : Nat) : Int)]) (by rw [rowZ_length]; exact hown) ⟨by simp [rowZ_length]; omega, by simp [rowZ_length]; omega, rfl⟩ rfl rfl rfl rfl inferInstance inferInstance (List.Perm.refl _) ?_
        intro w' o' hown'
        rw [← hd2] at hown' ⊢
        rw [rowZ_length] at hown'
        dsimp only [List.cons_append, List.nil_append]
        repeat (first | (refine sty ?_; try intro _) | (refine st ?_; try intro _) | (refine stz ?_; try intro _))
        exact G.ag (S := Nat × Value × OR) (i + 1, w', o') (hpre := ⟨by dsimp only; omega, hown'⟩)
end Go.Rail
namespace Go.Rail
open Go Go.Proofs
set_option linter.unusedSimpArgs false
set_option linter.unusedVariables false
set_option maxHeartbeats 400000
set_option maxRecDepth 4000
attribute [local irreducible] OpK G W LW wpListIn Exit.then Exit.inBlock Post rounds opRun bodyPostM intOp
set_option maxHeartbeats 4000000
attribute [local irreducible] Word.num Word.nat
theorem bt_num {x i : Nat} (hi : i < 256) : bt (Word.nat x).num i = bt x i := by
  rw [Word.num_nat, show top256 = 2 ^ 256 from by kernel_rfl]
  exact dig_mod (by decide) hi
theorem bt_mul (x n i : Nat) : bt (x * 2 ^ n) i = if n ≤ i then bt x (i - n) else 0 := by
  rw [bt_test, ← Nat.shiftLeft_eq, Nat.testBit_shiftLeft]
  by_cases h : n ≤ i
  · rw [if_pos h, decide_eq_true h, Bool.true_and, bt_test]
  · rw [if_neg h, decide_eq_false h, Bool.false_and]; rfl
theorem bt_div (x n i : Nat) : bt (x / 2 ^ n) i = bt x (i + n) := by
  show x / 2 ^ n / 2 ^ i % 2 = x / 2 ^ (i + n) % 2
  rw [Nat.div_div_eq_div_mul, ← Nat.pow_add, Nat.add_comm]
theorem shr_bits (a : Word) (n i : Nat) (hi : i < 256) : bt (a.num / 2 ^ n) i = mvF a.num (-(n : Int)) 0 i := by
  rw [bt_div]
  unfold mvF
  by_cases h : i + n < 256
  · rw [if_pos (by omega), show ((i : Int) - -(n : Int)).toNat = i + n from by omega]
  · rw [if_neg (by omega), bt_top a.num_lt (by omega)]
theorem rshl_spec (b a : Word) : FnV Tryz.prog 64 [b.v, a.v] [] (shlW b a).v := by
  have hs := small_spec b 256 (by decide)
  have h := moved_spec a ((min b.num 256 : Nat) : Int) 0 (by omega) (by decide)
  rw [sum_bits (y := a.num * 2 ^ min b.num 256) (fun i hi => by
    rw [bt_mul]
    unfold mvF
    by_cases h : min b.num 256 ≤ i
    · rw [if_pos h, if_pos (by omega), show ((i : Int) - ((min b.num 256 : Nat) : Int)).toNat = i - min b.num 256 from by omega]
    · rw [if_neg h, if_neg (by omega)])] at h
  refine Fn.enter Tryz.func64 rfl Tryz.ntmps64 (by simp) (fun I0 w0 => ?_)
  repeat (first | (refine sty ?_; try intro _) | (refine st ?_; try intro _) | (refine stz ?_; try intro _))
  refine W.drawA 3 [dq _, dq _, dq _] [[], [], [1]] [0, 2] (hrest := fun c => nrm ?_) (hops := by
    iterate 2 refine AllQ.az ?_
    refine AllQ.mk (by intro c z0 Φr Lr K; refine nrm ?_; intro hK; refine o_callV rfl rfl rfl rfl hs rfl ?_; exact hK z0) ?_
    exact AllQ.nil)
  repeat (first | (refine sty ?_; try intro _) | (refine st ?_; try intro _) | (refine stz ?_; try intro _))
  refine o_callV rfl rfl rfl rfl h rfl ?_
  repeat (first | (refine sty ?_; try intro _) | (refine st ?_; try intro _) | (refine stz ?_; try intro _))
  refine G.retV ?_
  rfl
theorem rshr_spec (b a : Word) : FnV Tryz.prog 65 [b.v, a.v] [] (shrW b a).v := by
  have hs := small_spec b 256 (by decide)
  have h := moved_spec a (-((min b.num 256 : Nat) : Int)) 0 (by omega) (by decide)
  rw [sum_bits (y := a.num / 2 ^ min b.num 256) (fun i hi => shr_bits a _ i hi)] at h
  refine Fn.enter Tryz.func65 rfl Tryz.ntmps65 (by simp) (fun I0 w0 => ?_)
  repeat (first | (refine sty ?_; try intro _) | (refine st ?_; try intro _) | (refine stz ?_; try intro _))
  refine W.drawA 4 [dq _, dq _, dq _, dq _] [[], [], [1], [2]] [0, 3] (hrest := fun c => nrm ?_) (hops := by
    iterate 2 refine AllQ.az ?_
    refine AllQ.mk (by intro c z0 Φr Lr K; refine nrm ?_; intro hK; refine o_callV rfl rfl rfl rfl hs rfl ?_; exact hK z0) ?_
    iterate 1 refine AllQ.az ?_
    exact AllQ.nil)
  repeat (first | (refine sty ?_; try intro _) | (refine st ?_; try intro _) | (refine stz ?_; try intro _))
  refine o_callV rfl rfl rfl rfl h rfl ?_
  repeat (first | (refine sty ?_; try intro _) | (refine st ?_; try intro _) | (refine stz ?_; try intro _))
  refine G.retV ?_
  rfl
theorem neg_bt (a : Word) : bt a.num 255 = if negW a then 1 else 0 := by
  have h := over_iff a
  have hl := a.num_lt
  have e : negW a = decide (top256 ≤ 2 * a.num) := decide_eq_decide.2 h
  rw [e]
  show a.num / 2 ^ 255 % 2 = _
  have e2 : top256 = 2 * 2 ^ 255 := by kernel_rfl
  have hd : a.num / 2 ^ 255 < 2 := Nat.div_lt_of_lt_mul (by rw [Nat.mul_comm, ← e2]; exact hl)
  rw [Nat.mod_eq_of_lt hd]
  by_cases h2 : top256 ≤ 2 * a.num
  · rw [decide_eq_true h2, if_pos rfl]
    have : 1 ≤ a.num / 2 ^ 255 := (Nat.le_div_iff_mul_le (Nat.pow_pos (by decide))).2 (by rw [e2] at h2; omega)
    omega
  · rw [decide_eq_false h2, if_neg (by decide)]
    exact Nat.div_eq_of_lt (by rw [e2] at h2; omega)
theorem not_bits (w : Word) {i : Nat} (hi : i < 256) : bt (notW w).num i = 1 - bt w.num i := by
  unfold notW
  rw [bt_num hi, bt_test, bt_test, not_test w.num_lt hi]
  cases w.num.testBit i <;> rfl
theorem sar_bits (b a : Word) (i : Nat) (hi : i < 256) : bt (sarW b a).num i = mvF a.num (-((min b.num 256 : Nat) : Int)) (bt a.num 255) i := by
  rw [neg_bt]
  unfold sarW
  cases hn : negW a
  · rw [if_neg (by decide), if_neg (by decide)]
    unfold shrW
    rw [bt_num hi, shr_bits a _ i hi]
  · rw [if_pos rfl, if_pos rfl, not_bits _ hi]
    unfold shrW
    rw [bt_num hi, shr_bits (notW a) _ i hi]
    unfold mvF
    by_cases h : 0 ≤ (i : Int) - -((min b.num 256 : Nat) : Int) ∧ (i : Int) - -((min b.num 256 : Nat) : Int) < 256
    · rw [if_pos h, if_pos h, not_bits _ (by omega)]
      have := bt_lt a.num (((i : Int) - -((min b.num 256 : Nat) : Int)).toNat)
      omega
    · rw [if_neg h, if_neg h]
theorem bits_given (w : Word) : FnD Tryz.prog 109 [w.v] [] (fun v => [fRp v (rowN 256 (bt w.num))]) := Fn.given (bits_spec w)
theorem rsar_spec (b a : Word) : FnV Tryz.prog 66 [b.v, a.v] [] (sarW b a).v := by
  have hs := small_spec b 256 (by decide)
  have h := moved_spec a (-((min b.num 256 : Nat) : Int)) (bt a.num 255) (by omega) (bt_lt _ _)
  rw [sum_bits (y := (sarW b a).num) (fun i hi => sar_bits b a i hi), Word.nat_num] at h
  refine Fn.enter Tryz.func66 rfl Tryz.ntmps66 (by simp) (fun I0 w0 => ?_)
  repeat (first | (refine sty ?_; try intro _) | (refine st ?_; try intro _) | (refine stz ?_; try intro _))
  refine W.drawA 8 [dq _, dq _, dq _, dq _, dq _, dk _, dk _, dq _] [[], [], [1], [2], [], [4], [5], [6]] [0, 3, 7] (hrest := fun c => nrm ?_) (hops := by
    iterate 2 refine AllQ.az ?_
    refine AllQ.mk (by intro c z0 Φr Lr K; refine nrm ?_; intro hK; refine o_callV rfl rfl rfl rfl hs rfl ?_; exact hK z0) ?_
    iterate 2 refine AllQ.az ?_
    refine AllQ.mk (by intro c z0 Φr Lr K; refine nrm ?_; intro hK; refine o_callD rfl rfl rfl rfl (bits_given a) ?_; exact hK) ?_
    iterate 2 refine AllQ.az ?_
    exact AllQ.nil)
  repeat (first | (refine sty ?_; try intro _) | (refine st ?_; try intro _) | (refine stz ?_; try intro _))
  refine o_callV rfl rfl rfl rfl h rfl ?_
  repeat (first | (refine sty ?_; try intro _) | (refine st ?_; try intro _) | (refine stz ?_; try intro _))
  refine G.retV ?_
  rfl
theorem pow256 (k : Nat) : (256 : Nat) ^ k = 2 ^ (8 * k) := by rw [show (256 : Nat) = 2 ^ 8 from rfl, ← Nat.pow_mul]
theorem dgB (n k : Nat) : (UInt8.ofNat (dg n k)).toNat = dg n k := by
  rw [UInt8.toNat_ofNat']
  exact Nat.mod_eq_of_lt (Nat.mod_lt _ (by decide))
def bD (n k : Nat) : Nat := (UInt8.ofNat (dg n k)).toNat
instance fvBD (n k : Nat) : FV (.int .u8 ((bD n k : Nat) : Int)) UInt8 (UInt8.ofNat (dg n k)) := ⟨rfl⟩
theorem rbytes_spec (a : Word) : FnV Tryz.prog 114 [a.v] [] (.string (ba (byN a.num))) := by
  have hlen := byN_len a.num
  refine Fn.enter Tryz.func114 rfl Tryz.ntmps114 (by simp) (fun I0 w0 => ?_)
  repeat (first | (refine sty ?_; try intro _) | (refine st ?_; try intro _) | (refine stz ?_; try intro _))
  rename_i b1
  refine o_callO rfl rfl rfl rfl (digits_spec a) ?_
  intro vx ox hox
  refine G.giveOwn2 vx (rowN 32 (dg a.num)) ox 3 hox inferInstance (List.Perm.refl _) ?_
  rw [show rowN 32 (dg a.num) = rowN 32 (bD a.num) from rowZ_congr (fun k _ => congrArg Int.ofNat (dgB a.num k).symm)]
  repeat (first | (refine sty ?_; try intro _) | (refine st ?_; try intro _) | (refine stz ?_; try intro _))
  refine W.lp (S := Nat × Value × OR) (fun s => ([fRow (ocells s.2.2) ((byN a.num).take (32 - s.1)), fRp vx (rowN 32 (bD a.num))], [(5, .int .i64 ((s.1 : Int) - 1)), (4, s.2.1), (3, vx)], ownM 5 s.2.2)) (fun s => s.1 ≤ 32 ∧ IsOwn 1 s.2.1 ((byN a.num).take (32 - s.1)).length s.2.2) (fun s => s.1) (32, .slice none 0 0, none) ?_ (h0 := ⟨Nat.le_refl _, rfl, rfl⟩) (hM := List.nil_sublist _) (hΦ := by show Ents _ [fRow [] ([] : List UInt8), fRp vx (rowN 32 (bD a.num))]; infer_instance)
  rintro ⟨s, w, o⟩ ⟨hi, hown⟩
  dsimp only at hi hown ⊢
  cases s with
  | zero =>
    rw [Nat.sub_zero, ← hlen, List.take_length] at hown ⊢
    refine W.bare (G.giveOwn2 (Mr := []) w (byN a.num) o 5 hown inferInstance (List.Perm.refl _) ?_)
    refine G.code ?_
    repeat (first | (refine sty ?_; try intro _) | (refine st ?_; try intro _) | (refine stz ?_; try intro _))
    refine G.retV ?_
    rfl
  | succ m =>
    have hb : bD a.num m < 256 := (UInt8.ofNat (dg a.num m)).toNat_lt
    have he : (byN a.num).take (32 - m) = (byN a.num).take (32 - (m + 1)) ++ [UInt8.ofNat (dg a.num m)] := by
      have h1 := byN_at a.num (32 - (m + 1)) (by omega)
      obtain ⟨h2, h3⟩ := List.getElem?_eq_some_iff.1 h1
      rw [show 32 - m = 32 - (m + 1) + 1 from by omega, List.take_succ_eq_append_getElem h2, h3, show 31 - (32 - (m + 1)) = m from by omega, ← pow256]
    have hl2 : ((byN a.num).take (32 - (m + 1))).length = 31 - m := by rw [List.length_take]; omega
    rw [show ((m + 1 : Nat) : Int) - 1 = (m : Int) from by omega]
    repeat (first | (refine sty ?_; try intro _) | (refine st ?_; try intro _) | (refine stz ?_; try intro _))
    refine o_app2 (Mr := []) o (xs := (byN a.num).take (32 - (m + 1))) (ys := [UInt8.ofNat (dg a.num m)]) hown ⟨by simp [hl2]; omega, by simp [hl2]; omega, rfl⟩ rfl rfl rfl rfl inferInstance inferInstance (List.Perm.refl _) ?_
    intro w' o' hown'
    rw [← he] at hown' ⊢
    dsimp only [List.nil_append]
    repeat (first | (refine sty ?_; try intro _) | (refine st ?_; try intro _) | (refine stz ?_; try intro _))
    exact G.ag (S := Nat × Value × OR) (m, w', o') (hpre := ⟨by dsimp only; omega, hown'⟩)
theorem of_nat0 (t : Nat) (ht : t < 256) : Word.of (t : Int) = Word.nat t := by
  have h : ∀ k : Fin 256, Word.of ((k.val : Nat) : Int) = Word.nat k.val := by decide +kernel
  exact h ⟨t, ht⟩
theorem rbyte_spec (a b : Word) : FnV Tryz.prog 63 [a.v, b.v] [] (byteW a b).v := by
  have hl := small_spec a 32 (by decide)
  have hb := rbytes_spec b
  refine Fn.enter Tryz.func63 rfl Tryz.ntmps63 (by simp) (fun I0 w0 => ?_)
  by_cases h : 32 ≤ a.num
  · rw [show min a.num 32 = 32 from by omega] at hl
    repeat (first | (refine sty ?_; try intro _) | (refine st ?_; try intro _) | (refine stz ?_; try intro _))
    refine o_callV rfl rfl rfl rfl hl rfl ?_
    repeat (first | (refine sty ?_; try intro _) | (refine st ?_; try intro _) | (refine stz ?_; try intro _))
    refine G.retV ?_
    rw [byteW, if_pos h]; rfl
  · rw [show min a.num 32 = a.num from by omega] at hl
    obtain ⟨hlt, he⟩ := List.getElem?_eq_some_iff.1 (byN_at b.num a.num (by omega))
    have hof := of_spec ((b.num / 2 ^ (8 * (31 - a.num)) % 256 : Nat) : Int)
    have e1 : (UInt8.ofNat (b.num / 2 ^ (8 * (31 - a.num)) % 256)).toNat = b.num / 2 ^ (8 * (31 - a.num)) % 256 := by
      rw [UInt8.toNat_ofNat', Nat.mod_mod]
    have hlt2 : b.num / 2 ^ (8 * (31 - a.num)) % 256 < 256 := Nat.mod_lt _ (by decide)
    have hw : Word.of ((b.num / 2 ^ (8 * (31 - a.num)) % 256 : Nat) : Int) = Word.nat (b.num / 2 ^ (8 * (31 - a.num)) % 256) := by
      generalize b.num / 2 ^ (8 * (31 - a.num)) % 256 = t at hlt2
      exact of_nat0 t (by omega)
    rw [hw] at hof
    repeat (first | (refine sty ?_; try intro _) | (refine st ?_; try intro _) | (refine stz ?_; try intro _))
    refine o_callV rfl rfl rfl rfl hl rfl ?_
    repeat (first | (refine sty ?_; try intro _) | (refine st ?_; try intro _) | (refine stz ?_; try intro _))
    refine o_callV rfl rfl rfl rfl hb rfl ?_
    repeat (first | (refine sty ?_; try intro _) | (refine st ?_; try intro _) | (refine stz ?_; try intro _))
    rw [he, e1]
    repeat (first | (refine sty ?_; try intro _) | (refine st ?_; try intro _) | (refine stz ?_; try intro _))
    refine G.retV ?_
    rw [byteW, if_neg h, ← hw]; rfl
end Go.Rail
