/- Layer 16: ComputeWays, walked. -/
import Derived.Test.YtomifglegeelaaaGreatDoorAC19C21
namespace Go.Rail
open Go Go.Proofs
set_option linter.unusedSimpArgs false
set_option linter.unusedVariables false
set_option maxHeartbeats 400000
set_option maxRecDepth 4000
attribute [local irreducible] OpK G W LW wpListIn Exit.then Exit.inBlock Post rounds opRun bodyPostM intOp
set_option maxHeartbeats 16000000
set_option maxRecDepth 20000
attribute [local irreducible] lexN cmpW Word.nat subW mulW addW divW modW sdivW smodW addmodW mulmodW expW andW orW xorW notW shlW shrW sarW byteW signW lessW
theorem top_at (n : Nat) (hn : n < 256) (v : Value) (l : List Word) {w : Word} {is : Bool} (h : topL n l = (w, is)) (hl : l.length ≤ 100000 := by simp) : FnV Tryz.prog 17 [.int .u8 (n : Int), v] [fRp v l] (.tuple #[w.v, .bool is]) := by
  have := top16_spec n hn v l hl
  rwa [h] at this
theorem top_cv (n : Nat) (hn : n < 256) (l : List Word) (w : Word) (is : Bool) (h : topL n l = (w, is)) (hl : l.length ≤ 100000 := by simp) (m : Int := (n : Int)) (hm : m = (n : Int) := by rfl) (v : Value) (Φ : List Fa) [k : KRp Φ v l] : CV Tryz.prog 17 [.int .u8 m, v] Φ (.tuple #[w.v, .bool is]) := by
  subst hm
  exact ⟨Fn.weaken (top_at n hn v l h hl)⟩
theorem cmp_tri (a b : Word) : (cmpW a b < 0 ∧ ¬ 0 < cmpW a b ∧ a ≠ b) ∨ (¬ cmpW a b < 0 ∧ 0 < cmpW a b ∧ a ≠ b) ∨ (¬ cmpW a b < 0 ∧ ¬ 0 < cmpW a b ∧ a = b) := by
  have h := cmpW_num a b
  have hn : a.num = b.num ↔ a = b := Word.num_inj
  rcases Nat.lt_trichotomy a.num b.num with h1 | h1 | h1
  · rw [if_pos h1] at h
    exact .inl ⟨by omega, by omega, fun e => by rw [e] at h1; omega⟩
  · rw [if_neg (by omega), if_neg (by omega)] at h
    exact .inr (.inr ⟨by omega, by omega, hn.1 h1⟩)
  · rw [if_neg (by omega), if_pos h1] at h
    exact .inr (.inl ⟨by omega, by omega, fun e => by rw [e] at h1; omega⟩)
theorem flip_inj {a b : Word} (h : flipW a = flipW b) : a = b := by
  obtain ⟨a0, a1, a2, a3⟩ := a
  obtain ⟨b0, b1, b2, b3⟩ := b
  simp only [flipW, Word.mk.injEq] at h ⊢
  refine ⟨h.1, h.2.1, h.2.2.1, ?_⟩
  have h3 := congrArg UInt64.toNat h.2.2.2
  rw [UInt64.toNat_ofNat', UInt64.toNat_ofNat', Nat.mod_eq_of_lt (xor_lt64 a3.toNat_lt (by decide)), Nat.mod_eq_of_lt (xor_lt64 b3.toNat_lt (by decide))] at h3
  have h4 := congrArg (· ^^^ 9223372036854775808) h3
  simp only [Nat.xor_assoc, Nat.xor_self, Nat.xor_zero] at h4
  exact UInt64.toNat_inj.1 h4
theorem less_tri (a b : Word) : (lessW a b = true ∧ lessW b a = false ∧ a ≠ b) ∨ (lessW a b = false ∧ lessW b a = true ∧ a ≠ b) ∨ (lessW a b = false ∧ lessW b a = false ∧ a = b) := by
  have e1 : lessW a b = decide (cmpW (flipW a) (flipW b) < 0) := by with_unfolding_all rfl
  have e2 : lessW b a = decide (cmpW (flipW b) (flipW a) < 0) := by with_unfolding_all rfl
  have e3 : cmpW (flipW b) (flipW a) = - cmpW (flipW a) (flipW b) := by with_unfolding_all exact lexN_anti _ _
  rw [e1, e2, e3]
  rcases cmp_tri (flipW a) (flipW b) with h | h | h
  · exact .inl ⟨decide_eq_true h.1, decide_eq_false (by omega), fun e => h.2.2 (by rw [e])⟩
  · exact .inr (.inl ⟨decide_eq_false h.1, decide_eq_true (by omega), fun e => h.2.2 (by rw [e])⟩)
  · exact .inr (.inr ⟨decide_eq_false h.1, decide_eq_false (by omega), flip_inj h.2.2⟩)
def W1 : Word := ⟨1, 0, 0, 0⟩
theorem flag_t : flagW true = W1 := rfl
theorem flag_f : flagW false = Word.zero := rfl
theorem sub_add (a b : Word) : subW (addW a b) b = a := by
  rw [show subW (addW a b) b = Word.nat ((addW a b).num + (top256 - b.num)) from by with_unfolding_all rfl, show addW a b = Word.nat (a.num + b.num) from by with_unfolding_all rfl, Word.num_nat]
  have ha := a.num_lt; have hb := b.num_lt
  rw [← Word.nat_num a, Word.num_nat]
  apply Word.nat_eq
  simp only [top256] at *
  omega
theorem add_comm (a b : Word) : addW a b = addW b a := by
  rw [show addW a b = Word.nat (a.num + b.num) from by with_unfolding_all rfl, show addW b a = Word.nat (b.num + a.num) from by with_unfolding_all rfl, Nat.add_comm]
theorem not_not (a : Word) : notW (notW a) = a := by
  rw [show ∀ x, notW x = Word.nat (top256 - 1 - x.num) from fun _ => by with_unfolding_all rfl]
  have ha := a.num_lt
  rw [show notW a = Word.nat (top256 - 1 - a.num) from by with_unfolding_all rfl, Word.num_nat]
  rw [← Word.nat_num a, Word.num_nat]
  apply Word.nat_eq
  simp only [top256] at *
  omega
theorem shl_zero (a : Word) : shlW .zero a = a := by
  rw [show shlW .zero a = Word.nat (a.num * 2 ^ min Word.zero.num 256) from by with_unfolding_all rfl, Word.zero_num, Nat.zero_min, Nat.pow_zero, Nat.mul_one, Word.nat_num]
theorem flag_parts (c : Bool) : (flagW c).a.toNat ≤ 1 ∧ (flagW c).b.toNat = 0 ∧ (flagW c).c.toNat = 0 ∧ (flagW c).d.toNat = 0 ∧ (flagW c).a.toNat = if c then 1 else 0 := by
  cases c <;> decide
instance : EqOn Tryz.prog 41 (.agg [.int .u64 1, .int .u64 1].toArray) (.agg [.int .u64 1, .int .u64 1].toArray) true := by
  have h : ∀ w, (Op.equalIn 10000 41 (.agg [.int .u64 1, .int .u64 1].toArray) (.agg [.int .u64 1, .int .u64 1].toArray)).run Tryz.prog w = .ok true w := fun w => by
    obtain ⟨i, hi⟩ := info_some (P := Tryz.prog) (t := 22) (by kernel_rfl)
    exact run_equalIn_ints (P := Tryz.prog) (d := 9998) (k := .u64) Tryz.underlying41 Tryz.underlying22 hi (by kernel_rfl) Tryz.isAgg22 [1, 1] [1, 1] rfl rfl w
  exact ⟨fun w => by rw [run_eql_struct, h]; simp only [Result.andThen_ok], fun w => by rw [run_neq_struct, h]; simp only [Result.andThen_ok], fun op p q w => run_eqGuard_agg _ _ _ _ _ _ _ (by kernel_rfl)⟩
theorem ways_walk (a b : Word) : FnV Tryz.prog 5 [a.v, b.v] [] (.bool true) := by
  have c1 := cmp_tri a b
  have c2 := less_tri a b
  have h16 := fun v => top_at 16 (by decide) v [b, a] (w := flagW (decide (cmpW a b < 0))) (is := true) (by kernel_rfl)
  have h17 := fun v => top_at 17 (by decide) v [b, a] (w := flagW (decide (0 < cmpW a b))) (is := true) (by kernel_rfl)
  have h20 := fun v => top_at 20 (by decide) v [b, a] (w := flagW (decide (a = b))) (is := true) (by kernel_rfl)
  have h18 := fun v => top_at 18 (by decide) v [b, a] (w := flagW (lessW a b)) (is := true) (by kernel_rfl)
  have h19 := fun v => top_at 19 (by decide) v [b, a] (w := flagW (lessW b a)) (is := true) (by kernel_rfl)
  haveI s1 := top_cv 1 (by decide) [a, b] (addW b a) true (by kernel_rfl)
  haveI s3 := top_cv 3 (by decide) [b, addW b a] a true (by rw [show topL 3 [b, addW b a] = (subW (addW b a) b, true) from by kernel_rfl, add_comm, sub_add])
  haveI s25 := top_cv 25 (by decide) [a] (notW a) true (by kernel_rfl)
  haveI s25' := top_cv 25 (by decide) [notW a] a true (by rw [show topL 25 [notW a] = (notW (notW a), true) from by kernel_rfl, not_not])
  haveI s21 := top_cv 21 (by decide) [a] (flagW (decide (a = .zero))) true (by kernel_rfl)
  haveI s210 := top_cv 21 (by decide) [.zero] W1 true (by kernel_rfl)
  haveI s211 := top_cv 21 (by decide) [W1] .zero true (by kernel_rfl)
  haveI s27 := top_cv 27 (by decide) [a, .zero] a true (by rw [show topL 27 [a, .zero] = (shlW .zero a, true) from by kernel_rfl, shl_zero])
  refine Fn.enter Tryz.func5 rfl Tryz.ntmps5 (by simp) (fun I0 w0 => ?_)
  repeat (refine st ?_; try intro _)
  refine o_callV rfl rfl rfl rfl awake16_spec rfl ?_
  repeat (refine st ?_; try intro _)
  refine o_lit (xs := ([16, 17, 20, 18, 19, 20] : List UInt8)) ⟨by decide, rfl, by decide⟩ rfl rfl rfl ⟨fun _ _ => Rp.flat.2 rfl, fun _ _ => Rp.flat.2 rfl, fun _ _ => Rp.flat.2 rfl, fun _ _ => Rp.flat.2 rfl, fun _ _ => Rp.flat.2 rfl, fun _ _ => Rp.flat.2 rfl, trivial⟩ rfl ?_
  intro ls
  repeat (refine st ?_; try intro _)
  rename_i b2 b3 b6
  refine W.cutB [] [(2, .pointer (some ⟨b2, 0, none⟩)), (3, .pointer (some ⟨b3, 0, none⟩)), (5, .bool true), (6, .pointer (some ⟨b6, 0, none⟩))] [(b6, Ob [.int .u64 1, .int .u64 1] 41), (b3, Ob (cellsL b.v) 24), (b2, Ob (cellsL a.v) 24)] ?_ ?_
  · have u0 := flag_parts (decide (cmpW a b < 0)); have u1 := flag_parts (decide (0 < cmpW a b)); have u2 := flag_parts (decide (a = b)); have u3 := flag_parts (lessW a b); have u4 := flag_parts (lessW b a)
    have e1 : (flagW (decide (cmpW a b < 0))).a.toNat + (flagW (decide (0 < cmpW a b))).a.toNat + (flagW (decide (a = b))).a.toNat = 1 := by
      rw [u0.2.2.2.2, u1.2.2.2.2, u2.2.2.2.2]
      simp only [decide_eq_true_eq]
      rcases c1 with ⟨x1, x2, x3⟩ | ⟨x1, x2, x3⟩ | ⟨x1, x2, x3⟩
      · rw [if_pos x1, if_neg x2, if_neg x3]
      · rw [if_neg x1, if_pos x2, if_neg x3]
      · rw [if_neg x1, if_neg x2, if_pos x3]
    have e2 : (flagW (lessW a b)).a.toNat + (flagW (lessW b a)).a.toNat + (flagW (decide (a = b))).a.toNat = 1 := by
      rw [u3.2.2.2.2, u4.2.2.2.2, u2.2.2.2.2]
      simp only [decide_eq_true_eq]
      rcases c2 with ⟨x1, x2, x3⟩ | ⟨x1, x2, x3⟩ | ⟨x1, x2, x3⟩
      · rw [x1, x2, if_neg x3]; rfl
      · rw [x1, x2, if_neg x3]; rfl
      · rw [x1, x2, if_pos x3]; rfl
    clear c1 c2
    generalize flagW (decide (cmpW a b < 0)) = w0 at *
    generalize flagW (decide (0 < cmpW a b)) = w1 at *
    generalize flagW (decide (a = b)) = w2 at *
    generalize flagW (lessW a b) = w3 at *
    generalize flagW (lessW b a) = w4 at *
    obtain ⟨u01, u02, u03, u04, -⟩ := u0; obtain ⟨u11, u12, u13, u14, -⟩ := u1; obtain ⟨u21, u22, u23, u24, -⟩ := u2; obtain ⟨u31, u32, u33, u34, -⟩ := u3; obtain ⟨u41, u42, u43, u44, -⟩ := u4
    clear s1 s3 s25 s25' s21 s210 s211 s27
    refine W.lp (fun (i : Nat) => ([fRp ls ([16, 17, 20, 18, 19, 20] : List UInt8)], [(2, .pointer (some ⟨b2, 0, none⟩)), (3, .pointer (some ⟨b3, 0, none⟩)), (5, .bool true), (6, .pointer (some ⟨b6, 0, none⟩)), (27, ls), (28, .int .i64 6), (29, .int .i64 (i : Int))],
      [(b6, Ob [.int .u64 ((([0, 0 + w0.a.toNat, 0 + w0.a.toNat + w1.a.toNat, 0 + w0.a.toNat + w1.a.toNat + w2.a.toNat, 0 + w0.a.toNat + w1.a.toNat + w2.a.toNat, 0 + w0.a.toNat + w1.a.toNat + w2.a.toNat, 0 + w0.a.toNat + w1.a.toNat + w2.a.toNat] : List Nat).getD i 0 : Nat) : Int), .int .u64 ((([0, 0, 0, 0, 0 + w3.a.toNat, 0 + w3.a.toNat + w4.a.toNat, 0 + w3.a.toNat + w4.a.toNat + w2.a.toNat] : List Nat).getD i 0 : Nat) : Int)] 41), (b3, Ob (cellsL b.v) 24), (b2, Ob (cellsL a.v) 24)])) (fun i => i ≤ 6) (fun i => 6 - i) 0 ?_
    intro i hi
    match i, hi with
    | 0, _ =>
      dsimp only [getD_z, getD_s]
      repeat (refine st ?_; try intro _)
      refine o_callV rfl rfl rfl rfl (h16 _) rfl ?_
      repeat (refine st ?_; try intro _)
      refine W.drawA 9 [dq _, dq _, dq _, dq _, dq _, dq _, dq _, dq _, dq _] [[], [0], [], [2], [3], [4], [], [6], [5,7]] [1, 8] (hrest := fun c => nrm ?_)
      repeat (refine st ?_; try intro _)
      exact G.ag 1 (hM := .cons _ (List.Sublist.refl _))
    | 1, _ =>
      dsimp only [getD_z, getD_s]
      repeat (refine st ?_; try intro _)
      refine o_callV rfl rfl rfl rfl (h17 _) rfl ?_
      repeat (refine st ?_; try intro _)
      refine W.drawA 9 [dq _, dq _, dq _, dq _, dq _, dq _, dq _, dq _, dq _] [[], [0], [], [2], [3], [4], [], [6], [5,7]] [1, 8] (hrest := fun c => nrm ?_)
      repeat (refine st ?_; try intro _)
      exact G.ag 2 (hM := .cons _ (List.Sublist.refl _))
    | 2, _ =>
      dsimp only [getD_z, getD_s]
      repeat (refine st ?_; try intro _)
      refine o_callV rfl rfl rfl rfl (h20 _) rfl ?_
      repeat (refine st ?_; try intro _)
      refine W.drawA 9 [dq _, dq _, dq _, dq _, dq _, dq _, dq _, dq _, dq _] [[], [0], [], [2], [3], [4], [], [6], [5,7]] [1, 8] (hrest := fun c => nrm ?_)
      repeat (refine st ?_; try intro _)
      exact G.ag 3 (hM := .cons _ (List.Sublist.refl _))
    | 3, _ =>
      dsimp only [getD_z, getD_s]
      repeat (refine st ?_; try intro _)
      refine o_callV rfl rfl rfl rfl (h18 _) rfl ?_
      repeat (refine st ?_; try intro _)
      refine W.drawA 9 [dq _, dq _, dq _, dq _, dq _, dq _, dq _, dq _, dq _] [[], [0], [], [2], [3], [4], [], [6], [5,7]] [1, 8] (hrest := fun c => nrm ?_)
      repeat (refine st ?_; try intro _)
      exact G.ag 4 (hM := .cons _ (List.Sublist.refl _))
    | 4, _ =>
      dsimp only [getD_z, getD_s]
      repeat (refine st ?_; try intro _)
      refine o_callV rfl rfl rfl rfl (h19 _) rfl ?_
      repeat (refine st ?_; try intro _)
      refine W.drawA 9 [dq _, dq _, dq _, dq _, dq _, dq _, dq _, dq _, dq _] [[], [0], [], [2], [3], [4], [], [6], [5,7]] [1, 8] (hrest := fun c => nrm ?_)
      repeat (refine st ?_; try intro _)
      exact G.ag 5 (hM := .cons _ (List.Sublist.refl _))
    | 5, _ =>
      dsimp only [getD_z, getD_s]
      repeat (refine st ?_; try intro _)
      refine o_callV rfl rfl rfl rfl (h20 _) rfl ?_
      repeat (refine st ?_; try intro _)
      refine W.drawA 9 [dq _, dq _, dq _, dq _, dq _, dq _, dq _, dq _, dq _] [[], [0], [], [2], [3], [4], [], [6], [5,7]] [1, 8] (hrest := fun c => nrm ?_)
      repeat (refine st ?_; try intro _)
      exact G.ag 6 (hM := .cons _ (List.Sublist.refl _))
    | 6, _ =>
      dsimp only [getD_z, getD_s]
      rw [show 0 + w0.a.toNat + w1.a.toNat + w2.a.toNat = 1 from by omega, show 0 + w3.a.toNat + w4.a.toNat + w2.a.toNat = 1 from by omega]
      repeat (refine st ?_; try intro _)
      exact G.kpA
  · clear h16 h17 h18 h19 h20 c1 c2
    by_cases hz : a = .zero
    · rw [decide_eq_true hz, flag_t] at s21
      repeat (refine st ?_; try intro _)
      refine W.drawA 49 (dq _ :: dq _ :: dq _ :: dq _ :: dq _ :: dq _ :: dq _ :: dq _ :: dq _ :: dq _ :: dq _ :: dq _ :: dq _ :: dq _ :: dq _ :: dq _ :: dq _ :: dq _ :: dq _ :: dq _ :: dq _ :: dq _ :: dq _ :: dq _ :: dq _ :: dq _ :: dq _ :: dq _ :: dq _ :: dq _ :: dq _ :: dq _ :: dq _ :: dq _ :: dq _ :: dq _ :: dq _ :: dq _ :: dq _ :: dq _ :: dq _ :: dq _ :: dq _ :: dq _ :: dq _ :: dq _ :: dq _ :: dq _ :: dq _ :: []) ([] :: [0] :: [1] :: [1] :: [1,2,3] :: [1,4] :: [5] :: [6] :: [6,7] :: [8] :: [9] :: [9,10] :: [11] :: [12] :: [12] :: [12,13,14] :: [12,15] :: [16] :: [17] :: [17,18] :: [19] :: [20] :: [20,21] :: [22] :: [23] :: [23] :: [23,24,25] :: [23,26] :: [27] :: [28] :: [28,29] :: [30] :: [31] :: [31,32] :: [33] :: [34] :: [34] :: [34,35,36] :: [34] :: [34] :: [34,38,39] :: [34,37,40] :: [34,41] :: [42] :: [43] :: [43,44] :: [45] :: [46] :: [46] :: []) [46, 47, 48] (hrest := fun c => nrm ?_) (hops := by
        iterate 37 refine AllQ.au ?_
        refine AllQ.mk (by intro c z0 Φr Lr K; refine nrm ?_; intro hK; refine o_eql (u := Word.zero.v) (v := W1.v) rfl rfl rfl rfl (r := false) (by kernel_rfl) ?_; exact hK z0) ?_
        iterate 11 refine AllQ.au ?_
        exact AllQ.nil)
      repeat (refine st ?_; try intro _)
      refine G.retV ?_
      rfl
    · rw [decide_eq_false hz, flag_f] at s21
      repeat (refine st ?_; try intro _)
      refine W.drawA 49 (dq _ :: dq _ :: dq _ :: dq _ :: dq _ :: dq _ :: dq _ :: dq _ :: dq _ :: dq _ :: dq _ :: dq _ :: dq _ :: dq _ :: dq _ :: dq _ :: dq _ :: dq _ :: dq _ :: dq _ :: dq _ :: dq _ :: dq _ :: dq _ :: dq _ :: dq _ :: dq _ :: dq _ :: dq _ :: dq _ :: dq _ :: dq _ :: dq _ :: dq _ :: dq _ :: dq _ :: dq _ :: dq _ :: dq _ :: dq _ :: dq _ :: dq _ :: dq _ :: dq _ :: dq _ :: dq _ :: dq _ :: dq _ :: dq _ :: []) ([] :: [0] :: [1] :: [1] :: [1,2,3] :: [1,4] :: [5] :: [6] :: [6,7] :: [8] :: [9] :: [9,10] :: [11] :: [12] :: [12] :: [12,13,14] :: [12,15] :: [16] :: [17] :: [17,18] :: [19] :: [20] :: [20,21] :: [22] :: [23] :: [23] :: [23,24,25] :: [23,26] :: [27] :: [28] :: [28,29] :: [30] :: [31] :: [31,32] :: [33] :: [34] :: [34] :: [34,35,36] :: [34] :: [34] :: [34,38,39] :: [34,37,40] :: [34,41] :: [42] :: [43] :: [43,44] :: [45] :: [46] :: [46] :: []) [46, 47, 48] (hrest := fun c => nrm ?_) (hops := by
        iterate 37 refine AllQ.au ?_
        refine AllQ.mk (by intro c z0 Φr Lr K; refine nrm ?_; intro hK; refine o_eql (u := W1.v) (v := W1.v) rfl rfl rfl rfl (r := true) (by kernel_rfl) ?_; exact hK z0) ?_
        iterate 11 refine AllQ.au ?_
        exact AllQ.nil)
      repeat (refine st ?_; try intro _)
      refine G.retV ?_
      rfl
end Go.Rail
