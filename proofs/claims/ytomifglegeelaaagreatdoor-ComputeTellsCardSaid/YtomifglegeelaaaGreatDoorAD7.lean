/- The document's quotients: signed, sums and products modulo, powers. -/
import Derived.Test.YtomifglegeelaaaGreatDoorAD6
namespace Go.Rail
open Go Go.Proofs
set_option linter.unusedSimpArgs false
set_option linter.unusedVariables false
set_option maxHeartbeats 400000
set_option maxRecDepth 4000
attribute [local irreducible] OpK G W LW wpListIn Exit.then Exit.inBlock Post rounds opRun bodyPostM intOp
set_option maxHeartbeats 4000000
attribute [local irreducible] Word.num Word.nat
theorem rdiv_spec (a b : Word) : FnV Tryz.prog 48 [a.v, b.v] [] (divW a b).v := by
  refine Fn.enter Tryz.func48 rfl Tryz.ntmps48 (by simp) (fun I0 w0 => ?_)
  by_cases hb : b = .zero
  · subst hb
    repeat (first | (refine sty ?_; try intro _) | (refine st ?_; try intro _) | (refine stz ?_; try intro _))
    refine G.retV ?_
    unfold divW
    rw [Word.zero_num, Nat.div_zero, Word.nat_zero]
    rfl
  · have hd := divided_spec a b hb
    repeat (first | (refine sty ?_; try intro _) | (refine st ?_; try intro _) | (refine stz ?_; try intro _))
    refine o_callV rfl rfl rfl rfl hd rfl ?_
    repeat (first | (refine sty ?_; try intro _) | (refine st ?_; try intro _) | (refine stz ?_; try intro _))
    refine G.retV ?_
    rfl
theorem rmod_spec (a b : Word) : FnV Tryz.prog 50 [a.v, b.v] [] (modW a b).v := by
  refine Fn.enter Tryz.func50 rfl Tryz.ntmps50 (by simp) (fun I0 w0 => ?_)
  unfold modW
  by_cases hb : b = .zero
  · subst hb
    rw [if_pos rfl]
    repeat (first | (refine sty ?_; try intro _) | (refine st ?_; try intro _) | (refine stz ?_; try intro _))
    refine G.retV ?_
    rfl
  · rw [if_neg hb]
    have hd := divided_spec a b hb
    repeat (first | (refine sty ?_; try intro _) | (refine st ?_; try intro _) | (refine stz ?_; try intro _))
    refine o_callV rfl rfl rfl rfl hd rfl ?_
    repeat (first | (refine sty ?_; try intro _) | (refine st ?_; try intro _) | (refine stz ?_; try intro _))
    refine G.retV ?_
    rfl
instance cvD7_1 (a b : Word) {Φ : List Fa} : CV Tryz.prog 48 [a.v, b.v] Φ (divW a b).v := ⟨Fn.weaken (rdiv_spec a b)⟩
instance cvD7_2 (a b : Word) {Φ : List Fa} : CV Tryz.prog 50 [a.v, b.v] Φ (modW a b).v := ⟨Fn.weaken (rmod_spec a b)⟩
theorem rsdiv_spec (a b : Word) : FnV Tryz.prog 49 [a.v, b.v] [] (sdivW a b).v := by
  refine Fn.enter Tryz.func49 rfl Tryz.ntmps49 (by simp) (fun I0 w0 => ?_)
  unfold sdivW
  repeat (first | (refine sty ?_; try intro _) | (refine st ?_; try intro _) | (refine stz ?_; try intro _))
  refine W.drawAl 6 5 24 [dq _, dq _, dq _, dq _, dq _, dp] [[], [0], [], [2], [1,3], []] [4, 5] (hrest := fun c => nrmX ?_) (hops := by
    refine AllX.a01 ?_ rfl
    refine AllX.a01 ?_ rfl
    refine AllX.a01 ?_ rfl
    refine AllX.a01 ?_ rfl
    refine AllX.a01 ?_ rfl
    refine AllX.ai ?_
    exact AllX.end)
  repeat (first | (refine sty ?_; try intro _) | (refine st ?_; try intro _) | (refine stz ?_; try intro _))
  refine W.drawA 3 [dq _, dq _, dq _] [[], [0], []] [1, 2] (hrest := fun c => nrm ?_) (hops := by
    iterate 3 refine AllQ.az ?_
    exact AllQ.nil)
  by_cases h : negW a = negW b
  · rw [if_neg (fun e => e h)]
    repeat (first | (refine sty ?_; try intro _) | (refine st ?_; try intro _) | (refine stz ?_; try intro _))
    refine G.retV ?_
    rfl
  · rw [if_pos h]
    repeat (first | (refine sty ?_; try intro _) | (refine st ?_; try intro _) | (refine stz ?_; try intro _))
    refine G.retV ?_
    rfl
theorem rsmod_spec (a b : Word) : FnV Tryz.prog 51 [a.v, b.v] [] (smodW a b).v := by
  refine Fn.enter Tryz.func51 rfl Tryz.ntmps51 (by simp) (fun I0 w0 => ?_)
  unfold smodW
  repeat (first | (refine sty ?_; try intro _) | (refine st ?_; try intro _) | (refine stz ?_; try intro _))
  refine W.drawAl 6 5 24 [dq _, dq _, dq _, dq _, dq _, dp] [[], [0], [], [2], [1,3], []] [4, 5] (hrest := fun c => nrmX ?_) (hops := by
    refine AllX.a01 ?_ rfl
    refine AllX.a01 ?_ rfl
    refine AllX.a01 ?_ rfl
    refine AllX.a01 ?_ rfl
    refine AllX.a01 ?_ rfl
    refine AllX.ai ?_
    exact AllX.end)
  cases h : negW a
  · rw [if_neg (by decide)]
    repeat (first | (refine sty ?_; try intro _) | (refine st ?_; try intro _) | (refine stz ?_; try intro _))
    refine G.retV ?_
    rfl
  · rw [if_pos rfl]
    repeat (first | (refine sty ?_; try intro _) | (refine st ?_; try intro _) | (refine stz ?_; try intro _))
    refine G.retV ?_
    rfl
theorem addP (x y n : Word) (hx : x.num < n.num) (hy : y.num < n.num) : subP (addW x y) n (decide (cmpW (addW x y) x < 0)) = Word.nat ((x.num + y.num) % n.num) := by
  have hn := n.num_lt
  have ha := num_add x y
  have hc : (cmpW (addW x y) x < 0) ↔ (addW x y).num < x.num := by
    rw [cmpW_num]
    by_cases h : (addW x y).num < x.num
    · rw [if_pos h]; simp [h]
    · rw [if_neg h]; split <;> simp [h]
  rw [decide_eq_decide.2 hc]
  unfold subP
  by_cases hov : top256 ≤ x.num + y.num
  · have e : (addW x y).num = x.num + y.num - top256 := by rw [ha]; simp only [top256] at *; omega
    rw [decide_eq_true (by rw [e]; omega), Bool.true_or, if_pos rfl, Nat.mod_eq_sub_mod (by omega), Nat.mod_eq_of_lt (a := x.num + y.num - n.num) (by omega)]
    refine Word.nat_eq ?_
    rw [e]
    simp only [top256] at *
    omega
  · have e : (addW x y).num = x.num + y.num := by rw [ha, Nat.mod_eq_of_lt (by omega)]
    rw [e, decide_eq_false (by omega), Bool.false_or]
    by_cases h : n.num ≤ x.num + y.num
    · rw [if_pos (decide_eq_true h), Nat.mod_eq_sub_mod h, Nat.mod_eq_of_lt (a := x.num + y.num - n.num) (by omega)]
      refine Word.nat_eq ?_
      rw [e]
      simp only [top256] at *
      omega
    · rw [if_neg (by rw [decide_eq_false h]; decide), Nat.mod_eq_of_lt (a := x.num + y.num) (by omega), ← e, Word.nat_num]
theorem modW_num {a n : Word} (hn : n ≠ .zero) : (modW a n).num = a.num % n.num ∧ (modW a n).num < n.num := by
  have hn0 : 0 < n.num := by
    rcases Nat.eq_zero_or_pos n.num with h | h
    · exact absurd (Word.num_inj.1 (h.trans Word.zero_num.symm)) hn
    · exact h
  have h := Nat.mod_lt a.num hn0
  have e : (modW a n).num = a.num % n.num := by
    unfold modW
    rw [if_neg hn, Word.num_nat, Nat.mod_eq_of_lt (Nat.lt_trans h n.num_lt)]
  exact ⟨e, by rw [e]; exact h⟩
theorem raddmod_spec (a b n : Word) : FnV Tryz.prog 52 [a.v, b.v, n.v] [] (addmodW a b n).v := by
  refine Fn.enter Tryz.func52 rfl Tryz.ntmps52 (by simp) (fun I0 w0 => ?_)
  unfold addmodW
  by_cases hn : n = .zero
  · subst hn
    rw [if_pos rfl]
    repeat (first | (refine sty ?_; try intro _) | (refine st ?_; try intro _) | (refine stz ?_; try intro _))
    refine G.retV ?_
    rfl
  · rw [if_neg hn]
    obtain ⟨x1, x2⟩ := modW_num (a := a) hn
    obtain ⟨y1, y2⟩ := modW_num (a := b) hn
    have hp := addP (modW a n) (modW b n) n x2 y2
    rw [x1, y1, ← Nat.add_mod] at hp
    repeat (first | (refine sty ?_; try intro _) | (refine st ?_; try intro _) | (refine stz ?_; try intro _))
    refine W.drawAS 12 10 11 24 ((Word.nat ((a.num + b.num) % n.num)).cells) [dq _, dq _, dq _, dq _, dq _, dq _, dq _, dq _, dq _, dq _, dp, dq fun _ _ => .bool false] [[], [], [], [1,2], [3], [], [0,4,5], [6], [7], [7], [], [8,10]] [9, 10] (hrest := fun c => nrmX ?_) (hops := by
      refine AllX.b01 ?_ rfl rfl (by kernel_rfl) (by kernel_rfl)
      refine AllX.b01 ?_ rfl rfl (by kernel_rfl) (by kernel_rfl)
      refine AllX.b01 ?_ rfl rfl (by kernel_rfl) (by kernel_rfl)
      refine AllX.b01 ?_ rfl rfl (by kernel_rfl) (by kernel_rfl)
      refine AllX.b01 ?_ rfl rfl (by kernel_rfl) (by kernel_rfl)
      refine AllX.b01 ?_ rfl rfl (by kernel_rfl) (by kernel_rfl)
      refine AllX.b01 ?_ rfl rfl (by kernel_rfl) (by kernel_rfl) (by intro c z0 Φr Lr K; refine nrmX ?_; intro hK; refine o_callV rfl rfl rfl rfl (rless_spec _ _ _) (by rw [hp]) ?_; exact hK z0) (by intro c z0 Φr Lr K; refine nrmX ?_; intro hK; refine o_callV rfl rfl rfl rfl (rless_spec _ _ _) (by rw [hp]) ?_; exact hK z0)
      refine AllX.b01 ?_ rfl rfl (by kernel_rfl) (by kernel_rfl)
      refine AllX.b01 ?_ rfl rfl (by kernel_rfl) (by kernel_rfl)
      refine AllX.b012 ?_ rfl rfl (by kernel_rfl)
      refine AllX.bi rfl (by kernel_rfl) ?_
      refine AllX.bj rfl (by kernel_rfl) ?_
      exact AllX.end)
    repeat (first | (refine sty ?_; try intro _) | (refine st ?_; try intro _) | (refine stz ?_; try intro _))
    refine G.retV ?_
    rfl
theorem mul_step (a b m n : Nat) : (2 * (a * (b / 2 ^ (m + 1)) % n) + bt b m * (a % n)) % n = a * (b / 2 ^ m) % n := by
  have h1 : b / 2 ^ m = 2 * (b / 2 ^ (m + 1)) + bt b m := by
    rw [Nat.pow_succ, ← Nat.div_div_eq_div_mul]
    show _ = _ + b / 2 ^ m % 2
    omega
  rw [h1]
  generalize b / 2 ^ (m + 1) = B
  generalize bt b m = t
  rw [Nat.mul_add, Nat.add_mod, Nat.mul_mod 2, Nat.mod_mod, ← Nat.mul_mod, Nat.mul_mod t, Nat.mod_mod, ← Nat.mul_mod, ← Nat.add_mod]
  congr 1
  rw [Nat.mul_left_comm, Nat.mul_comm t a]
theorem rmulmod_spec (a b n : Word) : FnV Tryz.prog 53 [a.v, b.v, n.v] [] (mulmodW a b n).v := by
  refine Fn.enter Tryz.func53 rfl Tryz.ntmps53 (by simp) (fun I0 w0 => ?_)
  unfold mulmodW
  by_cases hn : n = .zero
  · subst hn
    rw [if_pos rfl]
    repeat (first | (refine sty ?_; try intro _) | (refine st ?_; try intro _) | (refine stz ?_; try intro _))
    refine G.retV ?_
    rfl
  rw [if_neg hn]
  obtain ⟨x1, x2⟩ := modW_num (a := a) hn
  have hn0 : 0 < n.num := by omega
  have hnl := n.num_lt
  have hbl := b.num_lt
  repeat (first | (refine sty ?_; try intro _) | (refine st ?_; try intro _) | (refine stz ?_; try intro _))
  rename_i b7 b8 b9 b10
  refine o_callO rfl rfl rfl rfl (bits_spec b) ?_
  intro vx ox hox
  refine G.giveOwn2 vx (rowN 256 (bt b.num)) ox 3 hox inferInstance (List.Perm.refl _) ?_
  repeat (first | (refine sty ?_; try intro _) | (refine st ?_; try intro _) | (refine stz ?_; try intro _))
  rename_i b11
  refine W.lp (S := Nat × Word) (fun s => ([fRp vx (rowN 256 (bt b.num))], [(10, .int .i64 ((s.1 : Int) - 1)), (9, .pointer (some ⟨b11, 0, none⟩)), (8, vx), (7, .pointer (some ⟨b10, 0, none⟩)), (6, .pointer (some ⟨b9, 0, none⟩)), (5, .pointer (some ⟨b8, 0, none⟩))], [(b11, Ob (cellsL s.2.v) 24), (b10, Ob (cellsL (modW a n).v) 24), (b9, Ob Word.zero.cells 24), (b8, Ob (cellsL n.v) 24)])) (fun s => s.1 ≤ 256 ∧ s.2.num = a.num * (b.num / 2 ^ s.1) % n.num) (fun s => s.1) (256, .zero) ?_ (hM := by (repeat (first | exact List.nil_sublist _ | apply List.Sublist.cons_cons))) (h0 := ⟨Nat.le_refl _, by dsimp only; rw [Word.zero_num, Nat.div_eq_of_lt (Nat.lt_of_lt_of_eq hbl (by kernel_rfl)), Nat.mul_zero, Nat.zero_mod]⟩)
  rintro ⟨s, r⟩ ⟨hs, hr⟩
  dsimp only at hs hr ⊢
  cases s with
  | zero =>
    rw [Nat.pow_zero, Nat.div_one] at hr
    have hrw : r = Word.nat (a.num * b.num % n.num) := by rw [← hr, Word.nat_num]
    subst hrw
    repeat (first | (refine sty ?_; try intro _) | (refine st ?_; try intro _) | (refine stz ?_; try intro _))
    refine G.retV ?_
    rfl
  | succ m =>
    rw [show ((m + 1 : Nat) : Int) - 1 = (m : Int) from by omega]
    have hst := mul_step a.num b.num m n.num
    rw [← hr, ← x1] at hst
    have hrl : r.num < n.num := by rw [hr]; exact Nat.mod_lt _ hn0
    have hbt : bt b.num m < 2 := Nat.mod_lt _ (by decide)
    have hds := double_spec r n false hrl
    rw [show 2 * r.num + false.toNat = 2 * r.num from rfl] at hds
    obtain ⟨r1, hr1⟩ : ∃ r1, r1 = Word.nat (2 * r.num % n.num) := ⟨_, rfl⟩
    have hn1 : r1.num = 2 * r.num % n.num := by rw [hr1, Word.num_nat, Nat.mod_eq_of_lt (Nat.lt_trans (Nat.mod_lt _ hn0) hnl)]
    rw [← hr1] at hds
    have hl1 : r1.num < n.num := by rw [hn1]; exact Nat.mod_lt _ hn0
    by_cases hb1 : bt b.num m = 1
    · repeat (first | (refine sty ?_; try intro _) | (refine st ?_; try intro _) | (refine stz ?_; try intro _))
      refine o_callV rfl rfl rfl rfl hds rfl ?_
      have hp := addP r1 (modW a n) n hl1 x2
      rw [hb1, Nat.one_mul, Nat.add_mod, ← hn1, Nat.mod_eq_of_lt x2] at hst
      repeat (first | (refine sty ?_; try intro _) | (refine st ?_; try intro _) | (refine stz ?_; try intro _))
      rename_i b12
      refine W.drawSt 11 10 b11 (Ob (Word.nat ((r1.num + (modW a n).num) % n.num)).cells 24) [dq _, dq _, dq _, dq _, dq _, dq _, dq _, dq _, dq _, dq _, dq fun _ _ => .bool false] [[], [], [], [1,2], [3], [], [0,4,5], [6], [7], [7], [8]] [] (hrest := fun c => nrmX ?_) (hops := by
        refine AllX.a0 ?_ rfl (by kernel_rfl)
        refine AllX.a0 ?_ rfl (by kernel_rfl)
        refine AllX.a0 ?_ rfl (by kernel_rfl)
        refine AllX.a0 ?_ rfl (by kernel_rfl)
        refine AllX.a0 ?_ rfl (by kernel_rfl)
        refine AllX.a0 ?_ rfl (by kernel_rfl)
        refine AllX.a0 ?_ rfl (by kernel_rfl) (by intro c z0 Φr Lr K; refine nrmX ?_; intro hK; refine o_callV rfl rfl rfl rfl (rless_spec _ _ _) (by rw [hp]) ?_; exact hK z0)
        refine AllX.a0 ?_ rfl (by kernel_rfl)
        refine AllX.a0 ?_ rfl (by kernel_rfl)
        refine AllX.a01 ?_ rfl
        refine AllX.ai ?_
        exact AllX.end)
      repeat (first | (refine sty ?_; try intro _) | (refine st ?_; try intro _) | (refine stz ?_; try intro _))
      refine G.ag (S := Nat × Word) (m, Word.nat ((r1.num + (modW a n).num) % n.num)) (hpre := ⟨by dsimp only; omega, ?_⟩) (hM := List.Sublist.cons _ (List.Sublist.refl _))
      dsimp only
      rw [hst, Word.num_nat, Nat.mod_eq_of_lt (Nat.lt_trans (Nat.mod_lt _ hn0) hnl)]
    · repeat (first | (refine sty ?_; try intro _) | (refine st ?_; try intro _) | (refine stz ?_; try intro _))
      refine o_callV rfl rfl rfl rfl hds rfl ?_
      have hb0 : bt b.num m = 0 := by omega
      rw [hb0, Nat.zero_mul, Nat.add_zero, ← hn1] at hst
      repeat (first | (refine sty ?_; try intro _) | (refine st ?_; try intro _) | (refine stz ?_; try intro _))
      exact G.ag (S := Nat × Word) (m, r1) (hpre := ⟨by dsimp only; omega, hst⟩)
theorem rmulW_nat (x y : Nat) : mulW (Word.nat x) (Word.nat y) = Word.nat (x * y) := by
  unfold mulW
  refine Word.nat_eq ?_
  rw [Word.num_nat, Word.num_nat, ← Nat.mul_mod]
theorem rexp_spec (a b : Word) : FnV Tryz.prog 54 [a.v, b.v] [] (expW a b).v := by
  refine Fn.enter Tryz.func54 rfl Tryz.ntmps54 (by simp) (fun I0 w0 => ?_)
  have hbl := b.num_lt
  repeat (first | (refine sty ?_; try intro _) | (refine st ?_; try intro _) | (refine stz ?_; try intro _))
  rename_i b2 b3 b4
  refine o_callO rfl rfl rfl rfl (bits_spec b) ?_
  intro vx ox hox
  refine G.giveOwn2 vx (rowN 256 (bt b.num)) ox 3 hox inferInstance (List.Perm.refl _) ?_
  repeat (first | (refine sty ?_; try intro _) | (refine st ?_; try intro _) | (refine stz ?_; try intro _))
  rename_i b6
  have e0 : Word.of 1 = Word.nat (a.num ^ (b.num / 2 ^ 256)) := by
    rw [Nat.div_eq_of_lt (Nat.lt_of_lt_of_eq hbl (by kernel_rfl)), Nat.pow_zero]; kernel_rfl
  rw [e0]
  refine W.lp (fun (s : Nat) => ([fRp vx (rowN 256 (bt b.num))], [(7, .int .i64 ((s : Int) - 1)), (6, .pointer (some ⟨b6, 0, none⟩)), (5, vx), (4, .pointer (some ⟨b4, 0, none⟩)), (2, .pointer (some ⟨b2, 0, none⟩))], [(b6, Ob (cellsL (Word.nat (a.num ^ (b.num / 2 ^ s))).v) 24), (b4, Ob Word.zero.cells 24), (b2, Ob (cellsL a.v) 24)])) (fun s => s ≤ 256) (fun s => s) 256 ?_ (hM := .cons_cons _ (.cons_cons _ (.cons _ (.refl _))))
  intro s hs
  dsimp only
  cases s with
  | zero =>
    rw [Nat.pow_zero, Nat.div_one]
    repeat (first | (refine sty ?_; try intro _) | (refine st ?_; try intro _) | (refine stz ?_; try intro _))
    refine G.retV ?_
    rfl
  | succ m =>
    rw [show ((m + 1 : Nat) : Int) - 1 = (m : Int) from by omega]
    have h1 : b.num / 2 ^ m = 2 * (b.num / 2 ^ (m + 1)) + bt b.num m := by
      rw [Nat.pow_succ, ← Nat.div_div_eq_div_mul]
      show _ = _ + b.num / 2 ^ m % 2
      omega
    have hbt : bt b.num m < 2 := Nat.mod_lt _ (by decide)
    generalize b.num / 2 ^ (m + 1) = B at h1 ⊢
    have em : mulW (Word.nat (a.num ^ B)) (Word.nat (a.num ^ B)) = Word.nat (a.num ^ (2 * B)) := by
      rw [rmulW_nat, ← Nat.pow_add, show B + B = 2 * B from by omega]
    by_cases hb1 : bt b.num m = 1
    · rw [hb1] at h1
      have e : mulW (Word.nat (a.num ^ (2 * B))) a = Word.nat (a.num ^ (b.num / 2 ^ m)) := by
        have h := rmulW_nat (a.num ^ (2 * B)) a.num
        rw [Word.nat_num] at h
        rw [h, h1, Nat.pow_succ]
      repeat (first | (refine sty ?_; try intro _) | (refine st ?_; try intro _) | (refine stz ?_; try intro _))
      rw [em, e]
      exact G.ag m
    · have hb0 : bt b.num m = 0 := by omega
      rw [hb0, Nat.add_zero] at h1
      repeat (first | (refine sty ?_; try intro _) | (refine st ?_; try intro _) | (refine stz ?_; try intro _))
      rw [em, ← h1]
      exact G.ag m
end Go.Rail
