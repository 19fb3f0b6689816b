/- The document's quotients: divided. -/
import Derived.Test.YtomifglegeelaaaGreatDoorAOneD5
import Derived.Test.YtomifglegeelaaaGreatDoorRailC
import Derived.Test.YtomifglegeelaaaGreatDoorRailH
namespace Go.Rail
open Go Go.Proofs
set_option linter.unusedSimpArgs false
set_option linter.unusedVariables false
set_option maxHeartbeats 400000
set_option maxRecDepth 4000
attribute [local irreducible] OpK G W LW wpListIn Exit.then Exit.inBlock Post rounds opRun bodyPostM intOp
set_option maxHeartbeats 4000000
attribute [local irreducible] Word.num Word.nat
/-- The quotient's bits, from the highest one on. -/
def qF (x s k : Nat) : Int := if s ≤ k then ((bt x k : Nat) : Int) else 0
theorem qF_top (x : Nat) : rowZ 256 (fun _ => 0) = rowZ 256 (qF x 256) := rowZ_congr (fun i hi => by unfold qF; rw [if_neg (by omega)])
theorem qF_zero (x : Nat) : rowZ 256 (qF x 0) = rowN 256 (bt x) := rowZ_congr (fun i hi => by unfold qF; rw [if_pos (Nat.zero_le _)])
theorem qF_one {x m : Nat} (h : bt x m = 1) : (fun k => if k = m then (1 : Int) else qF x (m + 1) k) = qF x m := by
  funext k
  unfold qF
  by_cases hk : k = m
  · subst hk; rw [if_pos rfl, if_pos (Nat.le_refl _), h]; rfl
  · rw [if_neg hk]
    by_cases h2 : m + 1 ≤ k
    · rw [if_pos h2, if_pos (by omega)]
    · rw [if_neg h2, if_neg (by omega)]
theorem qF_none {x m : Nat} (h : bt x m = 0) : qF x (m + 1) = qF x m := by
  funext k
  unfold qF
  by_cases hk : k = m
  · subst hk; rw [if_neg (by omega), if_pos (Nat.le_refl _), h]; rfl
  · by_cases h2 : m + 1 ≤ k
    · rw [if_pos h2, if_pos (by omega)]
    · rw [if_neg h2, if_neg (by omega)]
/-- One bit more. -/
theorem divb_step (a b m : Nat) (hb : 0 < b) : a / 2 ^ m % b = (2 * (a / 2 ^ (m + 1) % b) + bt a m) % b ∧ bt (a / b) m = if b ≤ 2 * (a / 2 ^ (m + 1) % b) + bt a m then 1 else 0 := by
  have h1 : a / 2 ^ m = 2 * (a / 2 ^ (m + 1)) + bt a m := by
    rw [Nat.pow_succ, ← Nat.div_div_eq_div_mul]
    show _ = _ + a / 2 ^ m % 2
    omega
  have h2 : a / b / 2 ^ m = a / 2 ^ m / b := by rw [Nat.div_div_eq_div_mul, Nat.mul_comm, ← Nat.div_div_eq_div_mul]
  have hbt : bt a m < 2 := Nat.mod_lt _ (by decide)
  show _ ∧ a / b / 2 ^ m % 2 = _
  rw [h2, h1]
  generalize bt a m = t at *
  generalize a / 2 ^ (m + 1) = A at *
  have h3 := Nat.div_add_mod A b
  have hr : A % b < b := Nat.mod_lt _ hb
  generalize A / b = u at *
  generalize A % b = r at *
  subst h3
  have e : 2 * (b * u + r) + t = 2 * r + t + b * (2 * u) := by rw [Nat.mul_add, Nat.mul_left_comm]; omega
  rw [e, Nat.add_mul_mod_self_left, Nat.add_mul_div_left _ _ hb]
  refine ⟨rfl, ?_⟩
  by_cases h : b ≤ 2 * r + t
  · rw [if_pos h, Nat.div_eq_of_lt_le (m := 2 * r + t) (k := 1) (by omega) (by omega)]; omega
  · rw [if_neg h, Nat.div_eq_of_lt (by omega)]; omega
theorem divided_spec (a b : Word) (hb : b ≠ .zero) : FnV Tryz.prog 104 [a.v, b.v] [] (.tuple #[(Word.nat (a.num / b.num)).v, (Word.nat (a.num % b.num)).v]) := by
  have hb0 : 0 < b.num := by
    rcases Nat.eq_zero_or_pos b.num with h | h
    · exact absurd (Word.num_inj.1 (h.trans Word.zero_num.symm)) hb
    · exact h
  have hbl := b.num_lt
  have hal := a.num_lt
  refine Fn.enter Tryz.func104 rfl Tryz.ntmps104 (by simp) (fun I0 w0 => ?_)
  repeat (first | (refine sty ?_; try intro _) | (refine st ?_; try intro _) | (refine stz ?_; try intro _))
  rename_i b2 b3 b4 b5
  refine o_callO rfl rfl rfl rfl (bits_spec a) ?_
  intro vx ox hox
  refine G.giveOwn2 vx (rowN 256 (bt a.num)) ox 3 hox inferInstance (List.Perm.refl _) ?_
  repeat (first | (refine sty ?_; try intro _) | (refine st ?_; try intro _) | (refine stz ?_; try intro _))
  rename_i b7
  refine o_makeI 256 rfl rfl rfl rfl rfl rfl (by decide) ?_
  intro bz
  rw [rowZ_const, qF_top (a.num / b.num), show cI (rowZ 256 (qF (a.num / b.num) 256)) = cIx (rowZ 256 (qF (a.num / b.num) 256)) [] from by rw [cIx, List.append_nil]]
  repeat (first | (refine sty ?_; try intro _) | (refine st ?_; try intro _) | (refine stz ?_; try intro _))
  refine W.lp (S := Nat × Word) (fun s => ([fRp vx (rowN 256 (bt a.num))], [(9, .int .i64 ((s.1 : Int) - 1)), (8, .slice (some ⟨bz, 0, none⟩) 256 256), (7, .pointer (some ⟨b7, 0, none⟩)), (6, vx), (5, .pointer (some ⟨b5, 0, none⟩)), (4, .pointer (some ⟨b4, 0, none⟩)), (3, .pointer (some ⟨b3, 0, none⟩))], [(bz, Ob (cIx (rowZ 256 (qF (a.num / b.num) s.1)) []) 3), (b7, Ob (cellsL s.2.v) 24), (b5, Ob Word.zero.cells 24), (b4, Ob Word.zero.cells 24), (b3, Ob (cellsL b.v) 24)])) (fun s => s.1 ≤ 256 ∧ s.2.num = a.num / 2 ^ s.1 % b.num) (fun s => s.1) (256, .zero) ?_ (hM := by (repeat (first | exact List.nil_sublist _ | apply List.Sublist.cons_cons))) (h0 := ⟨Nat.le_refl _, by dsimp only; rw [Word.zero_num, Nat.div_eq_of_lt (Nat.lt_of_lt_of_eq hal (by kernel_rfl)), Nat.zero_mod]⟩)
  rintro ⟨s, r⟩ ⟨hs, hr⟩
  dsimp only at hs hr ⊢
  cases s with
  | zero =>
    refine W.bare (G.giveZ bz 256 rfl ?_)
    rw [qF_zero]
    have hbits := fromBits_spec (.slice (some ⟨bz, 0, none⟩) 256 256) (bt (a.num / b.num)) (fun i _ => Nat.mod_lt _ (by decide))
    have hq : sumB 2 (bt (a.num / b.num)) 256 = a.num / b.num := by
      have h := sumB_bt (a.num / b.num) 256
      rw [Nat.mod_eq_of_lt (Nat.lt_of_le_of_lt (Nat.div_le_self _ _) (Nat.lt_of_lt_of_eq hal (by kernel_rfl)))] at h
      exact h
    rw [hq] at hbits
    rw [Nat.pow_zero, Nat.div_one] at hr
    have hrw : r = Word.nat (a.num % b.num) := by rw [← hr, Word.nat_num]
    subst hrw
    refine G.code ?_
    repeat (first | (refine sty ?_; try intro _) | (refine st ?_; try intro _) | (refine stz ?_; try intro _))
    refine W.any (by kernel_rfl) ?_
    refine G.anyStep [0, 2] (by kernel_rfl) (by kernel_rfl) (by kernel_rfl) ?_
    refine ⟨?_, ?_, trivial⟩
    · show OpK _ _ _ (List.getD (_ :: _) _ _) _ _ _ _; simp only [getD_s, getD_z]
      refine st ?_
      refine G.anyStep [1, 2] (by kernel_rfl) (by kernel_rfl) (by kernel_rfl) ?_
      refine ⟨?_, ?_, trivial⟩
      · show OpK _ _ _ (List.getD (_ :: _) _ _) _ _ _ _; simp only [getD_s, getD_z]
        refine o_callV rfl rfl rfl rfl hbits rfl ?_
        refine G.anyStep [2, 3] (by kernel_rfl) (by kernel_rfl) (by kernel_rfl) ?_
        refine ⟨?_, ?_, trivial⟩
        · show OpK _ _ _ (List.getD (_ :: _) _ _) _ _ _ _; simp only [getD_s, getD_z]
          refine st ?_
          refine G.anyStep [3] (by kernel_rfl) (by kernel_rfl) (by kernel_rfl) ?_
          refine ⟨?_, trivial⟩
          · show OpK _ _ _ (List.getD (_ :: _) _ _) _ _ _ _; simp only [getD_s, getD_z]
            refine st ?_
            refine G.anyStep [4] (by kernel_rfl) (by kernel_rfl) (by kernel_rfl) ?_
            refine ⟨?_, trivial⟩
            · show OpK _ _ _ (List.getD (_ :: _) _ _) _ _ _ _; simp only [getD_s, getD_z]
              refine st ?_
              refine G.anyEnd (by kernel_rfl) ?_
              repeat (first | (refine sty ?_; try intro _) | (refine st ?_; try intro _) | (refine stz ?_; try intro _))
              refine G.retV ?_
              rfl
        · show OpK _ _ _ (List.getD (_ :: _) _ _) _ _ _ _; simp only [getD_s, getD_z]
          refine st ?_
          refine G.anyStep [2] (by kernel_rfl) (by kernel_rfl) (by kernel_rfl) ?_
          refine ⟨?_, trivial⟩
          · show OpK _ _ _ (List.getD (_ :: _) _ _) _ _ _ _; simp only [getD_s, getD_z]
            refine st ?_
            refine G.anyStep [4] (by kernel_rfl) (by kernel_rfl) (by kernel_rfl) ?_
            refine ⟨?_, trivial⟩
            · show OpK _ _ _ (List.getD (_ :: _) _ _) _ _ _ _; simp only [getD_s, getD_z]
              refine st ?_
              refine G.anyEnd (by kernel_rfl) ?_
              repeat (first | (refine sty ?_; try intro _) | (refine st ?_; try intro _) | (refine stz ?_; try intro _))
              refine G.retV ?_
              rfl
      · show OpK _ _ _ (List.getD (_ :: _) _ _) _ _ _ _; simp only [getD_s, getD_z]
        refine st ?_
        refine G.anyStep [1] (by kernel_rfl) (by kernel_rfl) (by kernel_rfl) ?_
        refine ⟨?_, trivial⟩
        · show OpK _ _ _ (List.getD (_ :: _) _ _) _ _ _ _; simp only [getD_s, getD_z]
          refine o_callV rfl rfl rfl rfl hbits rfl ?_
          refine G.anyStep [3] (by kernel_rfl) (by kernel_rfl) (by kernel_rfl) ?_
          refine ⟨?_, trivial⟩
          · show OpK _ _ _ (List.getD (_ :: _) _ _) _ _ _ _; simp only [getD_s, getD_z]
            refine st ?_
            refine G.anyStep [4] (by kernel_rfl) (by kernel_rfl) (by kernel_rfl) ?_
            refine ⟨?_, trivial⟩
            · show OpK _ _ _ (List.getD (_ :: _) _ _) _ _ _ _; simp only [getD_s, getD_z]
              refine st ?_
              refine G.anyEnd (by kernel_rfl) ?_
              repeat (first | (refine sty ?_; try intro _) | (refine st ?_; try intro _) | (refine stz ?_; try intro _))
              refine G.retV ?_
              rfl
    · show OpK _ _ _ (List.getD (_ :: _) _ _) _ _ _ _; simp only [getD_s, getD_z]
      refine st ?_
      refine G.anyStep [0] (by kernel_rfl) (by kernel_rfl) (by kernel_rfl) ?_
      refine ⟨?_, trivial⟩
      · show OpK _ _ _ (List.getD (_ :: _) _ _) _ _ _ _; simp only [getD_s, getD_z]
        refine st ?_
        refine G.anyStep [1] (by kernel_rfl) (by kernel_rfl) (by kernel_rfl) ?_
        refine ⟨?_, trivial⟩
        · show OpK _ _ _ (List.getD (_ :: _) _ _) _ _ _ _; simp only [getD_s, getD_z]
          refine o_callV rfl rfl rfl rfl hbits rfl ?_
          refine G.anyStep [3] (by kernel_rfl) (by kernel_rfl) (by kernel_rfl) ?_
          refine ⟨?_, trivial⟩
          · show OpK _ _ _ (List.getD (_ :: _) _ _) _ _ _ _; simp only [getD_s, getD_z]
            refine st ?_
            refine G.anyStep [4] (by kernel_rfl) (by kernel_rfl) (by kernel_rfl) ?_
            refine ⟨?_, trivial⟩
            · show OpK _ _ _ (List.getD (_ :: _) _ _) _ _ _ _; simp only [getD_s, getD_z]
              refine st ?_
              refine G.anyEnd (by kernel_rfl) ?_
              repeat (first | (refine sty ?_; try intro _) | (refine st ?_; try intro _) | (refine stz ?_; try intro _))
              refine G.retV ?_
              rfl
  | succ m =>
    rw [show ((m + 1 : Nat) : Int) - 1 = (m : Int) from by omega]
    obtain ⟨d1, d2⟩ := divb_step a.num b.num m hb0
    rw [← hr] at d1 d2
    have hrl : r.num < b.num := by rw [hr]; exact Nat.mod_lt _ hb0
    have hbt : bt a.num m < 2 := Nat.mod_lt _ (by decide)
    have hds := double_spec r b (decide (bt a.num m = 1)) hrl
    have htn : (decide (bt a.num m = 1)).toNat = bt a.num m := by
      generalize bt a.num m = t at hbt
      by_cases h : t = 1
      · subst h; rfl
      · rw [decide_eq_false h]; obtain rfl : t = 0 := by omega
        rfl
    rw [htn, ← d1] at hds
    have hn : (Word.nat (a.num / 2 ^ m % b.num)).num = a.num / 2 ^ m % b.num := by
      rw [Word.num_nat, Nat.mod_eq_of_lt (Nat.lt_trans (Nat.mod_lt _ hb0) hbl)]
    repeat (first | (refine sty ?_; try intro _) | (refine st ?_; try intro _) | (refine stz ?_; try intro _))
    refine W.drawSt 12 11 b7 (Ob (Word.nat (a.num / 2 ^ m % b.num)).cells 24) [dq _, dq _, dq _, dk _, dq _, dq _, dq _, dq _, dq _, dq _, dq _, dq fun _ _ => .bool false] [[], [], [], [1,2], [3], [4], [], [0,5,6], [7], [8], [8], [9]] [10] (hrest := fun c => nrmX ?_) (hops := by
      refine AllX.a0 ?_ rfl (by kernel_rfl)
      refine AllX.a0 ?_ rfl (by kernel_rfl)
      refine AllX.a0 ?_ rfl (by kernel_rfl)
      refine AllX.a0 ?_ rfl (by kernel_rfl)
      refine AllX.a0 ?_ rfl (by kernel_rfl)
      refine AllX.a0 ?_ rfl (by kernel_rfl) (by intro c z0 Φr Lr K; refine nrmX ?_; intro hK; refine o_int rfl rfl rfl rfl i_eqlN ?_; exact hK z0)
      refine AllX.a0 ?_ rfl (by kernel_rfl)
      refine AllX.a0 ?_ rfl (by kernel_rfl) (by intro c z0 Φr Lr K; refine nrmX ?_; intro hK; refine o_callV rfl rfl rfl rfl hds rfl ?_; exact hK z0)
      refine AllX.a0 ?_ rfl (by kernel_rfl)
      refine AllX.a0 ?_ rfl (by kernel_rfl)
      refine AllX.a01 ?_ rfl
      refine AllX.ai ?_
      exact AllX.end)
    by_cases hq : b.num ≤ 2 * r.num + bt a.num m
    · rw [if_pos hq] at d2
      repeat (first | (refine sty ?_; try intro _) | (refine st ?_; try intro _) | (refine stz ?_; try intro _))
      rw [qF_one d2]
      repeat (first | (refine sty ?_; try intro _) | (refine st ?_; try intro _) | (refine stz ?_; try intro _))
      exact G.ag (S := Nat × Word) (m, _) (hpre := ⟨by dsimp only; omega, hn⟩)
    · rw [if_neg hq] at d2
      rw [qF_none d2]
      repeat (first | (refine sty ?_; try intro _) | (refine st ?_; try intro _) | (refine stz ?_; try intro _))
      exact G.ag (S := Nat × Word) (m, _) (hpre := ⟨by dsimp only; omega, hn⟩)
end Go.Rail
