/- FrameMore: the walk. -/
import Derived.Test.YtpbbjkbackiljaaGreatDoorAG1G2
namespace Go.Rail
open Go Go.Proofs
set_option linter.unusedSimpArgs false
set_option linter.unusedVariables false
set_option maxHeartbeats 400000
set_option maxRecDepth 4000
attribute [local irreducible] OpK G W LW wpListIn Exit.then Exit.inBlock Post rounds opRun bodyPostM intOp
set_option maxHeartbeats 4000000
structure MrSt where
  i : Nat
  cd : List UInt8
abbrev cdF (f : Frm) (cd : List UInt8) : Frm := { f with code := cd }
theorem more17_walk (v : Value) (raw : List (Int × Int)) (input : List UInt8) (gas more : Int) (hok : ∀ a ∈ raw, okR a) (hi : input.length ≤ 4611686018427387904) (hg : -9223372036854775808 ≤ gas) (h1 : -9223372036854775808 ≤ more) :
    FnV Tryz.prog 5 [v, .string (ba input), .int .i64 gas, .int .i64 more] [fRp v raw, fKc] (.bool true) := by
  have c1 := awake17_spec
  have c2 := fun w => frameR_spec w raw input gas hok hg hi
  have hRt := frmR_Rt raw input gas
  have hfs : (frmR raw input gas).stack = [] := rfl
  have hst : (frmR raw input gas).status = 0 := rfl
  have hgas : (frmR raw input gas).gas ≤ 4000 := by have := pickI_nn gas 4000 (by decide); show pickI gas 4000 ≤ 4000; omega
  have hcl : (frmR raw input gas).code.length ≤ 120 := by have := progT_len raw 40; exact this
  generalize frmR raw input gas = f at c2 hRt hfs hst hgas hcl
  have c3 := pick17_spec more 4000 h1 (by decide)
  have px := pickI_nn more 4000 (by decide)
  generalize pickI more 4000 = kk at c3 px
  refine Fn.enter Tryz.func5 rfl Tryz.ntmps5 (by simp) (fun I0 w0 => ?_)
  refine W.bare (G.slice v raw ?_); intro ad cap e1 k1; subst e1
  refine G.code ?_
  repeat (first | (refine sty ?_; try intro _) | (refine st ?_; try intro _) | (refine stz ?_; try intro _) | (refine stq ?_; try intro _))
  refine o_callV rfl rfl rfl rfl c1 rfl ?_
  repeat (first | (refine sty ?_; try intro _) | (refine st ?_; try intro _) | (refine stz ?_; try intro _) | (refine stq ?_; try intro _))
  refine o_callV rfl rfl rfl rfl (c2 _) rfl ?_
  refine G.learn (fRp (.slice none 0 0) f.stack) (e := ⟨fun I hp => by show Rp I _ _; rw [hfs]; exact Rp.nil none 0⟩) ?_
  repeat (first | (refine sty ?_; try intro _) | (refine st ?_; try intro _) | (refine stz ?_; try intro _) | (refine stq ?_; try intro _))
  rename_i b10
  refine W.lp (S := MrSt) (fun s => ([fRp (.slice none 0 0) f.stack, fKc], [(11, .int .i64 (s.i : Int)), (10, .pointer (some ⟨b10, 0, none⟩)), (9, .bool true), (3, .int .i64 more)], [(b10, Ob (frmC (cdF f s.cd) (.slice none 0 0)) 26)])) (fun s => s.i ≤ 121 ∧ s.cd.length ≤ 120 ∧ ∀ k (h : k < s.cd.length), k < s.i → s.cd[k].toNat ≠ 90) (fun s => 121 - s.i) ⟨0, f.code⟩ ?_ (h0 := ⟨Nat.zero_le _, hcl, fun k _ h => absurd h (Nat.not_lt_zero _)⟩)
  rintro ⟨i, cd⟩ ⟨hi1, hcd, hno⟩
  dsimp only at hi1 hcd hno ⊢
  by_cases hil : i < cd.length
  · have hix : cd[i]? = some (cd[i]'hil) := List.getElem?_eq_getElem hil
    by_cases h90 : (cd[i]'hil).toNat = 90
    · repeat (first | (refine sty ?_; try intro _) | (refine st ?_; try intro _) | (refine stz ?_; try intro _) | (refine stq ?_; try intro _))
      rw [List.drop_zero]
      exact G.ag (S := MrSt) ⟨i + 1, cd.take i⟩ (hpre := ⟨by dsimp only; omega, by dsimp only; rw [List.length_take]; omega, fun k h hk => by
        dsimp only at h hk ⊢
        rw [List.getElem_take]
        rw [List.length_take] at h
        exact hno k (by omega) (by omega)⟩)
    · have hno2 : ∀ k (h : k < cd.length), k < i + 1 → cd[k].toNat ≠ 90 := by
        intro k h hk
        by_cases e : k = i
        · subst e; exact h90
        · exact hno k h (by omega)
      repeat (first | (refine sty ?_; try intro _) | (refine st ?_; try intro _) | (refine stz ?_; try intro _) | (refine stq ?_; try intro _))
      exact G.ag (S := MrSt) ⟨i + 1, cd⟩ (hpre := ⟨by dsimp only; omega, hcd, hno2⟩)
  · have hall : ∀ b ∈ cd, b.toNat ≠ 90 := by
      intro b hb
      obtain ⟨k, hk, rfl⟩ := List.getElem_of_mem hb
      exact hno k hk (by omega)
    obtain ⟨F, hF⟩ : ∃ F, F = cdF f cd := ⟨_, rfl⟩
    obtain ⟨a1, a2, a3, a4, a5, a6, a7, a8, a9, a10, a11, a12, a13, a14, a15⟩ := hRt
    have rF : Rt F := by rw [hF]; exact ⟨by show cd.length ≤ _; omega, a2, a3, a4, a5, a6, a7, a8, a9, a10, a11, a12, a13, a14, a15⟩
    have hFc : ∀ b ∈ F.code, b.toNat ≠ 90 := by rw [hF]; exact hall
    have hFl : ¬ i < F.code.length := by rw [hF]; exact hil
    have hFs : F.stack = f.stack := by rw [hF]
    have hFcl : F.code.length ≤ 120 := by rw [hF]; exact hcd
    have hFt : F.status = 0 := by rw [hF]; exact hst
    have hFg : F.gas ≤ 4000 := by rw [hF]; exact hgas
    have hFg0 : 0 ≤ F.gas := by rw [hF]; exact a7
    rw [← hF]
    clear hF
    obtain ⟨k, hk⟩ : ∃ k : Int, k = 1 + kk := ⟨_, rfl⟩
    have rG : Rt (shF k F) := by
      obtain ⟨b1, b2, b3, b4, b5, b6, b7, b8, b9⟩ := rF
      exact ⟨b1, b2, b3, b4, b5, b6, by show 0 ≤ F.gas + k; omega, by show F.gas + k ≤ _; omega, b9⟩
    have cA := fun w => fRun_spec F w 4001 (by decide) rF
    have lm := runL_more keccakL (k := k) (by omega) 4001 F rF (by omega) hFc
    obtain ⟨u1, _⟩ := runL_law keccakL 4001 F rF
    obtain ⟨w1, _⟩ := runL_le keccakL 4001 F
    generalize runL keccakL 4001 F = A at cA lm u1 w1
    obtain ⟨A1, n⟩ := A
    dsimp only at lm u1 w1
    have cB : ∀ w, Fn Tryz.prog 22 [frmV (shF k F) w, .int .i64 (n : Int)] [fRp w F.stack, fKc] [] (RRuns (runL keccakL n (shF k F))) := fun w => fRun_spec (shF k F) w n (by omega) rG
    obtain ⟨w2, _⟩ := runL_le keccakL n (shF k F)
    repeat (first | (refine sty ?_; try intro _) | (refine st ?_; try intro _) | (refine stz ?_; try intro _) | (refine stq ?_; try intro _))
    refine o_callV rfl rfl rfl rfl c3 rfl ?_
    repeat (first | (refine sty ?_; try intro _) | (refine st ?_; try intro _) | (refine stz ?_; try intro _) | (refine stq ?_; try intro _))
    rw [← hk]
    repeat (first | (refine sty ?_; try intro _) | (refine st ?_; try intro _) | (refine stz ?_; try intro _) | (refine stq ?_; try intro _))
    rw [← hFs]
    refine OpK.call rfl rfl rfl rfl (cA _) inferInstance (Mr := _) (List.Perm.refl _) ?_
    rintro u Φ' Mc' ⟨a2, k2, rfl, rfl, rfl⟩
    dsimp only [List.cons_append, List.nil_append]
    repeat (first | (refine sty ?_; try intro _) | (refine st ?_; try intro _) | (refine stz ?_; try intro _) | (refine stq ?_; try intro _))
    refine OpK.call rfl rfl rfl rfl (cB _) inferInstance (Mr := _) (List.Perm.refl _) ?_
    rintro u Φ' Mc' ⟨a3, k3, rfl, rfl, rfl⟩
    dsimp only [List.cons_append, List.nil_append]
    repeat (first | (refine sty ?_; try intro _) | (refine st ?_; try intro _) | (refine stz ?_; try intro _) | (refine stq ?_; try intro _))
    by_cases he : A1.errno = 43
    · generalize runL keccakL n (shF k F) = B at w2
      obtain ⟨B1, m⟩ := B
      dsimp only at w2
      repeat (first | (refine sty ?_; try intro _) | (refine st ?_; try intro _) | (refine stz ?_; try intro _) | (refine stq ?_; try intro _))
      refine G.retV ?_
      rfl
    · rw [lm he hFt]
      by_cases h4 : A1.status = 4
      · rw [show sameF k A1 = A1 from if_pos h4]
        repeat (first | (refine sty ?_; try intro _) | (refine st ?_; try intro _) | (refine stz ?_; try intro _) | (refine stq ?_; try intro _))
        refine o_callV rfl rfl rfl rfl (rsame_spec A1 _ _ (by have := u1.2.2.2.2.2.2.2.2.1; omega)) rfl ?_
        repeat (first | (refine sty ?_; try intro _) | (refine st ?_; try intro _) | (refine stz ?_; try intro _) | (refine stq ?_; try intro _))
        refine G.retV ?_
        rfl
      · rw [show sameF k A1 = shF k A1 from if_neg h4]
        have cS : ∀ v u, FnV Tryz.prog 17 [frmV A1 v, frmV A1 u] [fRp v A1.stack, fRp u (shF k A1).stack] (.bool true) := fun v u => rsame_spec A1 v u (by have := u1.2.2.2.2.2.2.2.2.1; omega)
        have hgk : A1.gas + k - k = A1.gas := by omega
        have hg1 : 0 ≤ A1.gas := u1.2.2.2.2.2.2.1
        have hg2 : A1.gas ≤ 2000000 := u1.2.2.2.2.2.2.2.1
        repeat (first | (refine sty ?_; try intro _) | (refine st ?_; try intro _) | (refine stz ?_; try intro _) | (refine stq ?_; try intro _))
        refine o_int rfl rfl rfl rfl (v := .int .i64 A1.gas) (by rw [show (shF k A1).gas = A1.gas + k from rfl, i_sub (by omega) (by omega), hgk]) ?_
        repeat (first | (refine sty ?_; try intro _) | (refine st ?_; try intro _) | (refine stz ?_; try intro _) | (refine stq ?_; try intro _))
        refine o_callV rfl rfl rfl rfl (cS _ _) rfl ?_
        repeat (first | (refine sty ?_; try intro _) | (refine st ?_; try intro _) | (refine stz ?_; try intro _) | (refine stq ?_; try intro _))
        refine G.retV ?_
        rfl
end Go.Rail
