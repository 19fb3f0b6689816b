/- What two lists have in common; sets in one another's way. -/
import Derived.Test.YtoiepfapghnccaaGreatASortIter
import Derived.Test.YtoiepfapghnccaaGreatRailC
namespace Go.Rail
open Go Go.Proofs
set_option linter.unusedSimpArgs false
set_option linter.unusedVariables false
set_option maxHeartbeats 400000
set_option maxRecDepth 4000
attribute [local irreducible] OpK G W LW wpListIn Exit.then Exit.inBlock Post rounds opRun bodyPostM intOp
attribute [local irreducible] lexN cmpW cmpA cmpK cmpI makeS setK commonL
theorem setD_spec (v : Value) (xs : List Key) (hx : xs.length ≤ 1000000) : FnD Tryz.prog 101 [v, .func (.func 85) #[] #[]] [fRp v xs] (fun u => [fRp u (setK xs)]) := Fn.given (set2_spec v xs hx)
theorem mem2 {a b : Fa} {l Φ : List Fa} (h1 : a ∈ Φ) (h2 : b ∈ Φ) (h3 : ∀ φ ∈ l, φ ∈ Φ) : ∀ φ ∈ a :: b :: l, φ ∈ Φ := by
  intro φ h
  rcases List.mem_cons.1 h with rfl | h
  · exact h1
  · rcases List.mem_cons.1 h with rfl | h
    · exact h2
    · exact h3 φ h
structure ShSt where
  i : Nat
  v : Value
  u : Value
  l : List Key
  m : List Key
theorem shared1_spec (b b' : Nat) (v u : Value) (xs ys : List Key) (hx : xs.length ≤ 1000000) (hy : ys.length ≤ 1000000) : IterS Tryz.prog 100 [.pointer (some ⟨b, 0, none⟩), .pointer (some ⟨b', 0, none⟩)] ((commonL (setK xs) (setK ys)).map fun k => [k.v]) [fBlk b [v] 37, fBlk b' [u] 37, fRp v xs, fRp u ys] := by
  intro l T Z hyl
  have hy' : ∀ k (h : k < (commonL (setK xs) (setK ys)).length), FnY Tryz.prog l [(commonL (setK xs) (setK ys))[k].v] (T k).1 (T k).2 (YR (T (k + 1)) Z) := fun k h => by
    have := hyl k (by simpa using h)
    simpa using this
  rw [List.length_map]
  show Fn _ _ _ (fBlk b [v] 37 :: fBlk b' [u] 37 :: fRp v xs :: fRp u ys :: (T 0).1) _ _
  have l1 := setK_length xs
  have l2 := setK_length ys
  have p1 := asc_setK xs
  have p2 := asc_setK ys
  refine Fn.enter Tryz.func100 rfl Tryz.ntmps100 (by simp) (fun I0 w0 => ?_)
  repeat (first | refine stp ?_ | (refine sti ?_; intro _) | refine stf ?_ | (refine stb ?_; intro _))
  refine W.draw 4 [⟨?v0_1, fun _ z => []⟩, ⟨fun _ z => z, fun _ z => [fRp z (setK xs)]⟩, ⟨?v2_1, fun _ z => []⟩, ⟨fun _ z => z, fun _ z => [fRp z (setK ys)]⟩] [[], [0], [], [2]] [1, 3] (by kernel_rfl) (by kernel_rfl) (by kernel_rfl) (by kernel_rfl) ?loc_1 ?ops_1 ?rest_1
  case ops_1 =>
    simp only [AllQ, Nat.reduceAdd, and_true]
    refine ⟨?_, ?_, ?_, ?_⟩
    all_goals (intro c z0 Φr Lr K hK; dsimp only [dstOf, kval, kfac, ancE, ancF, getD_z, getD_s, List.getElem?_cons_zero, List.getElem?_cons_succ, List.getElem?_nil, Option.getD_some, Option.getD_none, List.nil_append, List.cons_append, Option.getD] at hK ⊢)
    · (first | refine stp ?_ | refine stf ?_); exact hK z0
    · refine o_callD rfl rfl rfl rfl (setD_spec v xs hx) ?_; intro z; exact hK _
    · (first | refine stp ?_ | refine stf ?_); exact hK z0
    · refine o_callD rfl rfl rfl rfl (setD_spec u ys hy) ?_; intro z; exact hK _
  case loc_1 =>
    simp only [AllL, Nat.reduceAdd, and_true]
    refine ⟨?_, ?_, ?_, ?_⟩
    all_goals (intro c c' z h; first | exact ⟨rfl, rfl⟩ | (skip))
  intro c
  dsimp only [dstOf, kval, kfac, ancE,  ancF, getD_z, getD_s, List.getElem?_cons_zero, List.getElem?_cons_succ, List.getElem?_nil, Option.getD_some, Option.getD_none, List.nil_append, List.cons_append, List.drop_succ_cons, List.drop_zero, Option.getD]
  repeat (first | refine stp ?_ | (refine sti ?_; intro _) | refine stf ?_ | (refine stb ?_; intro _))
  refine W.loopI (fun (s : ShSt) => (fRp s.v s.l :: fRp s.u s.m :: (T s.i).1, [(0, .func (.yield l) #[] #[]), (4, s.v), (5, s.u)], (T s.i).2)) (fun s => s.l.Pairwise ltK ∧ s.m.Pairwise ltK ∧ s.l.length ≤ 1000000 ∧ s.m.length ≤ 1000000 ∧ s.i ≤ (commonL (setK xs) (setK ys)).length ∧ (commonL (setK xs) (setK ys)).drop s.i = commonL s.l s.m) (fun s => s.l.length + s.m.length) ⟨0, c 1, c 3, setK xs, setK ys⟩ ⟨p1, p2, by dsimp only; omega, by dsimp only; omega, Nat.zero_le _, rfl⟩ ⟨fun I hp φ hφ => ?_⟩ (look_sub_cons rfl (look_sub_cons rfl (look_sub_cons rfl look_sub_nil))) (List.Sublist.refl _) ?_
  · rcases List.mem_cons.1 hφ with rfl | hφ
    · exact hp _ (by simp)
    · rcases List.mem_cons.1 hφ with rfl | hφ
      · exact hp _ (by simp)
      · exact hp _ (by simp only [List.mem_cons]; exact .inr (.inr (.inr (.inr (.inr (.inr hφ))))))
  rintro ⟨i, v1, u1, la, lb⟩ ⟨h1, h2, h3, h4, h5, h6⟩
  dsimp only at h1 h2 h3 h4 h5 h6 ⊢
  cases la with
  | nil =>
    have e0 : (commonL (setK xs) (setK ys)).drop i = [] := by rw [h6, commonL_nil, common_nil_left]
    have e1 : i = (commonL (setK xs) (setK ys)).length := by
      have := List.drop_eq_nil_iff.1 e0; omega
    repeat (first | refine stp ?_ | (refine sti ?_; intro _) | refine stf ?_ | (refine stb ?_; intro _))
    exact G.fin rfl .nil (Φ' := (T i).1) (M' := (T i).2) ⟨fun I hp φ hφ => hp φ (.tail _ (.tail _ hφ))⟩ (List.Sublist.refl _) (.inl ⟨by rw [e1], by rw [e1]⟩)
  | cons a la =>
    have q1 : 0 < (a :: la).length := Nat.succ_pos _
    cases lb with
    | nil =>
      have e0 : (commonL (setK xs) (setK ys)).drop i = [] := by rw [h6, commonL_nil, common_nil_right]
      have e1 : i = (commonL (setK xs) (setK ys)).length := by
        have := List.drop_eq_nil_iff.1 e0; omega
      repeat (first | refine stp ?_ | (refine sti ?_; intro _) | refine stf ?_ | (refine stb ?_; intro _))
      exact G.fin rfl .nil (Φ' := (T i).1) (M' := (T i).2) ⟨fun I hp φ hφ => hp φ (.tail _ (.tail _ hφ))⟩ (List.Sublist.refl _) (.inl ⟨by rw [e1], by rw [e1]⟩)
    | cons b1 lb =>
      have q2 : 0 < (b1 :: lb).length := Nat.succ_pos _
      have q3 : (a :: la).length = la.length + 1 := rfl
      have q4 : (b1 :: lb).length = lb.length + 1 := rfl
      have e1 : ((a :: la).take (a :: la).length).drop 1 = la := by simp
      have e2 : ((b1 :: lb).take (b1 :: lb).length).drop 1 = lb := by simp
      repeat (first | refine stp ?_ | (refine sti ?_; intro _) | refine stf ?_ | (refine stb ?_; intro _))
      refine W.draw 7 [⟨?v0_2, fun _ z => []⟩, ⟨fun _ z => z, fun _ z => [fPt z a]⟩, ⟨?v2_2, fun _ z => []⟩, ⟨?v3_2, fun _ z => []⟩, ⟨fun _ z => z, fun _ z => [fPt z b1]⟩, ⟨?v5_2, fun _ z => []⟩, ⟨?v6_2, fun _ z => []⟩] [[], [0], [1], [], [3], [4], [2, 5]] [6] (by kernel_rfl) (by kernel_rfl) (by kernel_rfl) (by kernel_rfl) ?loc_2 ?ops_2 ?rest_2
      case ops_2 =>
        simp only [AllQ, Nat.reduceAdd, and_true]
        refine ⟨?_, ?_, ?_, ?_, ?_, ?_, ?_⟩
        all_goals (intro c z0 Φr Lr K hK; dsimp only [dstOf, kval, kfac, ancE, ancF, getD_z, getD_s, List.getElem?_cons_zero, List.getElem?_cons_succ, List.getElem?_nil, Option.getD_some, Option.getD_none, List.nil_append, List.cons_append, Option.getD] at hK ⊢)
        · refine stp ?_; exact hK z0
        · refine o_idxN (xs := a :: la) 0 rfl rfl rfl rfl rfl q1 ?_; intro z; exact hK _
        · (first | refine stp ?_ | refine stf ?_); exact hK z0
        · refine stp ?_; exact hK z0
        · refine o_idxN (xs := b1 :: lb) 0 rfl rfl rfl rfl rfl q2 ?_; intro z; exact hK _
        · (first | refine stp ?_ | refine stf ?_); exact hK z0
        · refine o_callV rfl rfl rfl rfl (aorder_spec _ _) rfl ?_; exact hK z0
      case loc_2 =>
        simp only [AllL, Nat.reduceAdd, and_true]
        refine ⟨?_, ?_, ?_, ?_, ?_, ?_, ?_⟩
        all_goals (intro c c' z h; first | exact ⟨rfl, rfl⟩ | (skip))
      intro c
      dsimp only [dstOf, kval, kfac, ancE,  ancF, getD_z, getD_s, List.getElem?_cons_zero, List.getElem?_cons_succ, List.getElem?_nil, Option.getD_some, Option.getD_none, List.nil_append, List.cons_append, List.drop_succ_cons, List.drop_zero, Option.getD]
      by_cases hlt : cmpK a b1 < 0
      · repeat (first | refine stp ?_ | (refine sti ?_; intro _) | refine stf ?_ | (refine stb ?_; intro _))
        refine o_slice 1 (a :: la).length rfl rfl rfl ⟨_, _, rfl, rfl⟩ rfl (by omega) (Nat.le_refl _) ?_
        intro v2
        rw [e1]
        repeat (first | refine stp ?_ | (refine sti ?_; intro _) | refine stf ?_ | (refine stb ?_; intro _))
        refine G.again (S := ShSt) ⟨i, v2, u1, la, b1 :: lb⟩ (by dsimp only; omega) ⟨(List.pairwise_cons.1 h1).2, h2, by dsimp only; omega, h4, h5, by rw [h6]; exact commonL_lt hlt h2⟩ ⟨fun I hp φ hφ => ?_⟩ (look_sub_cons rfl (look_sub_cons rfl (look_sub_cons rfl look_sub_nil))) (List.Sublist.refl _)
        rcases List.mem_cons.1 hφ with rfl | hφ
        · exact hp _ (by simp)
        · rcases List.mem_cons.1 hφ with rfl | hφ
          · exact hp _ (by simp)
          · exact hp _ (by simp [hφ])
      · by_cases hgt : 0 < cmpK a b1
        · have hgt' : ltK b1 a := by
            have := cmpK_anti a b1
            show cmpK b1 a < 0
            omega
          repeat (first | refine stp ?_ | (refine sti ?_; intro _) | refine stf ?_ | (refine stb ?_; intro _))
          refine o_slice 1 (b1 :: lb).length rfl rfl rfl ⟨_, _, rfl, rfl⟩ rfl (by omega) (Nat.le_refl _) ?_
          intro v2
          rw [e2]
          repeat (first | refine stp ?_ | (refine sti ?_; intro _) | refine stf ?_ | (refine stb ?_; intro _))
          refine G.again (S := ShSt) ⟨i, v1, v2, a :: la, lb⟩ (by dsimp only; omega) ⟨h1, (List.pairwise_cons.1 h2).2, h3, by dsimp only; omega, h5, by rw [h6]; exact commonL_gt hgt' h1⟩ ⟨fun I hp φ hφ => ?_⟩ (look_sub_cons rfl (look_sub_cons rfl (look_sub_cons rfl look_sub_nil))) (List.Sublist.refl _)
          rcases List.mem_cons.1 hφ with rfl | hφ
          · exact hp _ (by simp)
          · rcases List.mem_cons.1 hφ with rfl | hφ
            · exact hp _ (by simp)
            · exact hp _ (by simp [hφ])
        · have hab : a = b1 := cmpK_zero.1 (by omega)
          subst hab
          rw [commonL_eq h1] at h6
          have hil : i < (commonL (setK xs) (setK ys)).length := by
            apply Classical.byContradiction
            intro hn
            rw [List.drop_eq_nil_of_le (by omega)] at h6
            cases h6
          rw [List.drop_eq_getElem_cons hil] at h6
          obtain ⟨h7, h8⟩ := List.cons.inj h6
          have hyk := hy' i hil
          rw [h7] at hyk
          repeat (first | refine stp ?_ | (refine sti ?_; intro _) | refine stf ?_ | (refine stb ?_; intro _))
          refine o_yield (Mr := []) rfl rfl rfl rfl hyk (fun I hp φ hφ => hp φ (by simp [hφ])) (by simp) ?_ ?_
          · refine G.learn (fRp u1 (a :: lb)) (e := ⟨fun I hp => hp _ (by simp)⟩) ?_
            refine G.learn (fRp v1 (a :: la)) (e := ⟨fun I hp => hp _ (by simp)⟩) ?_
            repeat (first | refine stp ?_ | (refine sti ?_; intro _) | refine stf ?_ | (refine stb ?_; intro _))
            refine W.any (by kernel_rfl) ?_
            refine G.anyStep [0, 2] (by kernel_rfl) (by kernel_rfl) (by kernel_rfl) ?_
            refine ⟨?_, ?_, trivial⟩
            · show OpK _ _ _ (List.getD (_ :: _) _ _) _ _ _ _; simp only [getD_s, getD_z]
              refine stp ?_
              refine G.anyStep [1, 2] (by kernel_rfl) (by kernel_rfl) (by kernel_rfl) ?_
              refine ⟨?_, ?_, trivial⟩
              · show OpK _ _ _ (List.getD (_ :: _) _ _) _ _ _ _; simp only [getD_s, getD_z]
                refine o_slice (xs := a :: la) 1 (a :: la).length rfl rfl rfl ⟨_, _, rfl, rfl⟩ rfl (by omega) (Nat.le_refl _) ?_; rw [e1]; intro z1
                refine G.anyStep [2, 4] (by kernel_rfl) (by kernel_rfl) (by kernel_rfl) ?_
                refine ⟨?_, ?_, trivial⟩
                · show OpK _ _ _ (List.getD (_ :: _) _ _) _ _ _ _; simp only [getD_s, getD_z]
                  refine stp ?_
                  refine G.anyStep [3, 4] (by kernel_rfl) (by kernel_rfl) (by kernel_rfl) ?_
                  refine ⟨?_, ?_, trivial⟩
                  · show OpK _ _ _ (List.getD (_ :: _) _ _) _ _ _ _; simp only [getD_s, getD_z]
                    refine o_slice (xs := a :: lb) 1 (a :: lb).length rfl rfl rfl ⟨_, _, rfl, rfl⟩ rfl (by omega) (Nat.le_refl _) ?_; rw [e2]; intro z3
                    refine G.anyStep [4] (by kernel_rfl) (by kernel_rfl) (by kernel_rfl) ?_
                    refine ⟨?_, trivial⟩
                    · show OpK _ _ _ (List.getD (_ :: _) _ _) _ _ _ _; simp only [getD_s, getD_z]
                      refine stp ?_
                      refine G.anyStep [5] (by kernel_rfl) (by kernel_rfl) (by kernel_rfl) ?_
                      refine ⟨?_, trivial⟩
                      · show OpK _ _ _ (List.getD (_ :: _) _ _) _ _ _ _; simp only [getD_s, getD_z]
                        refine stp ?_
                        refine G.anyEnd (by kernel_rfl) ?_
                        repeat (first | refine stp ?_ | (refine sti ?_; intro _) | refine stf ?_ | (refine stb ?_; intro _))
                        exact G.again (S := ShSt) ⟨i + 1, z1, z3, la, lb⟩ (by dsimp only; omega) ⟨(List.pairwise_cons.1 h1).2, (List.pairwise_cons.1 h2).2, by dsimp only; omega, by dsimp only; omega, by dsimp only; omega, h8⟩ ⟨fun I hp φ hφ => hp φ (mem2 (by simp) (by simp) (fun φ h => by simp [h]) φ hφ)⟩ (look_sub_cons rfl (look_sub_cons rfl (look_sub_cons rfl look_sub_nil))) (by simp)
                  · show OpK _ _ _ (List.getD (_ :: _) _ _) _ _ _ _; simp only [getD_s, getD_z]
                    refine stp ?_
                    refine G.anyStep [3] (by kernel_rfl) (by kernel_rfl) (by kernel_rfl) ?_
                    refine ⟨?_, trivial⟩
                    · show OpK _ _ _ (List.getD (_ :: _) _ _) _ _ _ _; simp only [getD_s, getD_z]
                      refine o_slice (xs := a :: lb) 1 (a :: lb).length rfl rfl rfl ⟨_, _, rfl, rfl⟩ rfl (by omega) (Nat.le_refl _) ?_; rw [e2]; intro z3
                      refine G.anyStep [5] (by kernel_rfl) (by kernel_rfl) (by kernel_rfl) ?_
                      refine ⟨?_, trivial⟩
                      · show OpK _ _ _ (List.getD (_ :: _) _ _) _ _ _ _; simp only [getD_s, getD_z]
                        refine stp ?_
                        refine G.anyEnd (by kernel_rfl) ?_
                        repeat (first | refine stp ?_ | (refine sti ?_; intro _) | refine stf ?_ | (refine stb ?_; intro _))
                        exact G.again (S := ShSt) ⟨i + 1, z1, z3, la, lb⟩ (by dsimp only; omega) ⟨(List.pairwise_cons.1 h1).2, (List.pairwise_cons.1 h2).2, by dsimp only; omega, by dsimp only; omega, by dsimp only; omega, h8⟩ ⟨fun I hp φ hφ => hp φ (mem2 (by simp) (by simp) (fun φ h => by simp [h]) φ hφ)⟩ (look_sub_cons rfl (look_sub_cons rfl (look_sub_cons rfl look_sub_nil))) (by simp)
                · show OpK _ _ _ (List.getD (_ :: _) _ _) _ _ _ _; simp only [getD_s, getD_z]
                  refine stp ?_
                  refine G.anyStep [2] (by kernel_rfl) (by kernel_rfl) (by kernel_rfl) ?_
                  refine ⟨?_, trivial⟩
                  · show OpK _ _ _ (List.getD (_ :: _) _ _) _ _ _ _; simp only [getD_s, getD_z]
                    refine stp ?_
                    refine G.anyStep [3] (by kernel_rfl) (by kernel_rfl) (by kernel_rfl) ?_
                    refine ⟨?_, trivial⟩
                    · show OpK _ _ _ (List.getD (_ :: _) _ _) _ _ _ _; simp only [getD_s, getD_z]
                      refine o_slice (xs := a :: lb) 1 (a :: lb).length rfl rfl rfl ⟨_, _, rfl, rfl⟩ rfl (by omega) (Nat.le_refl _) ?_; rw [e2]; intro z3
                      refine G.anyStep [5] (by kernel_rfl) (by kernel_rfl) (by kernel_rfl) ?_
                      refine ⟨?_, trivial⟩
                      · show OpK _ _ _ (List.getD (_ :: _) _ _) _ _ _ _; simp only [getD_s, getD_z]
                        refine stp ?_
                        refine G.anyEnd (by kernel_rfl) ?_
                        repeat (first | refine stp ?_ | (refine sti ?_; intro _) | refine stf ?_ | (refine stb ?_; intro _))
                        exact G.again (S := ShSt) ⟨i + 1, z1, z3, la, lb⟩ (by dsimp only; omega) ⟨(List.pairwise_cons.1 h1).2, (List.pairwise_cons.1 h2).2, by dsimp only; omega, by dsimp only; omega, by dsimp only; omega, h8⟩ ⟨fun I hp φ hφ => hp φ (mem2 (by simp) (by simp) (fun φ h => by simp [h]) φ hφ)⟩ (look_sub_cons rfl (look_sub_cons rfl (look_sub_cons rfl look_sub_nil))) (by simp)
              · show OpK _ _ _ (List.getD (_ :: _) _ _) _ _ _ _; simp only [getD_s, getD_z]
                refine stp ?_
                refine G.anyStep [1, 3] (by kernel_rfl) (by kernel_rfl) (by kernel_rfl) ?_
                refine ⟨?_, ?_, trivial⟩
                · show OpK _ _ _ (List.getD (_ :: _) _ _) _ _ _ _; simp only [getD_s, getD_z]
                  refine o_slice (xs := a :: la) 1 (a :: la).length rfl rfl rfl ⟨_, _, rfl, rfl⟩ rfl (by omega) (Nat.le_refl _) ?_; rw [e1]; intro z1
                  refine G.anyStep [3, 4] (by kernel_rfl) (by kernel_rfl) (by kernel_rfl) ?_
                  refine ⟨?_, ?_, trivial⟩
                  · show OpK _ _ _ (List.getD (_ :: _) _ _) _ _ _ _; simp only [getD_s, getD_z]
                    refine o_slice (xs := a :: lb) 1 (a :: lb).length rfl rfl rfl ⟨_, _, rfl, rfl⟩ rfl (by omega) (Nat.le_refl _) ?_; rw [e2]; intro z3
                    refine G.anyStep [4] (by kernel_rfl) (by kernel_rfl) (by kernel_rfl) ?_
                    refine ⟨?_, trivial⟩
                    · show OpK _ _ _ (List.getD (_ :: _) _ _) _ _ _ _; simp only [getD_s, getD_z]
                      refine stp ?_
                      refine G.anyStep [5] (by kernel_rfl) (by kernel_rfl) (by kernel_rfl) ?_
                      refine ⟨?_, trivial⟩
                      · show OpK _ _ _ (List.getD (_ :: _) _ _) _ _ _ _; simp only [getD_s, getD_z]
                        refine stp ?_
                        refine G.anyEnd (by kernel_rfl) ?_
                        repeat (first | refine stp ?_ | (refine sti ?_; intro _) | refine stf ?_ | (refine stb ?_; intro _))
                        exact G.again (S := ShSt) ⟨i + 1, z1, z3, la, lb⟩ (by dsimp only; omega) ⟨(List.pairwise_cons.1 h1).2, (List.pairwise_cons.1 h2).2, by dsimp only; omega, by dsimp only; omega, by dsimp only; omega, h8⟩ ⟨fun I hp φ hφ => hp φ (mem2 (by simp) (by simp) (fun φ h => by simp [h]) φ hφ)⟩ (look_sub_cons rfl (look_sub_cons rfl (look_sub_cons rfl look_sub_nil))) (by simp)
                  · show OpK _ _ _ (List.getD (_ :: _) _ _) _ _ _ _; simp only [getD_s, getD_z]
                    refine stp ?_
                    refine G.anyStep [3] (by kernel_rfl) (by kernel_rfl) (by kernel_rfl) ?_
                    refine ⟨?_, trivial⟩
                    · show OpK _ _ _ (List.getD (_ :: _) _ _) _ _ _ _; simp only [getD_s, getD_z]
                      refine o_slice (xs := a :: lb) 1 (a :: lb).length rfl rfl rfl ⟨_, _, rfl, rfl⟩ rfl (by omega) (Nat.le_refl _) ?_; rw [e2]; intro z3
                      refine G.anyStep [5] (by kernel_rfl) (by kernel_rfl) (by kernel_rfl) ?_
                      refine ⟨?_, trivial⟩
                      · show OpK _ _ _ (List.getD (_ :: _) _ _) _ _ _ _; simp only [getD_s, getD_z]
                        refine stp ?_
                        refine G.anyEnd (by kernel_rfl) ?_
                        repeat (first | refine stp ?_ | (refine sti ?_; intro _) | refine stf ?_ | (refine stb ?_; intro _))
                        exact G.again (S := ShSt) ⟨i + 1, z1, z3, la, lb⟩ (by dsimp only; omega) ⟨(List.pairwise_cons.1 h1).2, (List.pairwise_cons.1 h2).2, by dsimp only; omega, by dsimp only; omega, by dsimp only; omega, h8⟩ ⟨fun I hp φ hφ => hp φ (mem2 (by simp) (by simp) (fun φ h => by simp [h]) φ hφ)⟩ (look_sub_cons rfl (look_sub_cons rfl (look_sub_cons rfl look_sub_nil))) (by simp)
                · show OpK _ _ _ (List.getD (_ :: _) _ _) _ _ _ _; simp only [getD_s, getD_z]
                  refine o_slice (xs := a :: lb) 1 (a :: lb).length rfl rfl rfl ⟨_, _, rfl, rfl⟩ rfl (by omega) (Nat.le_refl _) ?_; rw [e2]; intro z3
                  refine G.anyStep [1] (by kernel_rfl) (by kernel_rfl) (by kernel_rfl) ?_
                  refine ⟨?_, trivial⟩
                  · show OpK _ _ _ (List.getD (_ :: _) _ _) _ _ _ _; simp only [getD_s, getD_z]
                    refine o_slice (xs := a :: la) 1 (a :: la).length rfl rfl rfl ⟨_, _, rfl, rfl⟩ rfl (by omega) (Nat.le_refl _) ?_; rw [e1]; intro z1
                    refine G.anyStep [4] (by kernel_rfl) (by kernel_rfl) (by kernel_rfl) ?_
                    refine ⟨?_, trivial⟩
                    · show OpK _ _ _ (List.getD (_ :: _) _ _) _ _ _ _; simp only [getD_s, getD_z]
                      refine stp ?_
                      refine G.anyStep [5] (by kernel_rfl) (by kernel_rfl) (by kernel_rfl) ?_
                      refine ⟨?_, trivial⟩
                      · show OpK _ _ _ (List.getD (_ :: _) _ _) _ _ _ _; simp only [getD_s, getD_z]
                        refine stp ?_
                        refine G.anyEnd (by kernel_rfl) ?_
                        repeat (first | refine stp ?_ | (refine sti ?_; intro _) | refine stf ?_ | (refine stb ?_; intro _))
                        exact G.again (S := ShSt) ⟨i + 1, z1, z3, la, lb⟩ (by dsimp only; omega) ⟨(List.pairwise_cons.1 h1).2, (List.pairwise_cons.1 h2).2, by dsimp only; omega, by dsimp only; omega, by dsimp only; omega, h8⟩ ⟨fun I hp φ hφ => hp φ (mem2 (by simp) (by simp) (fun φ h => by simp [h]) φ hφ)⟩ (look_sub_cons rfl (look_sub_cons rfl (look_sub_cons rfl look_sub_nil))) (by simp)
            · show OpK _ _ _ (List.getD (_ :: _) _ _) _ _ _ _; simp only [getD_s, getD_z]
              refine stp ?_
              refine G.anyStep [0, 3] (by kernel_rfl) (by kernel_rfl) (by kernel_rfl) ?_
              refine ⟨?_, ?_, trivial⟩
              · show OpK _ _ _ (List.getD (_ :: _) _ _) _ _ _ _; simp only [getD_s, getD_z]
                refine stp ?_
                refine G.anyStep [1, 3] (by kernel_rfl) (by kernel_rfl) (by kernel_rfl) ?_
                refine ⟨?_, ?_, trivial⟩
                · show OpK _ _ _ (List.getD (_ :: _) _ _) _ _ _ _; simp only [getD_s, getD_z]
                  refine o_slice (xs := a :: la) 1 (a :: la).length rfl rfl rfl ⟨_, _, rfl, rfl⟩ rfl (by omega) (Nat.le_refl _) ?_; rw [e1]; intro z1
                  refine G.anyStep [3, 4] (by kernel_rfl) (by kernel_rfl) (by kernel_rfl) ?_
                  refine ⟨?_, ?_, trivial⟩
                  · show OpK _ _ _ (List.getD (_ :: _) _ _) _ _ _ _; simp only [getD_s, getD_z]
                    refine o_slice (xs := a :: lb) 1 (a :: lb).length rfl rfl rfl ⟨_, _, rfl, rfl⟩ rfl (by omega) (Nat.le_refl _) ?_; rw [e2]; intro z3
                    refine G.anyStep [4] (by kernel_rfl) (by kernel_rfl) (by kernel_rfl) ?_
                    refine ⟨?_, trivial⟩
                    · show OpK _ _ _ (List.getD (_ :: _) _ _) _ _ _ _; simp only [getD_s, getD_z]
                      refine stp ?_
                      refine G.anyStep [5] (by kernel_rfl) (by kernel_rfl) (by kernel_rfl) ?_
                      refine ⟨?_, trivial⟩
                      · show OpK _ _ _ (List.getD (_ :: _) _ _) _ _ _ _; simp only [getD_s, getD_z]
                        refine stp ?_
                        refine G.anyEnd (by kernel_rfl) ?_
                        repeat (first | refine stp ?_ | (refine sti ?_; intro _) | refine stf ?_ | (refine stb ?_; intro _))
                        exact G.again (S := ShSt) ⟨i + 1, z1, z3, la, lb⟩ (by dsimp only; omega) ⟨(List.pairwise_cons.1 h1).2, (List.pairwise_cons.1 h2).2, by dsimp only; omega, by dsimp only; omega, by dsimp only; omega, h8⟩ ⟨fun I hp φ hφ => hp φ (mem2 (by simp) (by simp) (fun φ h => by simp [h]) φ hφ)⟩ (look_sub_cons rfl (look_sub_cons rfl (look_sub_cons rfl look_sub_nil))) (by simp)
                  · show OpK _ _ _ (List.getD (_ :: _) _ _) _ _ _ _; simp only [getD_s, getD_z]
                    refine stp ?_
                    refine G.anyStep [3] (by kernel_rfl) (by kernel_rfl) (by kernel_rfl) ?_
                    refine ⟨?_, trivial⟩
                    · show OpK _ _ _ (List.getD (_ :: _) _ _) _ _ _ _; simp only [getD_s, getD_z]
                      refine o_slice (xs := a :: lb) 1 (a :: lb).length rfl rfl rfl ⟨_, _, rfl, rfl⟩ rfl (by omega) (Nat.le_refl _) ?_; rw [e2]; intro z3
                      refine G.anyStep [5] (by kernel_rfl) (by kernel_rfl) (by kernel_rfl) ?_
                      refine ⟨?_, trivial⟩
                      · show OpK _ _ _ (List.getD (_ :: _) _ _) _ _ _ _; simp only [getD_s, getD_z]
                        refine stp ?_
                        refine G.anyEnd (by kernel_rfl) ?_
                        repeat (first | refine stp ?_ | (refine sti ?_; intro _) | refine stf ?_ | (refine stb ?_; intro _))
                        exact G.again (S := ShSt) ⟨i + 1, z1, z3, la, lb⟩ (by dsimp only; omega) ⟨(List.pairwise_cons.1 h1).2, (List.pairwise_cons.1 h2).2, by dsimp only; omega, by dsimp only; omega, by dsimp only; omega, h8⟩ ⟨fun I hp φ hφ => hp φ (mem2 (by simp) (by simp) (fun φ h => by simp [h]) φ hφ)⟩ (look_sub_cons rfl (look_sub_cons rfl (look_sub_cons rfl look_sub_nil))) (by simp)
                · show OpK _ _ _ (List.getD (_ :: _) _ _) _ _ _ _; simp only [getD_s, getD_z]
                  refine o_slice (xs := a :: lb) 1 (a :: lb).length rfl rfl rfl ⟨_, _, rfl, rfl⟩ rfl (by omega) (Nat.le_refl _) ?_; rw [e2]; intro z3
                  refine G.anyStep [1] (by kernel_rfl) (by kernel_rfl) (by kernel_rfl) ?_
                  refine ⟨?_, trivial⟩
                  · show OpK _ _ _ (List.getD (_ :: _) _ _) _ _ _ _; simp only [getD_s, getD_z]
                    refine o_slice (xs := a :: la) 1 (a :: la).length rfl rfl rfl ⟨_, _, rfl, rfl⟩ rfl (by omega) (Nat.le_refl _) ?_; rw [e1]; intro z1
                    refine G.anyStep [4] (by kernel_rfl) (by kernel_rfl) (by kernel_rfl) ?_
                    refine ⟨?_, trivial⟩
                    · show OpK _ _ _ (List.getD (_ :: _) _ _) _ _ _ _; simp only [getD_s, getD_z]
                      refine stp ?_
                      refine G.anyStep [5] (by kernel_rfl) (by kernel_rfl) (by kernel_rfl) ?_
                      refine ⟨?_, trivial⟩
                      · show OpK _ _ _ (List.getD (_ :: _) _ _) _ _ _ _; simp only [getD_s, getD_z]
                        refine stp ?_
                        refine G.anyEnd (by kernel_rfl) ?_
                        repeat (first | refine stp ?_ | (refine sti ?_; intro _) | refine stf ?_ | (refine stb ?_; intro _))
                        exact G.again (S := ShSt) ⟨i + 1, z1, z3, la, lb⟩ (by dsimp only; omega) ⟨(List.pairwise_cons.1 h1).2, (List.pairwise_cons.1 h2).2, by dsimp only; omega, by dsimp only; omega, by dsimp only; omega, h8⟩ ⟨fun I hp φ hφ => hp φ (mem2 (by simp) (by simp) (fun φ h => by simp [h]) φ hφ)⟩ (look_sub_cons rfl (look_sub_cons rfl (look_sub_cons rfl look_sub_nil))) (by simp)
              · show OpK _ _ _ (List.getD (_ :: _) _ _) _ _ _ _; simp only [getD_s, getD_z]
                refine o_slice (xs := a :: lb) 1 (a :: lb).length rfl rfl rfl ⟨_, _, rfl, rfl⟩ rfl (by omega) (Nat.le_refl _) ?_; rw [e2]; intro z3
                refine G.anyStep [0] (by kernel_rfl) (by kernel_rfl) (by kernel_rfl) ?_
                refine ⟨?_, trivial⟩
                · show OpK _ _ _ (List.getD (_ :: _) _ _) _ _ _ _; simp only [getD_s, getD_z]
                  refine stp ?_
                  refine G.anyStep [1] (by kernel_rfl) (by kernel_rfl) (by kernel_rfl) ?_
                  refine ⟨?_, trivial⟩
                  · show OpK _ _ _ (List.getD (_ :: _) _ _) _ _ _ _; simp only [getD_s, getD_z]
                    refine o_slice (xs := a :: la) 1 (a :: la).length rfl rfl rfl ⟨_, _, rfl, rfl⟩ rfl (by omega) (Nat.le_refl _) ?_; rw [e1]; intro z1
                    refine G.anyStep [4] (by kernel_rfl) (by kernel_rfl) (by kernel_rfl) ?_
                    refine ⟨?_, trivial⟩
                    · show OpK _ _ _ (List.getD (_ :: _) _ _) _ _ _ _; simp only [getD_s, getD_z]
                      refine stp ?_
                      refine G.anyStep [5] (by kernel_rfl) (by kernel_rfl) (by kernel_rfl) ?_
                      refine ⟨?_, trivial⟩
                      · show OpK _ _ _ (List.getD (_ :: _) _ _) _ _ _ _; simp only [getD_s, getD_z]
                        refine stp ?_
                        refine G.anyEnd (by kernel_rfl) ?_
                        repeat (first | refine stp ?_ | (refine sti ?_; intro _) | refine stf ?_ | (refine stb ?_; intro _))
                        exact G.again (S := ShSt) ⟨i + 1, z1, z3, la, lb⟩ (by dsimp only; omega) ⟨(List.pairwise_cons.1 h1).2, (List.pairwise_cons.1 h2).2, by dsimp only; omega, by dsimp only; omega, by dsimp only; omega, h8⟩ ⟨fun I hp φ hφ => hp φ (mem2 (by simp) (by simp) (fun φ h => by simp [h]) φ hφ)⟩ (look_sub_cons rfl (look_sub_cons rfl (look_sub_cons rfl look_sub_nil))) (by simp)
          · intro s hs
            repeat (first | refine stp ?_ | (refine sti ?_; intro _) | refine stf ?_ | (refine stb ?_; intro _))
            exact G.ret rfl .nil (Φ' := s.1) (M' := s.2) ⟨fun I hp φ hφ => hp φ (by simp [hφ])⟩ (by simp) (.inr hs)

/-- What goes through what two lists have in common, as the program makes it. -/
theorem shared_spec (a1 a2 : Option Addr) (n1 n2 c1 c2 : Nat) : Fn Tryz.prog 87 [.slice a1 n1 c1, .slice a2 n2 c2] [] [] (fun u Φ' M' => ∃ b b', u = .func (.func 100) #[] #[.pointer (some ⟨b, 0, none⟩), .pointer (some ⟨b', 0, none⟩)] ∧ Φ' = [fBlk b [.slice a1 n1 c1] 37, fBlk b' [.slice a2 n2 c2] 37] ∧ M' = []) := by
  refine Fn.enter Tryz.func87 rfl Tryz.ntmps87 (by simp) (fun I0 w0 => ?_)
  repeat (first | refine stp ?_ | (refine sti ?_; intro _) | refine stf ?_ | (refine stb ?_; intro _))
  rename_i b b'
  refine o_func rfl rfl rfl rfl ?_
  repeat (first | refine stp ?_ | (refine sti ?_; intro _) | refine stf ?_ | (refine stb ?_; intro _))
  refine G.give b (cs := [.slice a1 n1 c1]) (t := 37) ?_
  refine G.give b' (cs := [.slice a2 n2 c2]) (t := 37) ?_
  exact G.ret rfl (.cons (.tmp rfl) .nil) (Φ' := [fBlk b [.slice a1 n1 c1] 37, fBlk b' [.slice a2 n2 c2] 37]) (M' := []) inferInstance (List.nil_sublist _) ⟨b, b', rfl, rfl, rfl⟩
end Go.Rail
