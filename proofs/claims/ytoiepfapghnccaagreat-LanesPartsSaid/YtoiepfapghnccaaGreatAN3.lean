/- lanes.Right tells whether a lot may be. -/
import Derived.Test.YtoiepfapghnccaaGreatAN1N2
import Derived.Test.YtoiepfapghnccaaGreatRailB
namespace Go.Rail
open Go Go.Proofs
set_option linter.unusedSimpArgs false
set_option linter.unusedVariables false
set_option maxHeartbeats 400000
set_option maxRecDepth 4000
attribute [local irreducible] OpK G W LW wpListIn Exit.then Exit.inBlock Post rounds opRun bodyPostM intOp
attribute [local irreducible] badM rightS mayG clashS edgesG edgesI clG rightL donesL heldL shapeL idxG errG edgesR
theorem getB {B : List Bool} {k : Nat} (h : k < B.length) : B.getD k false = B[k] := by rw [List.getD_eq_getElem?_getD, List.getElem?_eq_getElem h]; rfl
theorem getZ {B : List Int} {k : Nat} (h : k < B.length) : B.getD k 0 = B[k] := by rw [List.getD_eq_getElem?_getD, List.getElem?_eq_getElem h]; rfl
theorem rt_err {l : List Sets} (h : mayG l = true) : errG l = 0 := by
  have : errG l = if mayG l then 0 else 1 := by with_unfolding_all rfl
  rw [this, h]; rfl
theorem rt_err2 {l : List Sets} (h : mayG l = false) : errG l = 1 := by
  have : errG l = if mayG l then 0 else 1 := by with_unfolding_all rfl
  rw [this, h]; rfl
theorem rt_edges {l : List Sets} (h : mayG l = true) : edgesR l = edgesI l := by
  have : edgesR l = if mayG l then edgesI l else [] := by with_unfolding_all rfl
  rw [this, h]; rfl
set_option maxHeartbeats 16000000 in
theorem lright_spec (v : Value) (l : Lot) (hl : FitL l) : FnV Tryz.prog 20 [v] [fRp v l] (.bool (rightL l)) := by
  obtain ⟨fs, ns, nl, na, nb, nd⟩ := id hl
  have hE := fun w => (edges_spec w l.sets ns fs).givenT
  refine Fn.enter Tryz.func20 rfl Tryz.ntmps20 (by simp) (fun I0 w0 => ?_)
  refine W.bare (G.lot v l ?_)
  intro a1 c1 a2 c2 a3 c3 a4 c4 a5 c5 e
  subst e
  cases hm : mayG l.sets with
  | false =>
    rw [rightL_may hm]
    rw [rt_err2 hm] at hE
    repeat (first | refine stp ?_ | (refine sti ?_; intro _) | refine stf ?_ | (refine stb ?_; intro _))
    refine o_callT (mk := tupE 1) (ψ := fun sv => fRp sv (edgesR l.sets)) rfl rfl rfl rfl (hE _) ?_
    intro v3
    unfold tupE
    repeat (first | refine stp ?_ | (refine sti ?_; intro _) | refine stf ?_ | (refine stb ?_; intro _))
    refine G.ret rfl (.cons (.tmp rfl) .nil) (Φ' := []) (M' := []) inferInstance (List.nil_sublist _) ⟨?_, rfl, rfl⟩
    rfl
  | true =>
    rw [rt_err hm, rt_edges hm] at hE
    cases hsh : shapeL l with
    | false =>
      rw [rightL_shape hsh]
      repeat (first | refine stp ?_ | (refine sti ?_; intro _) | refine stf ?_ | (refine stb ?_; intro _))
      refine o_callT (mk := tupE 0) (ψ := fun sv => fRp sv (edgesI l.sets)) rfl rfl rfl rfl (hE _) ?_
      intro v3
      unfold tupE
      repeat (first | refine stp ?_ | (refine sti ?_; intro _) | refine stf ?_ | (refine stb ?_; intro _))
      refine o_callV rfl rfl rfl rfl (shape_spec _ l hl) (congrArg Value.bool hsh) ?_
      repeat (first | refine stp ?_ | (refine sti ?_; intro _) | refine stf ?_ | (refine stb ?_; intro _))
      refine G.ret rfl (.cons (.tmp rfl) .nil) (Φ' := []) (M' := []) inferInstance (List.nil_sublist _) ⟨?_, rfl, rfl⟩
      rfl
    | true =>
      obtain ⟨hsl, hsb, hsa, hsa2, hsk⟩ := shape_parts hsh
      repeat (first | refine stp ?_ | (refine sti ?_; intro _) | refine stf ?_ | (refine stb ?_; intro _))
      rename_i b1
      refine o_callT (mk := tupE 0) (ψ := fun sv => fRp sv (edgesI l.sets)) rfl rfl rfl rfl (hE _) ?_
      intro v3
      unfold tupE
      repeat (first | refine stp ?_ | (refine sti ?_; intro _) | refine stf ?_ | (refine stb ?_; intro _))
      refine o_callV rfl rfl rfl rfl (shape_spec _ l hl) (congrArg Value.bool hsh) ?_
      repeat (first | refine stp ?_ | (refine sti ?_; intro _) | refine stf ?_ | (refine stb ?_; intro _))
      have hdn := dones_spec (.agg #[.slice a1 l.sets.length c1, .slice a2 l.left.length c2, .slice a3 l.at_.length c3, .slice a4 l.begun.length c4, .slice a5 l.done.length c5]) l hl
      have hhd := held_spec (.agg #[.slice a1 l.sets.length c1, .slice a2 l.left.length c2, .slice a3 l.at_.length c3, .slice a4 l.begun.length c4, .slice a5 l.done.length c5]) l hl
      cases h1 : donesL l with
      | none =>
        rw [h1] at hdn
        rw [rightL_done h1]
        refine OpK.call rfl rfl rfl rfl hdn inferInstance (Mc := []) (Mr := _) (List.Perm.refl _) ?_
        rintro u Φ' Mc' ⟨rfl, rfl, rfl⟩
        dsimp only [List.cons_append, List.nil_append]
        repeat (first | refine stp ?_ | (refine sti ?_; intro _) | refine stf ?_ | (refine stb ?_; intro _))
        cases h2 : heldL l with
        | none =>
          rw [h2] at hhd
          refine OpK.call rfl rfl rfl rfl hhd inferInstance (Mc := []) (Mr := _) (List.Perm.refl _) ?_
          rintro u Φ' Mc' ⟨rfl, rfl, rfl⟩
          dsimp only [List.cons_append, List.nil_append]
          repeat (first | refine stp ?_ | (refine sti ?_; intro _) | refine stf ?_ | (refine stb ?_; intro _))
          refine G.ret rfl (.cons (.tmp rfl) .nil) (Φ' := []) (M' := []) inferInstance (List.nil_sublist _) ⟨?_, rfl, rfl⟩
          rfl
        | some H =>
          rw [h2] at hhd
          refine OpK.call rfl rfl rfl rfl hhd inferInstance (Mc := []) (Mr := _) (List.Perm.refl _) ?_
          rintro u Φ' Mc' ⟨bH, rfl, rfl, rfl⟩
          dsimp only [List.cons_append, List.nil_append]
          repeat (first | refine stp ?_ | (refine sti ?_; intro _) | refine stf ?_ | (refine stb ?_; intro _))
          refine o_eqNil rfl rfl rfl rfl rfl ?_
          repeat (first | refine stp ?_ | (refine sti ?_; intro _) | refine stf ?_ | (refine stb ?_; intro _))
          refine G.ret rfl (.cons (.tmp rfl) .nil) (Φ' := []) (M' := []) inferInstance (List.nil_sublist _) ⟨?_, rfl, rfl⟩
          rfl
      | some D =>
        rw [h1] at hdn
        refine OpK.call rfl rfl rfl rfl hdn inferInstance (Mc := []) (Mr := _) (List.Perm.refl _) ?_
        rintro u Φ' Mc' ⟨bD, rfl, rfl, rfl⟩
        dsimp only [List.cons_append, List.nil_append]
        repeat (first | refine stp ?_ | (refine sti ?_; intro _) | refine stf ?_ | (refine stb ?_; intro _))
        cases h2 : heldL l with
        | none =>
          rw [rightL_held h2]
          rw [h2] at hhd
          refine OpK.call rfl rfl rfl rfl hhd inferInstance (Mc := []) (Mr := _) (List.Perm.refl _) ?_
          rintro u Φ' Mc' ⟨rfl, rfl, rfl⟩
          dsimp only [List.cons_append, List.nil_append]
          repeat (first | refine stp ?_ | (refine sti ?_; intro _) | refine stf ?_ | (refine stb ?_; intro _))
          refine G.ret rfl (.cons (.tmp rfl) .nil) (Φ' := []) (M' := []) inferInstance (List.nil_sublist _) ⟨?_, rfl, rfl⟩
          rfl
        | some H =>
          rw [h2] at hhd
          refine OpK.call rfl rfl rfl rfl hhd inferInstance (Mc := []) (Mr := _) (List.Perm.refl _) ?_
          rintro u Φ' Mc' ⟨bH, rfl, rfl, rfl⟩
          dsimp only [List.cons_append, List.nil_append]
          repeat (first | refine stp ?_ | (refine sti ?_; intro _) | refine stf ?_ | (refine stb ?_; intro _))
          refine o_eqNil rfl rfl rfl rfl rfl ?_
          repeat (first | refine stp ?_ | (refine sti ?_; intro _) | refine stf ?_ | (refine stb ?_; intro _))
          have hDn : D.length = l.sets.length := by
            have h3 : markP (List.replicate l.sets.length false) l.done = some D := by rw [← h1]; with_unfolding_all rfl
            rw [markP_len _ _ _ h3, List.length_replicate]
          have hHn : H.length = l.sets.length := by
            have h3 : markA (List.replicate l.sets.length false) l.at_ = some H := by rw [← h2]; with_unfolding_all rfl
            rw [markA_len _ _ _ h3, List.length_replicate]
          refine W.loopI (fun (i : Nat) => ([fRp (.slice a2 l.left.length c2) l.left, fRp (.slice a4 l.begun.length c4) l.begun, fRp (.slice a5 l.done.length c5) l.done, fRp v3 (edgesI l.sets)], [(1, .pointer (some ⟨b1, 0, none⟩)), (3, v3), (5, .slice (some ⟨bD, 0, none⟩) l.sets.length l.sets.length), (6, .slice (some ⟨bH, 0, none⟩) l.sets.length l.sets.length), (41, .slice a2 l.left.length c2), (42, .int .i64 l.left.length), (43, .int .i64 i)], [(bH, Ob (cB H) 4), (bD, Ob (cB D) 4), (b1, Ob [.slice a1 l.sets.length c1, .slice a2 l.left.length c2, .slice a3 l.at_.length c3, .slice a4 l.begun.length c4, .slice a5 l.done.length c5] 28)])) (fun i => i ≤ l.left.length ∧ ∀ j, j < i → okI l D H j = true) (fun i => l.left.length - i) 0 ⟨Nat.zero_le _, fun j hj => absurd hj (Nat.not_lt_zero j)⟩ inferInstance (look_sub_cons rfl (look_sub_cons rfl (look_sub_cons rfl (look_sub_cons rfl (look_sub_cons rfl (look_sub_cons rfl (look_sub_cons rfl look_sub_nil))))))) (List.Sublist.refl _) ?_
          rintro i ⟨hi, hall⟩
          dsimp only
          by_cases hi0 : i = l.left.length
          case neg =>
            have hil : i < l.left.length := by omega
            have hin : i < l.sets.length := by omega
            have hiD : i < D.length := by omega
            have hiH : i < H.length := by omega
            have hib : i < l.begun.length := by omega
            have hok : okI l D H i = ((D[i] == decide (l.left[i] = 0)) && !(D[i] && H[i]) && (l.begun[i] == (D[i] || H[i]))) := by
              unfold okI; rw [getB hiD, getB hiH, getB hib, getZ hil]
            by_cases hz0 : l.left[i] = 0
            · have hz : decide (l.left[i] = 0) = true := decide_eq_true hz0
              cases hd : D[i] with
              | true =>
                cases hh : H[i] with
                | true =>
                  rw [rightL_i h1 h2 hin (by rw [hok, hd, hz, hh]; rfl)]
                  repeat (first | refine stp ?_ | (refine sti ?_; intro _) | refine stf ?_ | (refine stb ?_; intro _))
                  refine W.draw 37 (⟨?v0_1, fun _ z => []⟩ :: ⟨?v1_1, fun _ z => []⟩ :: ⟨?v2_1, fun _ z => []⟩ :: ⟨?v3_1, fun _ z => []⟩ :: ⟨?v4_1, fun _ z => []⟩ :: ⟨?v5_1, fun _ z => []⟩ :: ⟨?v6_1, fun _ z => []⟩ :: ⟨?v7_1, fun _ z => []⟩ :: ⟨?v8_1, fun _ z => []⟩ :: ⟨?v9_1, fun _ z => []⟩ :: ⟨?v10_1, fun _ z => []⟩ :: ⟨?v11_1, fun _ z => []⟩ :: ⟨?v12_1, fun _ z => []⟩ :: ⟨?v13_1, fun _ z => []⟩ :: ⟨?v14_1, fun _ z => []⟩ :: ⟨?v15_1, fun _ z => []⟩ :: ⟨?v16_1, fun _ z => []⟩ :: ⟨?v17_1, fun _ z => []⟩ :: ⟨?v18_1, fun _ z => []⟩ :: ⟨?v19_1, fun _ z => []⟩ :: ⟨?v20_1, fun _ z => []⟩ :: ⟨?v21_1, fun _ z => []⟩ :: ⟨?v22_1, fun _ z => []⟩ :: ⟨?v23_1, fun _ z => []⟩ :: ⟨?v24_1, fun _ z => []⟩ :: ⟨?v25_1, fun _ z => []⟩ :: ⟨?v26_1, fun _ z => []⟩ :: ⟨?v27_1, fun _ z => []⟩ :: ⟨?v28_1, fun _ z => []⟩ :: ⟨?v29_1, fun _ z => []⟩ :: ⟨?v30_1, fun _ z => []⟩ :: ⟨?v31_1, fun _ z => []⟩ :: ⟨?v32_1, fun _ z => []⟩ :: ⟨?v33_1, fun _ z => []⟩ :: ⟨?v34_1, fun _ z => []⟩ :: ⟨?v35_1, fun _ z => []⟩ :: ⟨?v36_1, fun _ z => []⟩ :: []) ([] :: [] :: [0, 1] :: [2] :: [] :: [4] :: [3, 5] :: [6] :: [7] :: [7] :: [7, 8, 9] :: [7, 10] :: [7, 11] :: [12] :: [12] :: [12, 13, 14] :: [12, 15] :: [7, 12, 16] :: [7, 17] :: [18] :: [19] :: [19, 20] :: [19] :: [19, 21, 22] :: [19, 23] :: [19] :: [19] :: [19, 25, 26] :: [19, 27] :: [19, 28] :: [29] :: [29] :: [29, 30, 31] :: [29, 32] :: [19, 29, 33] :: [19, 24, 34] :: [19, 35] :: []) [36] (by kernel_rfl) (by kernel_rfl) (by kernel_rfl) (by kernel_rfl) ?loc_1 ?ops_1 ?rest_1
                  case ops_1 =>
                    iterate 37 (refine AllQ.mk ?_ ?_; rotate_left)
                    exact AllQ.nil
                    all_goals (intro c z0 Φr Lr K hK; dsimp only [dstOf, kval, kfac, ancE, ancF, getD_z, getD_s, List.getElem?_cons_zero, List.getElem?_cons_succ, List.getElem?_nil, Option.getD_some, Option.getD_none, List.nil_append, List.cons_append, Option.getD] at hK ⊢)
                    · refine stp ?_; exact hK z0
                    · refine stp ?_; exact hK z0
                    · refine o_idxO rfl rfl rfl rfl (by omega) (by omega) (o' := i) (by omega) ?_; exact hK z0
                    · refine o_loadB i hiD rfl rfl rfl rfl ?_; rw [hd]; exact hK z0
                    · refine stp ?_; exact hK z0
                    · refine o_int rfl rfl rfl rfl (i_eql_t (by omega)) ?_; exact hK z0
                    · refine o_neq rfl rfl rfl rfl (r := false) (by simp) ?_; exact hK z0
                    iterate 3 (refine stp ?_; exact hK z0)
                    · refine o_idxO rfl rfl rfl rfl (by omega) (by omega) (o' := i) (by omega) ?_; exact hK z0
                    · refine o_loadB i hiD rfl rfl rfl rfl ?_; rw [hd]; exact hK z0
                    iterate 3 (refine stp ?_; exact hK z0)
                    · refine o_idxO rfl rfl rfl rfl (by omega) (by omega) (o' := i) (by omega) ?_; exact hK z0
                    · refine o_loadB i hiH rfl rfl rfl rfl ?_; rw [hh]; exact hK z0
                    iterate 20 ((first | refine stp ?_ | refine stf ?_); exact hK z0)
                  case loc_1 =>
                    iterate 37 (refine AllL.mk ?_ ?_; rotate_left)
                    exact AllL.nil
                    all_goals exact fun _ _ _ _ => ⟨rfl, rfl⟩
                  intro c
                  dsimp only [dstOf, kval, kfac, ancE,  ancF, getD_z, getD_s, List.getElem?_cons_zero, List.getElem?_cons_succ, List.getElem?_nil, Option.getD_some, Option.getD_none, List.nil_append, List.cons_append, List.drop_succ_cons, List.drop_zero, Option.getD]
                  repeat (first | refine stp ?_ | (refine sti ?_; intro _) | refine stf ?_ | (refine stb ?_; intro _))
                  refine G.ret rfl (.cons (.tmp rfl) .nil) (Φ' := []) (M' := []) inferInstance (List.nil_sublist _) ⟨?_, rfl, rfl⟩
                  rfl
                | false =>
                  cases hg : l.begun[i] with
                  | true =>
                    repeat (first | refine stp ?_ | (refine sti ?_; intro _) | refine stf ?_ | (refine stb ?_; intro _))
                    refine W.draw 37 (⟨?v0_2, fun _ z => []⟩ :: ⟨?v1_2, fun _ z => []⟩ :: ⟨?v2_2, fun _ z => []⟩ :: ⟨?v3_2, fun _ z => []⟩ :: ⟨?v4_2, fun _ z => []⟩ :: ⟨?v5_2, fun _ z => []⟩ :: ⟨?v6_2, fun _ z => []⟩ :: ⟨?v7_2, fun _ z => []⟩ :: ⟨?v8_2, fun _ z => []⟩ :: ⟨?v9_2, fun _ z => []⟩ :: ⟨?v10_2, fun _ z => []⟩ :: ⟨?v11_2, fun _ z => []⟩ :: ⟨?v12_2, fun _ z => []⟩ :: ⟨?v13_2, fun _ z => []⟩ :: ⟨?v14_2, fun _ z => []⟩ :: ⟨?v15_2, fun _ z => []⟩ :: ⟨?v16_2, fun _ z => []⟩ :: ⟨?v17_2, fun _ z => []⟩ :: ⟨?v18_2, fun _ z => []⟩ :: ⟨?v19_2, fun _ z => []⟩ :: ⟨?v20_2, fun _ z => []⟩ :: ⟨?v21_2, fun _ z => []⟩ :: ⟨?v22_2, fun _ z => []⟩ :: ⟨fun _ z => z, fun _ z => [fPt z true]⟩ :: ⟨?v24_2, fun _ z => []⟩ :: ⟨?v25_2, fun _ z => []⟩ :: ⟨?v26_2, fun _ z => []⟩ :: ⟨?v27_2, fun _ z => []⟩ :: ⟨?v28_2, fun _ z => []⟩ :: ⟨?v29_2, fun _ z => []⟩ :: ⟨?v30_2, fun _ z => []⟩ :: ⟨?v31_2, fun _ z => []⟩ :: ⟨?v32_2, fun _ z => []⟩ :: ⟨?v33_2, fun _ z => []⟩ :: ⟨?v34_2, fun _ z => []⟩ :: ⟨?v35_2, fun _ z => []⟩ :: ⟨?v36_2, fun _ z => []⟩ :: []) ([] :: [] :: [0, 1] :: [2] :: [] :: [4] :: [3, 5] :: [6] :: [7] :: [7] :: [7, 8, 9] :: [7, 10] :: [7, 11] :: [12] :: [12] :: [12, 13, 14] :: [12, 15] :: [7, 12, 16] :: [7, 17] :: [18] :: [19] :: [19, 20] :: [19] :: [19, 21, 22] :: [19, 23] :: [19] :: [19] :: [19, 25, 26] :: [19, 27] :: [19, 28] :: [29] :: [29] :: [29, 30, 31] :: [29, 32] :: [19, 29, 33] :: [19, 24, 34] :: [19, 35] :: []) [36] (by kernel_rfl) (by kernel_rfl) (by kernel_rfl) (by kernel_rfl) ?loc_2 ?ops_2 ?rest_2
                    case ops_2 =>
                      iterate 37 (refine AllQ.mk ?_ ?_; rotate_left)
                      exact AllQ.nil
                      all_goals (intro c z0 Φr Lr K hK; dsimp only [dstOf, kval, kfac, ancE, ancF, getD_z, getD_s, List.getElem?_cons_zero, List.getElem?_cons_succ, List.getElem?_nil, Option.getD_some, Option.getD_none, List.nil_append, List.cons_append, Option.getD] at hK ⊢)
                      · refine stp ?_; exact hK z0
                      · refine stp ?_; exact hK z0
                      · refine o_idxO rfl rfl rfl rfl (by omega) (by omega) (o' := i) (by omega) ?_; exact hK z0
                      · refine o_loadB i hiD rfl rfl rfl rfl ?_; rw [hd]; exact hK z0
                      · refine stp ?_; exact hK z0
                      · refine o_int rfl rfl rfl rfl (i_eql_t (by omega)) ?_; exact hK z0
                      · refine o_neq rfl rfl rfl rfl (r := false) (by simp) ?_; exact hK z0
                      iterate 3 (refine stp ?_; exact hK z0)
                      · refine o_idxO rfl rfl rfl rfl (by omega) (by omega) (o' := i) (by omega) ?_; exact hK z0
                      · refine o_loadB i hiD rfl rfl rfl rfl ?_; rw [hd]; exact hK z0
                      iterate 3 (refine stp ?_; exact hK z0)
                      · refine o_idxO rfl rfl rfl rfl (by omega) (by omega) (o' := i) (by omega) ?_; exact hK z0
                      · refine o_loadB i hiH rfl rfl rfl rfl ?_; rw [hh]; exact hK z0
                      iterate 6 ((first | refine stp ?_ | refine stf ?_); exact hK z0)
                      · refine o_idxN i rfl rfl rfl rfl rfl hib ?_; intro p; rw [hg]; exact hK _
                      iterate 3 ((first | refine stp ?_ | refine stf ?_); exact hK z0)
                      · refine o_idxO rfl rfl rfl rfl (by omega) (by omega) (o' := i) (by omega) ?_; exact hK z0
                      · refine o_loadB i hiD rfl rfl rfl rfl ?_; rw [hd]; exact hK z0
                      iterate 6 ((first | refine stp ?_ | refine stf ?_); exact hK z0)
                      · refine o_neq rfl rfl rfl rfl (r := false) (by simp) ?_; exact hK z0
                      · refine stp ?_; exact hK z0
                    case loc_2 =>
                      iterate 37 (refine AllL.mk ?_ ?_; rotate_left)
                      exact AllL.nil
                      all_goals (intro c c' z h; first | exact ⟨rfl, rfl⟩ | (skip))
                    intro c
                    dsimp only [dstOf, kval, kfac, ancE,  ancF, getD_z, getD_s, List.getElem?_cons_zero, List.getElem?_cons_succ, List.getElem?_nil, Option.getD_some, Option.getD_none, List.nil_append, List.cons_append, List.drop_succ_cons, List.drop_zero, Option.getD]
                    repeat (first | refine stp ?_ | (refine sti ?_; intro _) | refine stf ?_ | (refine stb ?_; intro _))
                    exact G.again (S := Nat) (i + 1) (by omega) ⟨by omega, fun j hj => (Nat.lt_succ_iff_lt_or_eq.1 hj).elim (hall j) (fun e => by rw [e, hok, hd, hz, hh, hg]; rfl)⟩ inferInstance (look_sub_cons rfl (look_sub_cons rfl (look_sub_cons rfl (look_sub_cons rfl (look_sub_cons rfl (look_sub_cons rfl (look_sub_cons rfl look_sub_nil))))))) (List.Sublist.refl _)
                  | false =>
                    rw [rightL_i h1 h2 hin (by rw [hok, hd, hz, hh, hg]; rfl)]
                    repeat (first | refine stp ?_ | (refine sti ?_; intro _) | refine stf ?_ | (refine stb ?_; intro _))
                    refine W.draw 37 (⟨?v0_3, fun _ z => []⟩ :: ⟨?v1_3, fun _ z => []⟩ :: ⟨?v2_3, fun _ z => []⟩ :: ⟨?v3_3, fun _ z => []⟩ :: ⟨?v4_3, fun _ z => []⟩ :: ⟨?v5_3, fun _ z => []⟩ :: ⟨?v6_3, fun _ z => []⟩ :: ⟨?v7_3, fun _ z => []⟩ :: ⟨?v8_3, fun _ z => []⟩ :: ⟨?v9_3, fun _ z => []⟩ :: ⟨?v10_3, fun _ z => []⟩ :: ⟨?v11_3, fun _ z => []⟩ :: ⟨?v12_3, fun _ z => []⟩ :: ⟨?v13_3, fun _ z => []⟩ :: ⟨?v14_3, fun _ z => []⟩ :: ⟨?v15_3, fun _ z => []⟩ :: ⟨?v16_3, fun _ z => []⟩ :: ⟨?v17_3, fun _ z => []⟩ :: ⟨?v18_3, fun _ z => []⟩ :: ⟨?v19_3, fun _ z => []⟩ :: ⟨?v20_3, fun _ z => []⟩ :: ⟨?v21_3, fun _ z => []⟩ :: ⟨?v22_3, fun _ z => []⟩ :: ⟨fun _ z => z, fun _ z => [fPt z false]⟩ :: ⟨?v24_3, fun _ z => []⟩ :: ⟨?v25_3, fun _ z => []⟩ :: ⟨?v26_3, fun _ z => []⟩ :: ⟨?v27_3, fun _ z => []⟩ :: ⟨?v28_3, fun _ z => []⟩ :: ⟨?v29_3, fun _ z => []⟩ :: ⟨?v30_3, fun _ z => []⟩ :: ⟨?v31_3, fun _ z => []⟩ :: ⟨?v32_3, fun _ z => []⟩ :: ⟨?v33_3, fun _ z => []⟩ :: ⟨?v34_3, fun _ z => []⟩ :: ⟨?v35_3, fun _ z => []⟩ :: ⟨?v36_3, fun _ z => []⟩ :: []) ([] :: [] :: [0, 1] :: [2] :: [] :: [4] :: [3, 5] :: [6] :: [7] :: [7] :: [7, 8, 9] :: [7, 10] :: [7, 11] :: [12] :: [12] :: [12, 13, 14] :: [12, 15] :: [7, 12, 16] :: [7, 17] :: [18] :: [19] :: [19, 20] :: [19] :: [19, 21, 22] :: [19, 23] :: [19] :: [19] :: [19, 25, 26] :: [19, 27] :: [19, 28] :: [29] :: [29] :: [29, 30, 31] :: [29, 32] :: [19, 29, 33] :: [19, 24, 34] :: [19, 35] :: []) [36] (by kernel_rfl) (by kernel_rfl) (by kernel_rfl) (by kernel_rfl) ?loc_3 ?ops_3 ?rest_3
                    case ops_3 =>
                      iterate 37 (refine AllQ.mk ?_ ?_; rotate_left)
                      exact AllQ.nil
                      all_goals (intro c z0 Φr Lr K hK; dsimp only [dstOf, kval, kfac, ancE, ancF, getD_z, getD_s, List.getElem?_cons_zero, List.getElem?_cons_succ, List.getElem?_nil, Option.getD_some, Option.getD_none, List.nil_append, List.cons_append, Option.getD] at hK ⊢)
                      · refine stp ?_; exact hK z0
                      · refine stp ?_; exact hK z0
                      · refine o_idxO rfl rfl rfl rfl (by omega) (by omega) (o' := i) (by omega) ?_; exact hK z0
                      · refine o_loadB i hiD rfl rfl rfl rfl ?_; rw [hd]; exact hK z0
                      · refine stp ?_; exact hK z0
                      · refine o_int rfl rfl rfl rfl (i_eql_t (by omega)) ?_; exact hK z0
                      · refine o_neq rfl rfl rfl rfl (r := false) (by simp) ?_; exact hK z0
                      iterate 3 (refine stp ?_; exact hK z0)
                      · refine o_idxO rfl rfl rfl rfl (by omega) (by omega) (o' := i) (by omega) ?_; exact hK z0
                      · refine o_loadB i hiD rfl rfl rfl rfl ?_; rw [hd]; exact hK z0
                      iterate 3 (refine stp ?_; exact hK z0)
                      · refine o_idxO rfl rfl rfl rfl (by omega) (by omega) (o' := i) (by omega) ?_; exact hK z0
                      · refine o_loadB i hiH rfl rfl rfl rfl ?_; rw [hh]; exact hK z0
                      iterate 6 ((first | refine stp ?_ | refine stf ?_); exact hK z0)
                      · refine o_idxN i rfl rfl rfl rfl rfl hib ?_; intro p; rw [hg]; exact hK _
                      iterate 3 ((first | refine stp ?_ | refine stf ?_); exact hK z0)
                      · refine o_idxO rfl rfl rfl rfl (by omega) (by omega) (o' := i) (by omega) ?_; exact hK z0
                      · refine o_loadB i hiD rfl rfl rfl rfl ?_; rw [hd]; exact hK z0
                      iterate 6 ((first | refine stp ?_ | refine stf ?_); exact hK z0)
                      · refine o_neq rfl rfl rfl rfl (r := true) (by simp) ?_; exact hK z0
                      · refine stp ?_; exact hK z0
                    case loc_3 =>
                      iterate 37 (refine AllL.mk ?_ ?_; rotate_left)
                      exact AllL.nil
                      all_goals (intro c c' z h; first | exact ⟨rfl, rfl⟩ | (skip))
                    intro c
                    dsimp only [dstOf, kval, kfac, ancE,  ancF, getD_z, getD_s, List.getElem?_cons_zero, List.getElem?_cons_succ, List.getElem?_nil, Option.getD_some, Option.getD_none, List.nil_append, List.cons_append, List.drop_succ_cons, List.drop_zero, Option.getD]
                    repeat (first | refine stp ?_ | (refine sti ?_; intro _) | refine stf ?_ | (refine stb ?_; intro _))
                    refine G.ret rfl (.cons (.tmp rfl) .nil) (Φ' := []) (M' := []) inferInstance (List.nil_sublist _) ⟨?_, rfl, rfl⟩
                    rfl
              | false =>
                rw [rightL_i h1 h2 hin (by rw [hok, hd, hz]; rfl)]
                repeat (first | refine stp ?_ | (refine sti ?_; intro _) | refine stf ?_ | (refine stb ?_; intro _))
                refine W.draw 37 (⟨?v0_4, fun _ z => []⟩ :: ⟨?v1_4, fun _ z => []⟩ :: ⟨?v2_4, fun _ z => []⟩ :: ⟨?v3_4, fun _ z => []⟩ :: ⟨?v4_4, fun _ z => []⟩ :: ⟨?v5_4, fun _ z => []⟩ :: ⟨?v6_4, fun _ z => []⟩ :: ⟨?v7_4, fun _ z => []⟩ :: ⟨?v8_4, fun _ z => []⟩ :: ⟨?v9_4, fun _ z => []⟩ :: ⟨?v10_4, fun _ z => []⟩ :: ⟨?v11_4, fun _ z => []⟩ :: ⟨?v12_4, fun _ z => []⟩ :: ⟨?v13_4, fun _ z => []⟩ :: ⟨?v14_4, fun _ z => []⟩ :: ⟨?v15_4, fun _ z => []⟩ :: ⟨?v16_4, fun _ z => []⟩ :: ⟨?v17_4, fun _ z => []⟩ :: ⟨?v18_4, fun _ z => []⟩ :: ⟨?v19_4, fun _ z => []⟩ :: ⟨?v20_4, fun _ z => []⟩ :: ⟨?v21_4, fun _ z => []⟩ :: ⟨?v22_4, fun _ z => []⟩ :: ⟨?v23_4, fun _ z => []⟩ :: ⟨?v24_4, fun _ z => []⟩ :: ⟨?v25_4, fun _ z => []⟩ :: ⟨?v26_4, fun _ z => []⟩ :: ⟨?v27_4, fun _ z => []⟩ :: ⟨?v28_4, fun _ z => []⟩ :: ⟨?v29_4, fun _ z => []⟩ :: ⟨?v30_4, fun _ z => []⟩ :: ⟨?v31_4, fun _ z => []⟩ :: ⟨?v32_4, fun _ z => []⟩ :: ⟨?v33_4, fun _ z => []⟩ :: ⟨?v34_4, fun _ z => []⟩ :: ⟨?v35_4, fun _ z => []⟩ :: ⟨?v36_4, fun _ z => []⟩ :: []) ([] :: [] :: [0, 1] :: [2] :: [] :: [4] :: [3, 5] :: [6] :: [7] :: [7] :: [7, 8, 9] :: [7, 10] :: [7, 11] :: [12] :: [12] :: [12, 13, 14] :: [12, 15] :: [7, 12, 16] :: [7, 17] :: [18] :: [19] :: [19, 20] :: [19] :: [19, 21, 22] :: [19, 23] :: [19] :: [19] :: [19, 25, 26] :: [19, 27] :: [19, 28] :: [29] :: [29] :: [29, 30, 31] :: [29, 32] :: [19, 29, 33] :: [19, 24, 34] :: [19, 35] :: []) [36] (by kernel_rfl) (by kernel_rfl) (by kernel_rfl) (by kernel_rfl) ?loc_4 ?ops_4 ?rest_4
                case ops_4 =>
                  iterate 37 (refine AllQ.mk ?_ ?_; rotate_left)
                  exact AllQ.nil
                  all_goals (intro c z0 Φr Lr K hK; dsimp only [dstOf, kval, kfac, ancE, ancF, getD_z, getD_s, List.getElem?_cons_zero, List.getElem?_cons_succ, List.getElem?_nil, Option.getD_some, Option.getD_none, List.nil_append, List.cons_append, Option.getD] at hK ⊢)
                  · refine stp ?_; exact hK z0
                  · refine stp ?_; exact hK z0
                  · refine o_idxO rfl rfl rfl rfl (by omega) (by omega) (o' := i) (by omega) ?_; exact hK z0
                  · refine o_loadB i hiD rfl rfl rfl rfl ?_; rw [hd]; exact hK z0
                  · refine stp ?_; exact hK z0
                  · refine o_int rfl rfl rfl rfl (i_eql_t (by omega)) ?_; exact hK z0
                  · refine o_neq rfl rfl rfl rfl (r := true) (by simp) ?_; exact hK z0
                  iterate 30 ((first | refine stp ?_ | refine stf ?_); exact hK z0)
                case loc_4 =>
                  iterate 37 (refine AllL.mk ?_ ?_; rotate_left)
                  exact AllL.nil
                  all_goals exact fun _ _ _ _ => ⟨rfl, rfl⟩
                intro c
                dsimp only [dstOf, kval, kfac, ancE,  ancF, getD_z, getD_s, List.getElem?_cons_zero, List.getElem?_cons_succ, List.getElem?_nil, Option.getD_some, Option.getD_none, List.nil_append, List.cons_append, List.drop_succ_cons, List.drop_zero, Option.getD]
                repeat (first | refine stp ?_ | (refine sti ?_; intro _) | refine stf ?_ | (refine stb ?_; intro _))
                refine G.ret rfl (.cons (.tmp rfl) .nil) (Φ' := []) (M' := []) inferInstance (List.nil_sublist _) ⟨?_, rfl, rfl⟩
                rfl
            · have hz : decide (l.left[i] = 0) = false := decide_eq_false hz0
              cases hd : D[i] with
              | true =>
                rw [rightL_i h1 h2 hin (by rw [hok, hd, hz]; rfl)]
                repeat (first | refine stp ?_ | (refine sti ?_; intro _) | refine stf ?_ | (refine stb ?_; intro _))
                refine W.draw 37 (⟨?v0_5, fun _ z => []⟩ :: ⟨?v1_5, fun _ z => []⟩ :: ⟨?v2_5, fun _ z => []⟩ :: ⟨?v3_5, fun _ z => []⟩ :: ⟨?v4_5, fun _ z => []⟩ :: ⟨?v5_5, fun _ z => []⟩ :: ⟨?v6_5, fun _ z => []⟩ :: ⟨?v7_5, fun _ z => []⟩ :: ⟨?v8_5, fun _ z => []⟩ :: ⟨?v9_5, fun _ z => []⟩ :: ⟨?v10_5, fun _ z => []⟩ :: ⟨?v11_5, fun _ z => []⟩ :: ⟨?v12_5, fun _ z => []⟩ :: ⟨?v13_5, fun _ z => []⟩ :: ⟨?v14_5, fun _ z => []⟩ :: ⟨?v15_5, fun _ z => []⟩ :: ⟨?v16_5, fun _ z => []⟩ :: ⟨?v17_5, fun _ z => []⟩ :: ⟨?v18_5, fun _ z => []⟩ :: ⟨?v19_5, fun _ z => []⟩ :: ⟨?v20_5, fun _ z => []⟩ :: ⟨?v21_5, fun _ z => []⟩ :: ⟨?v22_5, fun _ z => []⟩ :: ⟨?v23_5, fun _ z => []⟩ :: ⟨?v24_5, fun _ z => []⟩ :: ⟨?v25_5, fun _ z => []⟩ :: ⟨?v26_5, fun _ z => []⟩ :: ⟨?v27_5, fun _ z => []⟩ :: ⟨?v28_5, fun _ z => []⟩ :: ⟨?v29_5, fun _ z => []⟩ :: ⟨?v30_5, fun _ z => []⟩ :: ⟨?v31_5, fun _ z => []⟩ :: ⟨?v32_5, fun _ z => []⟩ :: ⟨?v33_5, fun _ z => []⟩ :: ⟨?v34_5, fun _ z => []⟩ :: ⟨?v35_5, fun _ z => []⟩ :: ⟨?v36_5, fun _ z => []⟩ :: []) ([] :: [] :: [0, 1] :: [2] :: [] :: [4] :: [3, 5] :: [6] :: [7] :: [7] :: [7, 8, 9] :: [7, 10] :: [7, 11] :: [12] :: [12] :: [12, 13, 14] :: [12, 15] :: [7, 12, 16] :: [7, 17] :: [18] :: [19] :: [19, 20] :: [19] :: [19, 21, 22] :: [19, 23] :: [19] :: [19] :: [19, 25, 26] :: [19, 27] :: [19, 28] :: [29] :: [29] :: [29, 30, 31] :: [29, 32] :: [19, 29, 33] :: [19, 24, 34] :: [19, 35] :: []) [36] (by kernel_rfl) (by kernel_rfl) (by kernel_rfl) (by kernel_rfl) ?loc_5 ?ops_5 ?rest_5
                case ops_5 =>
                  iterate 37 (refine AllQ.mk ?_ ?_; rotate_left)
                  exact AllQ.nil
                  all_goals (intro c z0 Φr Lr K hK; dsimp only [dstOf, kval, kfac, ancE, ancF, getD_z, getD_s, List.getElem?_cons_zero, List.getElem?_cons_succ, List.getElem?_nil, Option.getD_some, Option.getD_none, List.nil_append, List.cons_append, Option.getD] at hK ⊢)
                  · refine stp ?_; exact hK z0
                  · refine stp ?_; exact hK z0
                  · refine o_idxO rfl rfl rfl rfl (by omega) (by omega) (o' := i) (by omega) ?_; exact hK z0
                  · refine o_loadB i hiD rfl rfl rfl rfl ?_; rw [hd]; exact hK z0
                  · refine stp ?_; exact hK z0
                  · refine o_int rfl rfl rfl rfl (i_eql_f (by omega)) ?_; exact hK z0
                  · refine o_neq rfl rfl rfl rfl (r := true) (by simp) ?_; exact hK z0
                  iterate 30 ((first | refine stp ?_ | refine stf ?_); exact hK z0)
                case loc_5 =>
                  iterate 37 (refine AllL.mk ?_ ?_; rotate_left)
                  exact AllL.nil
                  all_goals exact fun _ _ _ _ => ⟨rfl, rfl⟩
                intro c
                dsimp only [dstOf, kval, kfac, ancE,  ancF, getD_z, getD_s, List.getElem?_cons_zero, List.getElem?_cons_succ, List.getElem?_nil, Option.getD_some, Option.getD_none, List.nil_append, List.cons_append, List.drop_succ_cons, List.drop_zero, Option.getD]
                repeat (first | refine stp ?_ | (refine sti ?_; intro _) | refine stf ?_ | (refine stb ?_; intro _))
                refine G.ret rfl (.cons (.tmp rfl) .nil) (Φ' := []) (M' := []) inferInstance (List.nil_sublist _) ⟨?_, rfl, rfl⟩
                rfl
              | false =>
                cases hh : H[i] with
                | true =>
                  cases hg : l.begun[i] with
                  | true =>
                    repeat (first | refine stp ?_ | (refine sti ?_; intro _) | refine stf ?_ | (refine stb ?_; intro _))
                    refine W.draw 37 (⟨?v0_6, fun _ z => []⟩ :: ⟨?v1_6, fun _ z => []⟩ :: ⟨?v2_6, fun _ z => []⟩ :: ⟨?v3_6, fun _ z => []⟩ :: ⟨?v4_6, fun _ z => []⟩ :: ⟨?v5_6, fun _ z => []⟩ :: ⟨?v6_6, fun _ z => []⟩ :: ⟨?v7_6, fun _ z => []⟩ :: ⟨?v8_6, fun _ z => []⟩ :: ⟨?v9_6, fun _ z => []⟩ :: ⟨?v10_6, fun _ z => []⟩ :: ⟨?v11_6, fun _ z => []⟩ :: ⟨?v12_6, fun _ z => []⟩ :: ⟨?v13_6, fun _ z => []⟩ :: ⟨?v14_6, fun _ z => []⟩ :: ⟨?v15_6, fun _ z => []⟩ :: ⟨?v16_6, fun _ z => []⟩ :: ⟨?v17_6, fun _ z => []⟩ :: ⟨?v18_6, fun _ z => []⟩ :: ⟨?v19_6, fun _ z => []⟩ :: ⟨?v20_6, fun _ z => []⟩ :: ⟨?v21_6, fun _ z => []⟩ :: ⟨?v22_6, fun _ z => []⟩ :: ⟨fun _ z => z, fun _ z => [fPt z true]⟩ :: ⟨?v24_6, fun _ z => []⟩ :: ⟨?v25_6, fun _ z => []⟩ :: ⟨?v26_6, fun _ z => []⟩ :: ⟨?v27_6, fun _ z => []⟩ :: ⟨?v28_6, fun _ z => []⟩ :: ⟨?v29_6, fun _ z => []⟩ :: ⟨?v30_6, fun _ z => []⟩ :: ⟨?v31_6, fun _ z => []⟩ :: ⟨?v32_6, fun _ z => []⟩ :: ⟨?v33_6, fun _ z => []⟩ :: ⟨?v34_6, fun _ z => []⟩ :: ⟨?v35_6, fun _ z => []⟩ :: ⟨?v36_6, fun _ z => []⟩ :: []) ([] :: [] :: [0, 1] :: [2] :: [] :: [4] :: [3, 5] :: [6] :: [7] :: [7] :: [7, 8, 9] :: [7, 10] :: [7, 11] :: [12] :: [12] :: [12, 13, 14] :: [12, 15] :: [7, 12, 16] :: [7, 17] :: [18] :: [19] :: [19, 20] :: [19] :: [19, 21, 22] :: [19, 23] :: [19] :: [19] :: [19, 25, 26] :: [19, 27] :: [19, 28] :: [29] :: [29] :: [29, 30, 31] :: [29, 32] :: [19, 29, 33] :: [19, 24, 34] :: [19, 35] :: []) [36] (by kernel_rfl) (by kernel_rfl) (by kernel_rfl) (by kernel_rfl) ?loc_6 ?ops_6 ?rest_6
                    case ops_6 =>
                      iterate 37 (refine AllQ.mk ?_ ?_; rotate_left)
                      exact AllQ.nil
                      all_goals (intro c z0 Φr Lr K hK; dsimp only [dstOf, kval, kfac, ancE, ancF, getD_z, getD_s, List.getElem?_cons_zero, List.getElem?_cons_succ, List.getElem?_nil, Option.getD_some, Option.getD_none, List.nil_append, List.cons_append, Option.getD] at hK ⊢)
                      · refine stp ?_; exact hK z0
                      · refine stp ?_; exact hK z0
                      · refine o_idxO rfl rfl rfl rfl (by omega) (by omega) (o' := i) (by omega) ?_; exact hK z0
                      · refine o_loadB i hiD rfl rfl rfl rfl ?_; rw [hd]; exact hK z0
                      · refine stp ?_; exact hK z0
                      · refine o_int rfl rfl rfl rfl (i_eql_f (by omega)) ?_; exact hK z0
                      · refine o_neq rfl rfl rfl rfl (r := false) (by simp) ?_; exact hK z0
                      iterate 3 (refine stp ?_; exact hK z0)
                      · refine o_idxO rfl rfl rfl rfl (by omega) (by omega) (o' := i) (by omega) ?_; exact hK z0
                      · refine o_loadB i hiD rfl rfl rfl rfl ?_; rw [hd]; exact hK z0
                      iterate 11 ((first | refine stp ?_ | refine stf ?_); exact hK z0)
                      · refine o_idxN i rfl rfl rfl rfl rfl hib ?_; intro p; rw [hg]; exact hK _
                      iterate 3 ((first | refine stp ?_ | refine stf ?_); exact hK z0)
                      · refine o_idxO rfl rfl rfl rfl (by omega) (by omega) (o' := i) (by omega) ?_; exact hK z0
                      · refine o_loadB i hiD rfl rfl rfl rfl ?_; rw [hd]; exact hK z0
                      iterate 3 (refine stp ?_; exact hK z0)
                      · refine o_idxO rfl rfl rfl rfl (by omega) (by omega) (o' := i) (by omega) ?_; exact hK z0
                      · refine o_loadB i hiH rfl rfl rfl rfl ?_; rw [hh]; exact hK z0
                      · refine stp ?_; exact hK z0
                      · refine o_neq rfl rfl rfl rfl (r := false) (by simp) ?_; exact hK z0
                      · refine stp ?_; exact hK z0
                    case loc_6 =>
                      iterate 37 (refine AllL.mk ?_ ?_; rotate_left)
                      exact AllL.nil
                      all_goals (intro c c' z h; first | exact ⟨rfl, rfl⟩ | (skip))
                    intro c
                    dsimp only [dstOf, kval, kfac, ancE,  ancF, getD_z, getD_s, List.getElem?_cons_zero, List.getElem?_cons_succ, List.getElem?_nil, Option.getD_some, Option.getD_none, List.nil_append, List.cons_append, List.drop_succ_cons, List.drop_zero, Option.getD]
                    repeat (first | refine stp ?_ | (refine sti ?_; intro _) | refine stf ?_ | (refine stb ?_; intro _))
                    exact G.again (S := Nat) (i + 1) (by omega) ⟨by omega, fun j hj => (Nat.lt_succ_iff_lt_or_eq.1 hj).elim (hall j) (fun e => by rw [e, hok, hd, hz, hh, hg]; rfl)⟩ inferInstance (look_sub_cons rfl (look_sub_cons rfl (look_sub_cons rfl (look_sub_cons rfl (look_sub_cons rfl (look_sub_cons rfl (look_sub_cons rfl look_sub_nil))))))) (List.Sublist.refl _)
                  | false =>
                    rw [rightL_i h1 h2 hin (by rw [hok, hd, hz, hh, hg]; rfl)]
                    repeat (first | refine stp ?_ | (refine sti ?_; intro _) | refine stf ?_ | (refine stb ?_; intro _))
                    refine W.draw 37 (⟨?v0_7, fun _ z => []⟩ :: ⟨?v1_7, fun _ z => []⟩ :: ⟨?v2_7, fun _ z => []⟩ :: ⟨?v3_7, fun _ z => []⟩ :: ⟨?v4_7, fun _ z => []⟩ :: ⟨?v5_7, fun _ z => []⟩ :: ⟨?v6_7, fun _ z => []⟩ :: ⟨?v7_7, fun _ z => []⟩ :: ⟨?v8_7, fun _ z => []⟩ :: ⟨?v9_7, fun _ z => []⟩ :: ⟨?v10_7, fun _ z => []⟩ :: ⟨?v11_7, fun _ z => []⟩ :: ⟨?v12_7, fun _ z => []⟩ :: ⟨?v13_7, fun _ z => []⟩ :: ⟨?v14_7, fun _ z => []⟩ :: ⟨?v15_7, fun _ z => []⟩ :: ⟨?v16_7, fun _ z => []⟩ :: ⟨?v17_7, fun _ z => []⟩ :: ⟨?v18_7, fun _ z => []⟩ :: ⟨?v19_7, fun _ z => []⟩ :: ⟨?v20_7, fun _ z => []⟩ :: ⟨?v21_7, fun _ z => []⟩ :: ⟨?v22_7, fun _ z => []⟩ :: ⟨fun _ z => z, fun _ z => [fPt z false]⟩ :: ⟨?v24_7, fun _ z => []⟩ :: ⟨?v25_7, fun _ z => []⟩ :: ⟨?v26_7, fun _ z => []⟩ :: ⟨?v27_7, fun _ z => []⟩ :: ⟨?v28_7, fun _ z => []⟩ :: ⟨?v29_7, fun _ z => []⟩ :: ⟨?v30_7, fun _ z => []⟩ :: ⟨?v31_7, fun _ z => []⟩ :: ⟨?v32_7, fun _ z => []⟩ :: ⟨?v33_7, fun _ z => []⟩ :: ⟨?v34_7, fun _ z => []⟩ :: ⟨?v35_7, fun _ z => []⟩ :: ⟨?v36_7, fun _ z => []⟩ :: []) ([] :: [] :: [0, 1] :: [2] :: [] :: [4] :: [3, 5] :: [6] :: [7] :: [7] :: [7, 8, 9] :: [7, 10] :: [7, 11] :: [12] :: [12] :: [12, 13, 14] :: [12, 15] :: [7, 12, 16] :: [7, 17] :: [18] :: [19] :: [19, 20] :: [19] :: [19, 21, 22] :: [19, 23] :: [19] :: [19] :: [19, 25, 26] :: [19, 27] :: [19, 28] :: [29] :: [29] :: [29, 30, 31] :: [29, 32] :: [19, 29, 33] :: [19, 24, 34] :: [19, 35] :: []) [36] (by kernel_rfl) (by kernel_rfl) (by kernel_rfl) (by kernel_rfl) ?loc_7 ?ops_7 ?rest_7
                    case ops_7 =>
                      iterate 37 (refine AllQ.mk ?_ ?_; rotate_left)
                      exact AllQ.nil
                      all_goals (intro c z0 Φr Lr K hK; dsimp only [dstOf, kval, kfac, ancE, ancF, getD_z, getD_s, List.getElem?_cons_zero, List.getElem?_cons_succ, List.getElem?_nil, Option.getD_some, Option.getD_none, List.nil_append, List.cons_append, Option.getD] at hK ⊢)
                      · refine stp ?_; exact hK z0
                      · refine stp ?_; exact hK z0
                      · refine o_idxO rfl rfl rfl rfl (by omega) (by omega) (o' := i) (by omega) ?_; exact hK z0
                      · refine o_loadB i hiD rfl rfl rfl rfl ?_; rw [hd]; exact hK z0
                      · refine stp ?_; exact hK z0
                      · refine o_int rfl rfl rfl rfl (i_eql_f (by omega)) ?_; exact hK z0
                      · refine o_neq rfl rfl rfl rfl (r := false) (by simp) ?_; exact hK z0
                      iterate 3 (refine stp ?_; exact hK z0)
                      · refine o_idxO rfl rfl rfl rfl (by omega) (by omega) (o' := i) (by omega) ?_; exact hK z0
                      · refine o_loadB i hiD rfl rfl rfl rfl ?_; rw [hd]; exact hK z0
                      iterate 11 ((first | refine stp ?_ | refine stf ?_); exact hK z0)
                      · refine o_idxN i rfl rfl rfl rfl rfl hib ?_; intro p; rw [hg]; exact hK _
                      iterate 3 ((first | refine stp ?_ | refine stf ?_); exact hK z0)
                      · refine o_idxO rfl rfl rfl rfl (by omega) (by omega) (o' := i) (by omega) ?_; exact hK z0
                      · refine o_loadB i hiD rfl rfl rfl rfl ?_; rw [hd]; exact hK z0
                      iterate 3 (refine stp ?_; exact hK z0)
                      · refine o_idxO rfl rfl rfl rfl (by omega) (by omega) (o' := i) (by omega) ?_; exact hK z0
                      · refine o_loadB i hiH rfl rfl rfl rfl ?_; rw [hh]; exact hK z0
                      · refine stp ?_; exact hK z0
                      · refine o_neq rfl rfl rfl rfl (r := true) (by simp) ?_; exact hK z0
                      · refine stp ?_; exact hK z0
                    case loc_7 =>
                      iterate 37 (refine AllL.mk ?_ ?_; rotate_left)
                      exact AllL.nil
                      all_goals (intro c c' z h; first | exact ⟨rfl, rfl⟩ | (skip))
                    intro c
                    dsimp only [dstOf, kval, kfac, ancE,  ancF, getD_z, getD_s, List.getElem?_cons_zero, List.getElem?_cons_succ, List.getElem?_nil, Option.getD_some, Option.getD_none, List.nil_append, List.cons_append, List.drop_succ_cons, List.drop_zero, Option.getD]
                    repeat (first | refine stp ?_ | (refine sti ?_; intro _) | refine stf ?_ | (refine stb ?_; intro _))
                    refine G.ret rfl (.cons (.tmp rfl) .nil) (Φ' := []) (M' := []) inferInstance (List.nil_sublist _) ⟨?_, rfl, rfl⟩
                    rfl
                | false =>
                  cases hg : l.begun[i] with
                  | true =>
                    rw [rightL_i h1 h2 hin (by rw [hok, hd, hz, hh, hg]; rfl)]
                    repeat (first | refine stp ?_ | (refine sti ?_; intro _) | refine stf ?_ | (refine stb ?_; intro _))
                    refine W.draw 37 (⟨?v0_8, fun _ z => []⟩ :: ⟨?v1_8, fun _ z => []⟩ :: ⟨?v2_8, fun _ z => []⟩ :: ⟨?v3_8, fun _ z => []⟩ :: ⟨?v4_8, fun _ z => []⟩ :: ⟨?v5_8, fun _ z => []⟩ :: ⟨?v6_8, fun _ z => []⟩ :: ⟨?v7_8, fun _ z => []⟩ :: ⟨?v8_8, fun _ z => []⟩ :: ⟨?v9_8, fun _ z => []⟩ :: ⟨?v10_8, fun _ z => []⟩ :: ⟨?v11_8, fun _ z => []⟩ :: ⟨?v12_8, fun _ z => []⟩ :: ⟨?v13_8, fun _ z => []⟩ :: ⟨?v14_8, fun _ z => []⟩ :: ⟨?v15_8, fun _ z => []⟩ :: ⟨?v16_8, fun _ z => []⟩ :: ⟨?v17_8, fun _ z => []⟩ :: ⟨?v18_8, fun _ z => []⟩ :: ⟨?v19_8, fun _ z => []⟩ :: ⟨?v20_8, fun _ z => []⟩ :: ⟨?v21_8, fun _ z => []⟩ :: ⟨?v22_8, fun _ z => []⟩ :: ⟨fun _ z => z, fun _ z => [fPt z true]⟩ :: ⟨?v24_8, fun _ z => []⟩ :: ⟨?v25_8, fun _ z => []⟩ :: ⟨?v26_8, fun _ z => []⟩ :: ⟨?v27_8, fun _ z => []⟩ :: ⟨?v28_8, fun _ z => []⟩ :: ⟨?v29_8, fun _ z => []⟩ :: ⟨?v30_8, fun _ z => []⟩ :: ⟨?v31_8, fun _ z => []⟩ :: ⟨?v32_8, fun _ z => []⟩ :: ⟨?v33_8, fun _ z => []⟩ :: ⟨?v34_8, fun _ z => []⟩ :: ⟨?v35_8, fun _ z => []⟩ :: ⟨?v36_8, fun _ z => []⟩ :: []) ([] :: [] :: [0, 1] :: [2] :: [] :: [4] :: [3, 5] :: [6] :: [7] :: [7] :: [7, 8, 9] :: [7, 10] :: [7, 11] :: [12] :: [12] :: [12, 13, 14] :: [12, 15] :: [7, 12, 16] :: [7, 17] :: [18] :: [19] :: [19, 20] :: [19] :: [19, 21, 22] :: [19, 23] :: [19] :: [19] :: [19, 25, 26] :: [19, 27] :: [19, 28] :: [29] :: [29] :: [29, 30, 31] :: [29, 32] :: [19, 29, 33] :: [19, 24, 34] :: [19, 35] :: []) [36] (by kernel_rfl) (by kernel_rfl) (by kernel_rfl) (by kernel_rfl) ?loc_8 ?ops_8 ?rest_8
                    case ops_8 =>
                      iterate 37 (refine AllQ.mk ?_ ?_; rotate_left)
                      exact AllQ.nil
                      all_goals (intro c z0 Φr Lr K hK; dsimp only [dstOf, kval, kfac, ancE, ancF, getD_z, getD_s, List.getElem?_cons_zero, List.getElem?_cons_succ, List.getElem?_nil, Option.getD_some, Option.getD_none, List.nil_append, List.cons_append, Option.getD] at hK ⊢)
                      · refine stp ?_; exact hK z0
                      · refine stp ?_; exact hK z0
                      · refine o_idxO rfl rfl rfl rfl (by omega) (by omega) (o' := i) (by omega) ?_; exact hK z0
                      · refine o_loadB i hiD rfl rfl rfl rfl ?_; rw [hd]; exact hK z0
                      · refine stp ?_; exact hK z0
                      · refine o_int rfl rfl rfl rfl (i_eql_f (by omega)) ?_; exact hK z0
                      · refine o_neq rfl rfl rfl rfl (r := false) (by simp) ?_; exact hK z0
                      iterate 3 (refine stp ?_; exact hK z0)
                      · refine o_idxO rfl rfl rfl rfl (by omega) (by omega) (o' := i) (by omega) ?_; exact hK z0
                      · refine o_loadB i hiD rfl rfl rfl rfl ?_; rw [hd]; exact hK z0
                      iterate 11 ((first | refine stp ?_ | refine stf ?_); exact hK z0)
                      · refine o_idxN i rfl rfl rfl rfl rfl hib ?_; intro p; rw [hg]; exact hK _
                      iterate 3 ((first | refine stp ?_ | refine stf ?_); exact hK z0)
                      · refine o_idxO rfl rfl rfl rfl (by omega) (by omega) (o' := i) (by omega) ?_; exact hK z0
                      · refine o_loadB i hiD rfl rfl rfl rfl ?_; rw [hd]; exact hK z0
                      iterate 3 (refine stp ?_; exact hK z0)
                      · refine o_idxO rfl rfl rfl rfl (by omega) (by omega) (o' := i) (by omega) ?_; exact hK z0
                      · refine o_loadB i hiH rfl rfl rfl rfl ?_; rw [hh]; exact hK z0
                      · refine stp ?_; exact hK z0
                      · refine o_neq rfl rfl rfl rfl (r := true) (by simp) ?_; exact hK z0
                      · refine stp ?_; exact hK z0
                    case loc_8 =>
                      iterate 37 (refine AllL.mk ?_ ?_; rotate_left)
                      exact AllL.nil
                      all_goals (intro c c' z h; first | exact ⟨rfl, rfl⟩ | (skip))
                    intro c
                    dsimp only [dstOf, kval, kfac, ancE,  ancF, getD_z, getD_s, List.getElem?_cons_zero, List.getElem?_cons_succ, List.getElem?_nil, Option.getD_some, Option.getD_none, List.nil_append, List.cons_append, List.drop_succ_cons, List.drop_zero, Option.getD]
                    repeat (first | refine stp ?_ | (refine sti ?_; intro _) | refine stf ?_ | (refine stb ?_; intro _))
                    refine G.ret rfl (.cons (.tmp rfl) .nil) (Φ' := []) (M' := []) inferInstance (List.nil_sublist _) ⟨?_, rfl, rfl⟩
                    rfl
                  | false =>
                    repeat (first | refine stp ?_ | (refine sti ?_; intro _) | refine stf ?_ | (refine stb ?_; intro _))
                    refine W.draw 37 (⟨?v0_9, fun _ z => []⟩ :: ⟨?v1_9, fun _ z => []⟩ :: ⟨?v2_9, fun _ z => []⟩ :: ⟨?v3_9, fun _ z => []⟩ :: ⟨?v4_9, fun _ z => []⟩ :: ⟨?v5_9, fun _ z => []⟩ :: ⟨?v6_9, fun _ z => []⟩ :: ⟨?v7_9, fun _ z => []⟩ :: ⟨?v8_9, fun _ z => []⟩ :: ⟨?v9_9, fun _ z => []⟩ :: ⟨?v10_9, fun _ z => []⟩ :: ⟨?v11_9, fun _ z => []⟩ :: ⟨?v12_9, fun _ z => []⟩ :: ⟨?v13_9, fun _ z => []⟩ :: ⟨?v14_9, fun _ z => []⟩ :: ⟨?v15_9, fun _ z => []⟩ :: ⟨?v16_9, fun _ z => []⟩ :: ⟨?v17_9, fun _ z => []⟩ :: ⟨?v18_9, fun _ z => []⟩ :: ⟨?v19_9, fun _ z => []⟩ :: ⟨?v20_9, fun _ z => []⟩ :: ⟨?v21_9, fun _ z => []⟩ :: ⟨?v22_9, fun _ z => []⟩ :: ⟨fun _ z => z, fun _ z => [fPt z false]⟩ :: ⟨?v24_9, fun _ z => []⟩ :: ⟨?v25_9, fun _ z => []⟩ :: ⟨?v26_9, fun _ z => []⟩ :: ⟨?v27_9, fun _ z => []⟩ :: ⟨?v28_9, fun _ z => []⟩ :: ⟨?v29_9, fun _ z => []⟩ :: ⟨?v30_9, fun _ z => []⟩ :: ⟨?v31_9, fun _ z => []⟩ :: ⟨?v32_9, fun _ z => []⟩ :: ⟨?v33_9, fun _ z => []⟩ :: ⟨?v34_9, fun _ z => []⟩ :: ⟨?v35_9, fun _ z => []⟩ :: ⟨?v36_9, fun _ z => []⟩ :: []) ([] :: [] :: [0, 1] :: [2] :: [] :: [4] :: [3, 5] :: [6] :: [7] :: [7] :: [7, 8, 9] :: [7, 10] :: [7, 11] :: [12] :: [12] :: [12, 13, 14] :: [12, 15] :: [7, 12, 16] :: [7, 17] :: [18] :: [19] :: [19, 20] :: [19] :: [19, 21, 22] :: [19, 23] :: [19] :: [19] :: [19, 25, 26] :: [19, 27] :: [19, 28] :: [29] :: [29] :: [29, 30, 31] :: [29, 32] :: [19, 29, 33] :: [19, 24, 34] :: [19, 35] :: []) [36] (by kernel_rfl) (by kernel_rfl) (by kernel_rfl) (by kernel_rfl) ?loc_9 ?ops_9 ?rest_9
                    case ops_9 =>
                      iterate 37 (refine AllQ.mk ?_ ?_; rotate_left)
                      exact AllQ.nil
                      all_goals (intro c z0 Φr Lr K hK; dsimp only [dstOf, kval, kfac, ancE, ancF, getD_z, getD_s, List.getElem?_cons_zero, List.getElem?_cons_succ, List.getElem?_nil, Option.getD_some, Option.getD_none, List.nil_append, List.cons_append, Option.getD] at hK ⊢)
                      · refine stp ?_; exact hK z0
                      · refine stp ?_; exact hK z0
                      · refine o_idxO rfl rfl rfl rfl (by omega) (by omega) (o' := i) (by omega) ?_; exact hK z0
                      · refine o_loadB i hiD rfl rfl rfl rfl ?_; rw [hd]; exact hK z0
                      · refine stp ?_; exact hK z0
                      · refine o_int rfl rfl rfl rfl (i_eql_f (by omega)) ?_; exact hK z0
                      · refine o_neq rfl rfl rfl rfl (r := false) (by simp) ?_; exact hK z0
                      iterate 3 (refine stp ?_; exact hK z0)
                      · refine o_idxO rfl rfl rfl rfl (by omega) (by omega) (o' := i) (by omega) ?_; exact hK z0
                      · refine o_loadB i hiD rfl rfl rfl rfl ?_; rw [hd]; exact hK z0
                      iterate 11 ((first | refine stp ?_ | refine stf ?_); exact hK z0)
                      · refine o_idxN i rfl rfl rfl rfl rfl hib ?_; intro p; rw [hg]; exact hK _
                      iterate 3 ((first | refine stp ?_ | refine stf ?_); exact hK z0)
                      · refine o_idxO rfl rfl rfl rfl (by omega) (by omega) (o' := i) (by omega) ?_; exact hK z0
                      · refine o_loadB i hiD rfl rfl rfl rfl ?_; rw [hd]; exact hK z0
                      iterate 3 (refine stp ?_; exact hK z0)
                      · refine o_idxO rfl rfl rfl rfl (by omega) (by omega) (o' := i) (by omega) ?_; exact hK z0
                      · refine o_loadB i hiH rfl rfl rfl rfl ?_; rw [hh]; exact hK z0
                      · refine stp ?_; exact hK z0
                      · refine o_neq rfl rfl rfl rfl (r := false) (by simp) ?_; exact hK z0
                      · refine stp ?_; exact hK z0
                    case loc_9 =>
                      iterate 37 (refine AllL.mk ?_ ?_; rotate_left)
                      exact AllL.nil
                      all_goals (intro c c' z h; first | exact ⟨rfl, rfl⟩ | (skip))
                    intro c
                    dsimp only [dstOf, kval, kfac, ancE,  ancF, getD_z, getD_s, List.getElem?_cons_zero, List.getElem?_cons_succ, List.getElem?_nil, Option.getD_some, Option.getD_none, List.nil_append, List.cons_append, List.drop_succ_cons, List.drop_zero, Option.getD]
                    repeat (first | refine stp ?_ | (refine sti ?_; intro _) | refine stf ?_ | (refine stb ?_; intro _))
                    exact G.again (S := Nat) (i + 1) (by omega) ⟨by omega, fun j hj => (Nat.lt_succ_iff_lt_or_eq.1 hj).elim (hall j) (fun e => by rw [e, hok, hd, hz, hh, hg]; rfl)⟩ inferInstance (look_sub_cons rfl (look_sub_cons rfl (look_sub_cons rfl (look_sub_cons rfl (look_sub_cons rfl (look_sub_cons rfl (look_sub_cons rfl look_sub_nil))))))) (List.Sublist.refl _)
          have hallI : ∀ j, j < l.sets.length → okI l D H j = true := fun j hj => hall j (by omega)
          subst hi0
          have hEl := edgesI_length l.sets
          have hcap := edges_few hm
          repeat (first | refine stp ?_ | (refine sti ?_; intro _) | refine stf ?_ | (refine stb ?_; intro _))
          refine W.loopI (fun (q : Nat) => ([fRp (.slice a4 l.begun.length c4) l.begun, fRp (.slice a5 l.done.length c5) l.done, fRp v3 (edgesI l.sets)], [(1, .pointer (some ⟨b1, 0, none⟩)), (5, .slice (some ⟨bD, 0, none⟩) l.sets.length l.sets.length), (86, v3), (87, .int .i64 (edgesI l.sets).length), (88, .int .i64 q)], [(bD, Ob (cB D) 4), (b1, Ob [.slice a1 l.sets.length c1, .slice a2 l.left.length c2, .slice a3 l.at_.length c3, .slice a4 l.begun.length c4, .slice a5 l.done.length c5] 28)])) (fun q => q ≤ (edgesG l.sets).length ∧ ∀ j, j < q → ∀ (h : j < (edgesG l.sets).length), okP l D (edgesG l.sets)[j] = true) (fun q => (edgesG l.sets).length - q) 0 ⟨Nat.zero_le _, fun j hj => absurd hj (Nat.not_lt_zero j)⟩ inferInstance (look_sub_cons rfl (look_sub_cons rfl (look_sub_cons rfl (look_sub_cons rfl (look_sub_cons rfl look_sub_nil))))) (.cons _ (List.Sublist.refl _)) ?_
          rintro q ⟨hq, hall⟩
          dsimp only
          by_cases hq0 : q = (edgesG l.sets).length
          · subst hq0
            rw [rightL_all hm hsh h1 h2 hallI (fun q h => hall q h h)]
            repeat (first | refine stp ?_ | (refine sti ?_; intro _) | refine stf ?_ | (refine stb ?_; intro _))
            refine G.ret rfl (.cons (.tmp rfl) .nil) (Φ' := []) (M' := []) inferInstance (List.nil_sublist _) ⟨?_, rfl, rfl⟩
            rfl
          have hq1 : q < (edgesG l.sets).length := by omega
          have hq2 : q < (edgesI l.sets).length := by omega
          have hEd := edges_at hq1
          have hg := edgesI_get l.sets hq2
          have hg1 : (edgesI l.sets)[q].1 = ((edgesG l.sets)[q].1 : Int) := by rw [hg]; rfl
          have hgg2 : (edgesI l.sets)[q].2 = ((edgesG l.sets)[q].2 : Int) := by rw [hg]; rfl
          have hb2 : (edgesG l.sets)[q].2 < l.begun.length := by omega
          have hd1 : (edgesG l.sets)[q].1 < D.length := by omega
          have hd2 : (edgesG l.sets)[q].2 < D.length := by omega
          have hokp : okP l D (edgesG l.sets)[q] = (!(l.begun[(edgesG l.sets)[q].2] && !(D[(edgesG l.sets)[q].1])) && !(D[(edgesG l.sets)[q].2] && decide (idxD l (edgesG l.sets)[q].2 < idxD l (edgesG l.sets)[q].1))) := by
            unfold okP; rw [getB hb2, getB hd1, getB hd2]
          generalize hEq : (edgesG l.sets)[q] = E at *
          repeat (first | refine stp ?_ | (refine sti ?_; intro _) | refine stf ?_ | (refine stb ?_; intro _))
          refine W.draw 5 [⟨?v0_10, fun _ z => []⟩, ⟨?v1_10, fun _ z => []⟩, ⟨?v2_10, fun _ z => []⟩, ⟨?v3_10, fun _ z => []⟩, ⟨?v4_10, fun _ z => []⟩] [[], [0], [], [2], [1]] [3, 4] (by kernel_rfl) (by kernel_rfl) (by kernel_rfl) (by kernel_rfl) ?loc_10 ?ops_10 ?rest_10
          case ops_10 =>
            simp only [AllQ, Nat.reduceAdd, and_true]
            refine ⟨?_, ?_, ?_, ?_, ?_⟩
            all_goals (intro c z0 Φr Lr K hK; dsimp only [dstOf, kval, kfac, ancE, ancF, getD_z, getD_s, List.getElem?_cons_zero, List.getElem?_cons_succ, List.getElem?_nil, Option.getD_some, Option.getD_none, List.nil_append, List.cons_append, Option.getD] at hK ⊢)
            iterate 5 ((first | refine stp ?_ | refine stf ?_); exact hK z0)
          case loc_10 =>
            simp only [AllL, Nat.reduceAdd, and_true]
            refine ⟨?_, ?_, ?_, ?_, ?_⟩
            all_goals exact fun _ _ _ _ => ⟨rfl, rfl⟩
          intro c
          dsimp only [dstOf, kval, kfac, ancE,  ancF, getD_z, getD_s, List.getElem?_cons_zero, List.getElem?_cons_succ, List.getElem?_nil, Option.getD_some, Option.getD_none, List.nil_append, List.cons_append, List.drop_succ_cons, List.drop_zero, Option.getD]
          repeat (first | refine stp ?_ | (refine sti ?_; intro _) | refine stf ?_ | (refine stb ?_; intro _))
          simp only [hg1, hgg2]
          cases hg2 : l.begun[E.2] with
          | true =>
            cases hD1 : D[E.1] with
            | true =>
              cases hD2 : D[E.2] with
              | true =>
                by_cases hx' : idxD l E.2 < idxD l E.1
                · have hx : idxG (fun a => decide ((E.2 : Int) = a)) l.done < idxG (fun a => decide ((E.1 : Int) = a)) l.done := hx'
                  rw [rightL_p h1 h2 hq1 (by rw [hEq, hokp, hg2, hD1, hD2]; rw [decide_eq_true hx']; rfl)]
                  repeat (first | refine stp ?_ | (refine sti ?_; intro _) | refine stf ?_ | (refine stb ?_; intro _))
                  refine W.draw 29 (⟨?v0_11, fun _ z => []⟩ :: ⟨?v1_11, fun _ z => []⟩ :: ⟨?v2_11, fun _ z => []⟩ :: ⟨fun _ z => z, fun _ z => [fPt z true]⟩ :: ⟨?v4_11, fun _ z => []⟩ :: ⟨?v5_11, fun _ z => []⟩ :: ⟨?v6_11, fun _ z => []⟩ :: ⟨?v7_11, fun _ z => []⟩ :: ⟨?v8_11, fun _ z => []⟩ :: ⟨?v9_11, fun _ z => []⟩ :: ⟨?v10_11, fun _ z => []⟩ :: ⟨?v11_11, fun _ z => []⟩ :: ⟨?v12_11, fun _ z => []⟩ :: ⟨?v13_11, fun _ z => []⟩ :: ⟨?v14_11, fun _ z => []⟩ :: ⟨?v15_11, fun _ z => []⟩ :: ⟨?v16_11, fun _ z => []⟩ :: ⟨?v17_11, fun _ z => []⟩ :: ⟨?v18_11, fun _ z => []⟩ :: ⟨?v19_11, fun _ z => []⟩ :: ⟨?v20_11, fun _ z => []⟩ :: ⟨?v21_11, fun _ z => []⟩ :: ⟨?v22_11, fun _ z => []⟩ :: ⟨?v23_11, fun _ z => []⟩ :: ⟨?v24_11, fun _ z => []⟩ :: ⟨?v25_11, fun _ z => []⟩ :: ⟨?v26_11, fun _ z => []⟩ :: ⟨?v27_11, fun _ z => []⟩ :: ⟨?v28_11, fun _ z => []⟩ :: []) ([] :: [0] :: [] :: [1, 2] :: [3] :: [4] :: [5] :: [5] :: [5, 6, 7] :: [5, 8] :: [5, 9] :: [5, 10] :: [11] :: [12] :: [12] :: [12, 13, 14] :: [12, 15] :: [12, 16] :: [17] :: [17, 18] :: [17] :: [17, 19, 20] :: [17] :: [17, 22] :: [17] :: [17, 23, 24] :: [17, 21, 25] :: [12, 17, 26] :: [12, 27] :: []) [28] (by kernel_rfl) (by kernel_rfl) (by kernel_rfl) (by kernel_rfl) ?loc_11 ?ops_11 ?rest_11
                  case ops_11 =>
                    iterate 29 (refine AllQ.mk ?_ ?_; rotate_left)
                    exact AllQ.nil
                    all_goals (intro c z0 Φr Lr K hK; dsimp only [dstOf, kval, kfac, ancE, ancF, getD_z, getD_s, List.getElem?_cons_zero, List.getElem?_cons_succ, List.getElem?_nil, Option.getD_some, Option.getD_none, List.nil_append, List.cons_append, Option.getD] at hK ⊢)
                    iterate 3 ((first | refine stp ?_ | refine stf ?_); exact hK z0)
                    · refine o_idxN E.2 rfl rfl rfl rfl rfl hb2 ?_; intro p; rw [hg2]; exact hK _
                    iterate 4 ((first | refine stp ?_ | refine stf ?_); exact hK z0)
                    · refine o_idxO rfl rfl rfl rfl (by omega) (by omega) (o' := E.1) (by omega) ?_; exact hK z0
                    · refine o_loadB E.1 hd1 rfl rfl rfl rfl ?_; rw [hD1]; exact hK z0
                    iterate 5 (refine stp ?_; exact hK z0)
                    · refine o_idxO rfl rfl rfl rfl (by omega) (by omega) (o' := E.2) (by omega) ?_; exact hK z0
                    · refine o_loadB E.2 hd2 rfl rfl rfl rfl ?_; rw [hD2]; exact hK z0
                    iterate 4 ((first | refine stp ?_ | refine stf ?_); exact hK z0)
                    · refine o_callV rfl rfl rfl rfl (indexI_spec (.slice a5 l.done.length c5) l.done (by omega) (E.1 : Int)) rfl ?_; exact hK z0
                    iterate 3 ((first | refine stp ?_ | refine stf ?_); exact hK z0)
                    · refine o_callV rfl rfl rfl rfl (indexI_spec (.slice a5 l.done.length c5) l.done (by omega) (E.2 : Int)) rfl ?_; exact hK z0
                    · refine o_int rfl rfl rfl rfl (i_gtr_t hx) ?_; exact hK z0
                    · refine stp ?_; exact hK z0
                    · refine stp ?_; exact hK z0
                  case loc_11 =>
                    iterate 29 (refine AllL.mk ?_ ?_; rotate_left)
                    exact AllL.nil
                    all_goals (intro c c' z h; first | exact ⟨rfl, rfl⟩ | (skip))
                  intro c
                  dsimp only [dstOf, kval, kfac, ancE,  ancF, getD_z, getD_s, List.getElem?_cons_zero, List.getElem?_cons_succ, List.getElem?_nil, Option.getD_some, Option.getD_none, List.nil_append, List.cons_append, List.drop_succ_cons, List.drop_zero, Option.getD]
                  repeat (first | refine stp ?_ | (refine sti ?_; intro _) | refine stf ?_ | (refine stb ?_; intro _))
                  refine G.ret rfl (.cons (.tmp rfl) .nil) (Φ' := []) (M' := []) inferInstance (List.nil_sublist _) ⟨?_, rfl, rfl⟩
                  rfl
                · have hx : idxG (fun a => decide ((E.1 : Int) = a)) l.done ≤ idxG (fun a => decide ((E.2 : Int) = a)) l.done := Int.not_lt.1 hx'
                  repeat (first | refine stp ?_ | (refine sti ?_; intro _) | refine stf ?_ | (refine stb ?_; intro _))
                  refine W.draw 29 (⟨?v0_12, fun _ z => []⟩ :: ⟨?v1_12, fun _ z => []⟩ :: ⟨?v2_12, fun _ z => []⟩ :: ⟨fun _ z => z, fun _ z => [fPt z true]⟩ :: ⟨?v4_12, fun _ z => []⟩ :: ⟨?v5_12, fun _ z => []⟩ :: ⟨?v6_12, fun _ z => []⟩ :: ⟨?v7_12, fun _ z => []⟩ :: ⟨?v8_12, fun _ z => []⟩ :: ⟨?v9_12, fun _ z => []⟩ :: ⟨?v10_12, fun _ z => []⟩ :: ⟨?v11_12, fun _ z => []⟩ :: ⟨?v12_12, fun _ z => []⟩ :: ⟨?v13_12, fun _ z => []⟩ :: ⟨?v14_12, fun _ z => []⟩ :: ⟨?v15_12, fun _ z => []⟩ :: ⟨?v16_12, fun _ z => []⟩ :: ⟨?v17_12, fun _ z => []⟩ :: ⟨?v18_12, fun _ z => []⟩ :: ⟨?v19_12, fun _ z => []⟩ :: ⟨?v20_12, fun _ z => []⟩ :: ⟨?v21_12, fun _ z => []⟩ :: ⟨?v22_12, fun _ z => []⟩ :: ⟨?v23_12, fun _ z => []⟩ :: ⟨?v24_12, fun _ z => []⟩ :: ⟨?v25_12, fun _ z => []⟩ :: ⟨?v26_12, fun _ z => []⟩ :: ⟨?v27_12, fun _ z => []⟩ :: ⟨?v28_12, fun _ z => []⟩ :: []) ([] :: [0] :: [] :: [1, 2] :: [3] :: [4] :: [5] :: [5] :: [5, 6, 7] :: [5, 8] :: [5, 9] :: [5, 10] :: [11] :: [12] :: [12] :: [12, 13, 14] :: [12, 15] :: [12, 16] :: [17] :: [17, 18] :: [17] :: [17, 19, 20] :: [17] :: [17, 22] :: [17] :: [17, 23, 24] :: [17, 21, 25] :: [12, 17, 26] :: [12, 27] :: []) [28] (by kernel_rfl) (by kernel_rfl) (by kernel_rfl) (by kernel_rfl) ?loc_12 ?ops_12 ?rest_12
                  case ops_12 =>
                    iterate 29 (refine AllQ.mk ?_ ?_; rotate_left)
                    exact AllQ.nil
                    all_goals (intro c z0 Φr Lr K hK; dsimp only [dstOf, kval, kfac, ancE, ancF, getD_z, getD_s, List.getElem?_cons_zero, List.getElem?_cons_succ, List.getElem?_nil, Option.getD_some, Option.getD_none, List.nil_append, List.cons_append, Option.getD] at hK ⊢)
                    iterate 3 ((first | refine stp ?_ | refine stf ?_); exact hK z0)
                    · refine o_idxN E.2 rfl rfl rfl rfl rfl hb2 ?_; intro p; rw [hg2]; exact hK _
                    iterate 4 ((first | refine stp ?_ | refine stf ?_); exact hK z0)
                    · refine o_idxO rfl rfl rfl rfl (by omega) (by omega) (o' := E.1) (by omega) ?_; exact hK z0
                    · refine o_loadB E.1 hd1 rfl rfl rfl rfl ?_; rw [hD1]; exact hK z0
                    iterate 5 (refine stp ?_; exact hK z0)
                    · refine o_idxO rfl rfl rfl rfl (by omega) (by omega) (o' := E.2) (by omega) ?_; exact hK z0
                    · refine o_loadB E.2 hd2 rfl rfl rfl rfl ?_; rw [hD2]; exact hK z0
                    iterate 4 ((first | refine stp ?_ | refine stf ?_); exact hK z0)
                    · refine o_callV rfl rfl rfl rfl (indexI_spec (.slice a5 l.done.length c5) l.done (by omega) (E.1 : Int)) rfl ?_; exact hK z0
                    iterate 3 ((first | refine stp ?_ | refine stf ?_); exact hK z0)
                    · refine o_callV rfl rfl rfl rfl (indexI_spec (.slice a5 l.done.length c5) l.done (by omega) (E.2 : Int)) rfl ?_; exact hK z0
                    · refine o_int rfl rfl rfl rfl (i_gtr_f hx) ?_; exact hK z0
                    · refine stp ?_; exact hK z0
                    · refine stp ?_; exact hK z0
                  case loc_12 =>
                    iterate 29 (refine AllL.mk ?_ ?_; rotate_left)
                    exact AllL.nil
                    all_goals (intro c c' z h; first | exact ⟨rfl, rfl⟩ | (skip))
                  intro c
                  dsimp only [dstOf, kval, kfac, ancE,  ancF, getD_z, getD_s, List.getElem?_cons_zero, List.getElem?_cons_succ, List.getElem?_nil, Option.getD_some, Option.getD_none, List.nil_append, List.cons_append, List.drop_succ_cons, List.drop_zero, Option.getD]
                  repeat (first | refine stp ?_ | (refine sti ?_; intro _) | refine stf ?_ | (refine stb ?_; intro _))
                  exact G.again (S := Nat) (q + 1) (by omega) ⟨by omega, fun j hj hjl => (Nat.lt_succ_iff_lt_or_eq.1 hj).elim (fun h => hall j h hjl) (fun e => by subst e; exact (by rw [hEq, hokp, hg2, hD1, hD2]; rw [decide_eq_false hx']; rfl))⟩ inferInstance (look_sub_cons rfl (look_sub_cons rfl (look_sub_cons rfl (look_sub_cons rfl (look_sub_cons rfl look_sub_nil))))) (.cons _ (List.Sublist.refl _))
              | false =>
                repeat (first | refine stp ?_ | (refine sti ?_; intro _) | refine stf ?_ | (refine stb ?_; intro _))
                refine W.draw 29 (⟨?v0_13, fun _ z => []⟩ :: ⟨?v1_13, fun _ z => []⟩ :: ⟨?v2_13, fun _ z => []⟩ :: ⟨fun _ z => z, fun _ z => [fPt z true]⟩ :: ⟨?v4_13, fun _ z => []⟩ :: ⟨?v5_13, fun _ z => []⟩ :: ⟨?v6_13, fun _ z => []⟩ :: ⟨?v7_13, fun _ z => []⟩ :: ⟨?v8_13, fun _ z => []⟩ :: ⟨?v9_13, fun _ z => []⟩ :: ⟨?v10_13, fun _ z => []⟩ :: ⟨?v11_13, fun _ z => []⟩ :: ⟨?v12_13, fun _ z => []⟩ :: ⟨?v13_13, fun _ z => []⟩ :: ⟨?v14_13, fun _ z => []⟩ :: ⟨?v15_13, fun _ z => []⟩ :: ⟨?v16_13, fun _ z => []⟩ :: ⟨?v17_13, fun _ z => []⟩ :: ⟨?v18_13, fun _ z => []⟩ :: ⟨?v19_13, fun _ z => []⟩ :: ⟨?v20_13, fun _ z => []⟩ :: ⟨?v21_13, fun _ z => []⟩ :: ⟨?v22_13, fun _ z => []⟩ :: ⟨?v23_13, fun _ z => []⟩ :: ⟨?v24_13, fun _ z => []⟩ :: ⟨?v25_13, fun _ z => []⟩ :: ⟨?v26_13, fun _ z => []⟩ :: ⟨?v27_13, fun _ z => []⟩ :: ⟨?v28_13, fun _ z => []⟩ :: []) ([] :: [0] :: [] :: [1, 2] :: [3] :: [4] :: [5] :: [5] :: [5, 6, 7] :: [5, 8] :: [5, 9] :: [5, 10] :: [11] :: [12] :: [12] :: [12, 13, 14] :: [12, 15] :: [12, 16] :: [17] :: [17, 18] :: [17] :: [17, 19, 20] :: [17] :: [17, 22] :: [17] :: [17, 23, 24] :: [17, 21, 25] :: [12, 17, 26] :: [12, 27] :: []) [28] (by kernel_rfl) (by kernel_rfl) (by kernel_rfl) (by kernel_rfl) ?loc_13 ?ops_13 ?rest_13
                case ops_13 =>
                  iterate 29 (refine AllQ.mk ?_ ?_; rotate_left)
                  exact AllQ.nil
                  all_goals (intro c z0 Φr Lr K hK; dsimp only [dstOf, kval, kfac, ancE, ancF, getD_z, getD_s, List.getElem?_cons_zero, List.getElem?_cons_succ, List.getElem?_nil, Option.getD_some, Option.getD_none, List.nil_append, List.cons_append, Option.getD] at hK ⊢)
                  iterate 3 ((first | refine stp ?_ | refine stf ?_); exact hK z0)
                  · refine o_idxN E.2 rfl rfl rfl rfl rfl hb2 ?_; intro p; rw [hg2]; exact hK _
                  iterate 4 ((first | refine stp ?_ | refine stf ?_); exact hK z0)
                  · refine o_idxO rfl rfl rfl rfl (by omega) (by omega) (o' := E.1) (by omega) ?_; exact hK z0
                  · refine o_loadB E.1 hd1 rfl rfl rfl rfl ?_; rw [hD1]; exact hK z0
                  iterate 5 (refine stp ?_; exact hK z0)
                  · refine o_idxO rfl rfl rfl rfl (by omega) (by omega) (o' := E.2) (by omega) ?_; exact hK z0
                  · refine o_loadB E.2 hd2 rfl rfl rfl rfl ?_; rw [hD2]; exact hK z0
                  iterate 12 ((first | refine stp ?_ | refine stf ?_); exact hK z0)
                case loc_13 =>
                  iterate 29 (refine AllL.mk ?_ ?_; rotate_left)
                  exact AllL.nil
                  all_goals (intro c c' z h; first | exact ⟨rfl, rfl⟩ | (skip))
                intro c
                dsimp only [dstOf, kval, kfac, ancE,  ancF, getD_z, getD_s, List.getElem?_cons_zero, List.getElem?_cons_succ, List.getElem?_nil, Option.getD_some, Option.getD_none, List.nil_append, List.cons_append, List.drop_succ_cons, List.drop_zero, Option.getD]
                repeat (first | refine stp ?_ | (refine sti ?_; intro _) | refine stf ?_ | (refine stb ?_; intro _))
                exact G.again (S := Nat) (q + 1) (by omega) ⟨by omega, fun j hj hjl => (Nat.lt_succ_iff_lt_or_eq.1 hj).elim (fun h => hall j h hjl) (fun e => by subst e; exact (by rw [hEq, hokp, hg2, hD1, hD2]; rfl))⟩ inferInstance (look_sub_cons rfl (look_sub_cons rfl (look_sub_cons rfl (look_sub_cons rfl (look_sub_cons rfl look_sub_nil))))) (.cons _ (List.Sublist.refl _))
            | false =>
              rw [rightL_p h1 h2 hq1 (by rw [hEq, hokp, hg2, hD1]; rfl)]
              repeat (first | refine stp ?_ | (refine sti ?_; intro _) | refine stf ?_ | (refine stb ?_; intro _))
              refine W.draw 29 (⟨?v0_14, fun _ z => []⟩ :: ⟨?v1_14, fun _ z => []⟩ :: ⟨?v2_14, fun _ z => []⟩ :: ⟨fun _ z => z, fun _ z => [fPt z true]⟩ :: ⟨?v4_14, fun _ z => []⟩ :: ⟨?v5_14, fun _ z => []⟩ :: ⟨?v6_14, fun _ z => []⟩ :: ⟨?v7_14, fun _ z => []⟩ :: ⟨?v8_14, fun _ z => []⟩ :: ⟨?v9_14, fun _ z => []⟩ :: ⟨?v10_14, fun _ z => []⟩ :: ⟨?v11_14, fun _ z => []⟩ :: ⟨?v12_14, fun _ z => []⟩ :: ⟨?v13_14, fun _ z => []⟩ :: ⟨?v14_14, fun _ z => []⟩ :: ⟨?v15_14, fun _ z => []⟩ :: ⟨?v16_14, fun _ z => []⟩ :: ⟨?v17_14, fun _ z => []⟩ :: ⟨?v18_14, fun _ z => []⟩ :: ⟨?v19_14, fun _ z => []⟩ :: ⟨?v20_14, fun _ z => []⟩ :: ⟨?v21_14, fun _ z => []⟩ :: ⟨?v22_14, fun _ z => []⟩ :: ⟨?v23_14, fun _ z => []⟩ :: ⟨?v24_14, fun _ z => []⟩ :: ⟨?v25_14, fun _ z => []⟩ :: ⟨?v26_14, fun _ z => []⟩ :: ⟨?v27_14, fun _ z => []⟩ :: ⟨?v28_14, fun _ z => []⟩ :: []) ([] :: [0] :: [] :: [1, 2] :: [3] :: [4] :: [5] :: [5] :: [5, 6, 7] :: [5, 8] :: [5, 9] :: [5, 10] :: [11] :: [12] :: [12] :: [12, 13, 14] :: [12, 15] :: [12, 16] :: [17] :: [17, 18] :: [17] :: [17, 19, 20] :: [17] :: [17, 22] :: [17] :: [17, 23, 24] :: [17, 21, 25] :: [12, 17, 26] :: [12, 27] :: []) [28] (by kernel_rfl) (by kernel_rfl) (by kernel_rfl) (by kernel_rfl) ?loc_14 ?ops_14 ?rest_14
              case ops_14 =>
                iterate 29 (refine AllQ.mk ?_ ?_; rotate_left)
                exact AllQ.nil
                all_goals (intro c z0 Φr Lr K hK; dsimp only [dstOf, kval, kfac, ancE, ancF, getD_z, getD_s, List.getElem?_cons_zero, List.getElem?_cons_succ, List.getElem?_nil, Option.getD_some, Option.getD_none, List.nil_append, List.cons_append, Option.getD] at hK ⊢)
                iterate 3 ((first | refine stp ?_ | refine stf ?_); exact hK z0)
                · refine o_idxN E.2 rfl rfl rfl rfl rfl hb2 ?_; intro p; rw [hg2]; exact hK _
                iterate 4 ((first | refine stp ?_ | refine stf ?_); exact hK z0)
                · refine o_idxO rfl rfl rfl rfl (by omega) (by omega) (o' := E.1) (by omega) ?_; exact hK z0
                · refine o_loadB E.1 hd1 rfl rfl rfl rfl ?_; rw [hD1]; exact hK z0
                iterate 19 ((first | refine stp ?_ | refine stf ?_); exact hK z0)
              case loc_14 =>
                iterate 29 (refine AllL.mk ?_ ?_; rotate_left)
                exact AllL.nil
                all_goals (intro c c' z h; first | exact ⟨rfl, rfl⟩ | (skip))
              intro c
              dsimp only [dstOf, kval, kfac, ancE,  ancF, getD_z, getD_s, List.getElem?_cons_zero, List.getElem?_cons_succ, List.getElem?_nil, Option.getD_some, Option.getD_none, List.nil_append, List.cons_append, List.drop_succ_cons, List.drop_zero, Option.getD]
              repeat (first | refine stp ?_ | (refine sti ?_; intro _) | refine stf ?_ | (refine stb ?_; intro _))
              refine G.ret rfl (.cons (.tmp rfl) .nil) (Φ' := []) (M' := []) inferInstance (List.nil_sublist _) ⟨?_, rfl, rfl⟩
              rfl
          | false =>
            cases hD2 : D[E.2] with
            | true =>
              by_cases hx' : idxD l E.2 < idxD l E.1
              · have hx : idxG (fun a => decide ((E.2 : Int) = a)) l.done < idxG (fun a => decide ((E.1 : Int) = a)) l.done := hx'
                rw [rightL_p h1 h2 hq1 (by rw [hEq, hokp, hg2, hD2]; rw [decide_eq_true hx']; rfl)]
                repeat (first | refine stp ?_ | (refine sti ?_; intro _) | refine stf ?_ | (refine stb ?_; intro _))
                refine W.draw 29 (⟨?v0_15, fun _ z => []⟩ :: ⟨?v1_15, fun _ z => []⟩ :: ⟨?v2_15, fun _ z => []⟩ :: ⟨fun _ z => z, fun _ z => [fPt z false]⟩ :: ⟨?v4_15, fun _ z => []⟩ :: ⟨?v5_15, fun _ z => []⟩ :: ⟨?v6_15, fun _ z => []⟩ :: ⟨?v7_15, fun _ z => []⟩ :: ⟨?v8_15, fun _ z => []⟩ :: ⟨?v9_15, fun _ z => []⟩ :: ⟨?v10_15, fun _ z => []⟩ :: ⟨?v11_15, fun _ z => []⟩ :: ⟨?v12_15, fun _ z => []⟩ :: ⟨?v13_15, fun _ z => []⟩ :: ⟨?v14_15, fun _ z => []⟩ :: ⟨?v15_15, fun _ z => []⟩ :: ⟨?v16_15, fun _ z => []⟩ :: ⟨?v17_15, fun _ z => []⟩ :: ⟨?v18_15, fun _ z => []⟩ :: ⟨?v19_15, fun _ z => []⟩ :: ⟨?v20_15, fun _ z => []⟩ :: ⟨?v21_15, fun _ z => []⟩ :: ⟨?v22_15, fun _ z => []⟩ :: ⟨?v23_15, fun _ z => []⟩ :: ⟨?v24_15, fun _ z => []⟩ :: ⟨?v25_15, fun _ z => []⟩ :: ⟨?v26_15, fun _ z => []⟩ :: ⟨?v27_15, fun _ z => []⟩ :: ⟨?v28_15, fun _ z => []⟩ :: []) ([] :: [0] :: [] :: [1, 2] :: [3] :: [4] :: [5] :: [5] :: [5, 6, 7] :: [5, 8] :: [5, 9] :: [5, 10] :: [11] :: [12] :: [12] :: [12, 13, 14] :: [12, 15] :: [12, 16] :: [17] :: [17, 18] :: [17] :: [17, 19, 20] :: [17] :: [17, 22] :: [17] :: [17, 23, 24] :: [17, 21, 25] :: [12, 17, 26] :: [12, 27] :: []) [28] (by kernel_rfl) (by kernel_rfl) (by kernel_rfl) (by kernel_rfl) ?loc_15 ?ops_15 ?rest_15
                case ops_15 =>
                  iterate 29 (refine AllQ.mk ?_ ?_; rotate_left)
                  exact AllQ.nil
                  all_goals (intro c z0 Φr Lr K hK; dsimp only [dstOf, kval, kfac, ancE, ancF, getD_z, getD_s, List.getElem?_cons_zero, List.getElem?_cons_succ, List.getElem?_nil, Option.getD_some, Option.getD_none, List.nil_append, List.cons_append, Option.getD] at hK ⊢)
                  iterate 3 ((first | refine stp ?_ | refine stf ?_); exact hK z0)
                  · refine o_idxN E.2 rfl rfl rfl rfl rfl hb2 ?_; intro p; rw [hg2]; exact hK _
                  iterate 11 ((first | refine stp ?_ | refine stf ?_); exact hK z0)
                  · refine o_idxO rfl rfl rfl rfl (by omega) (by omega) (o' := E.2) (by omega) ?_; exact hK z0
                  · refine o_loadB E.2 hd2 rfl rfl rfl rfl ?_; rw [hD2]; exact hK z0
                  iterate 4 ((first | refine stp ?_ | refine stf ?_); exact hK z0)
                  · refine o_callV rfl rfl rfl rfl (indexI_spec (.slice a5 l.done.length c5) l.done (by omega) (E.1 : Int)) rfl ?_; exact hK z0
                  iterate 3 ((first | refine stp ?_ | refine stf ?_); exact hK z0)
                  · refine o_callV rfl rfl rfl rfl (indexI_spec (.slice a5 l.done.length c5) l.done (by omega) (E.2 : Int)) rfl ?_; exact hK z0
                  · refine o_int rfl rfl rfl rfl (i_gtr_t hx) ?_; exact hK z0
                  · refine stp ?_; exact hK z0
                  · refine stp ?_; exact hK z0
                case loc_15 =>
                  iterate 29 (refine AllL.mk ?_ ?_; rotate_left)
                  exact AllL.nil
                  all_goals (intro c c' z h; first | exact ⟨rfl, rfl⟩ | (skip))
                intro c
                dsimp only [dstOf, kval, kfac, ancE,  ancF, getD_z, getD_s, List.getElem?_cons_zero, List.getElem?_cons_succ, List.getElem?_nil, Option.getD_some, Option.getD_none, List.nil_append, List.cons_append, List.drop_succ_cons, List.drop_zero, Option.getD]
                repeat (first | refine stp ?_ | (refine sti ?_; intro _) | refine stf ?_ | (refine stb ?_; intro _))
                refine G.ret rfl (.cons (.tmp rfl) .nil) (Φ' := []) (M' := []) inferInstance (List.nil_sublist _) ⟨?_, rfl, rfl⟩
                rfl
              · have hx : idxG (fun a => decide ((E.1 : Int) = a)) l.done ≤ idxG (fun a => decide ((E.2 : Int) = a)) l.done := Int.not_lt.1 hx'
                repeat (first | refine stp ?_ | (refine sti ?_; intro _) | refine stf ?_ | (refine stb ?_; intro _))
                refine W.draw 29 (⟨?v0_16, fun _ z => []⟩ :: ⟨?v1_16, fun _ z => []⟩ :: ⟨?v2_16, fun _ z => []⟩ :: ⟨fun _ z => z, fun _ z => [fPt z false]⟩ :: ⟨?v4_16, fun _ z => []⟩ :: ⟨?v5_16, fun _ z => []⟩ :: ⟨?v6_16, fun _ z => []⟩ :: ⟨?v7_16, fun _ z => []⟩ :: ⟨?v8_16, fun _ z => []⟩ :: ⟨?v9_16, fun _ z => []⟩ :: ⟨?v10_16, fun _ z => []⟩ :: ⟨?v11_16, fun _ z => []⟩ :: ⟨?v12_16, fun _ z => []⟩ :: ⟨?v13_16, fun _ z => []⟩ :: ⟨?v14_16, fun _ z => []⟩ :: ⟨?v15_16, fun _ z => []⟩ :: ⟨?v16_16, fun _ z => []⟩ :: ⟨?v17_16, fun _ z => []⟩ :: ⟨?v18_16, fun _ z => []⟩ :: ⟨?v19_16, fun _ z => []⟩ :: ⟨?v20_16, fun _ z => []⟩ :: ⟨?v21_16, fun _ z => []⟩ :: ⟨?v22_16, fun _ z => []⟩ :: ⟨?v23_16, fun _ z => []⟩ :: ⟨?v24_16, fun _ z => []⟩ :: ⟨?v25_16, fun _ z => []⟩ :: ⟨?v26_16, fun _ z => []⟩ :: ⟨?v27_16, fun _ z => []⟩ :: ⟨?v28_16, fun _ z => []⟩ :: []) ([] :: [0] :: [] :: [1, 2] :: [3] :: [4] :: [5] :: [5] :: [5, 6, 7] :: [5, 8] :: [5, 9] :: [5, 10] :: [11] :: [12] :: [12] :: [12, 13, 14] :: [12, 15] :: [12, 16] :: [17] :: [17, 18] :: [17] :: [17, 19, 20] :: [17] :: [17, 22] :: [17] :: [17, 23, 24] :: [17, 21, 25] :: [12, 17, 26] :: [12, 27] :: []) [28] (by kernel_rfl) (by kernel_rfl) (by kernel_rfl) (by kernel_rfl) ?loc_16 ?ops_16 ?rest_16
                case ops_16 =>
                  iterate 29 (refine AllQ.mk ?_ ?_; rotate_left)
                  exact AllQ.nil
                  all_goals (intro c z0 Φr Lr K hK; dsimp only [dstOf, kval, kfac, ancE, ancF, getD_z, getD_s, List.getElem?_cons_zero, List.getElem?_cons_succ, List.getElem?_nil, Option.getD_some, Option.getD_none, List.nil_append, List.cons_append, Option.getD] at hK ⊢)
                  iterate 3 ((first | refine stp ?_ | refine stf ?_); exact hK z0)
                  · refine o_idxN E.2 rfl rfl rfl rfl rfl hb2 ?_; intro p; rw [hg2]; exact hK _
                  iterate 11 ((first | refine stp ?_ | refine stf ?_); exact hK z0)
                  · refine o_idxO rfl rfl rfl rfl (by omega) (by omega) (o' := E.2) (by omega) ?_; exact hK z0
                  · refine o_loadB E.2 hd2 rfl rfl rfl rfl ?_; rw [hD2]; exact hK z0
                  iterate 4 ((first | refine stp ?_ | refine stf ?_); exact hK z0)
                  · refine o_callV rfl rfl rfl rfl (indexI_spec (.slice a5 l.done.length c5) l.done (by omega) (E.1 : Int)) rfl ?_; exact hK z0
                  iterate 3 ((first | refine stp ?_ | refine stf ?_); exact hK z0)
                  · refine o_callV rfl rfl rfl rfl (indexI_spec (.slice a5 l.done.length c5) l.done (by omega) (E.2 : Int)) rfl ?_; exact hK z0
                  · refine o_int rfl rfl rfl rfl (i_gtr_f hx) ?_; exact hK z0
                  · refine stp ?_; exact hK z0
                  · refine stp ?_; exact hK z0
                case loc_16 =>
                  iterate 29 (refine AllL.mk ?_ ?_; rotate_left)
                  exact AllL.nil
                  all_goals (intro c c' z h; first | exact ⟨rfl, rfl⟩ | (skip))
                intro c
                dsimp only [dstOf, kval, kfac, ancE,  ancF, getD_z, getD_s, List.getElem?_cons_zero, List.getElem?_cons_succ, List.getElem?_nil, Option.getD_some, Option.getD_none, List.nil_append, List.cons_append, List.drop_succ_cons, List.drop_zero, Option.getD]
                repeat (first | refine stp ?_ | (refine sti ?_; intro _) | refine stf ?_ | (refine stb ?_; intro _))
                exact G.again (S := Nat) (q + 1) (by omega) ⟨by omega, fun j hj hjl => (Nat.lt_succ_iff_lt_or_eq.1 hj).elim (fun h => hall j h hjl) (fun e => by subst e; exact (by rw [hEq, hokp, hg2, hD2]; rw [decide_eq_false hx']; rfl))⟩ inferInstance (look_sub_cons rfl (look_sub_cons rfl (look_sub_cons rfl (look_sub_cons rfl (look_sub_cons rfl look_sub_nil))))) (.cons _ (List.Sublist.refl _))
            | false =>
              repeat (first | refine stp ?_ | (refine sti ?_; intro _) | refine stf ?_ | (refine stb ?_; intro _))
              refine W.draw 29 (⟨?v0_17, fun _ z => []⟩ :: ⟨?v1_17, fun _ z => []⟩ :: ⟨?v2_17, fun _ z => []⟩ :: ⟨fun _ z => z, fun _ z => [fPt z false]⟩ :: ⟨?v4_17, fun _ z => []⟩ :: ⟨?v5_17, fun _ z => []⟩ :: ⟨?v6_17, fun _ z => []⟩ :: ⟨?v7_17, fun _ z => []⟩ :: ⟨?v8_17, fun _ z => []⟩ :: ⟨?v9_17, fun _ z => []⟩ :: ⟨?v10_17, fun _ z => []⟩ :: ⟨?v11_17, fun _ z => []⟩ :: ⟨?v12_17, fun _ z => []⟩ :: ⟨?v13_17, fun _ z => []⟩ :: ⟨?v14_17, fun _ z => []⟩ :: ⟨?v15_17, fun _ z => []⟩ :: ⟨?v16_17, fun _ z => []⟩ :: ⟨?v17_17, fun _ z => []⟩ :: ⟨?v18_17, fun _ z => []⟩ :: ⟨?v19_17, fun _ z => []⟩ :: ⟨?v20_17, fun _ z => []⟩ :: ⟨?v21_17, fun _ z => []⟩ :: ⟨?v22_17, fun _ z => []⟩ :: ⟨?v23_17, fun _ z => []⟩ :: ⟨?v24_17, fun _ z => []⟩ :: ⟨?v25_17, fun _ z => []⟩ :: ⟨?v26_17, fun _ z => []⟩ :: ⟨?v27_17, fun _ z => []⟩ :: ⟨?v28_17, fun _ z => []⟩ :: []) ([] :: [0] :: [] :: [1, 2] :: [3] :: [4] :: [5] :: [5] :: [5, 6, 7] :: [5, 8] :: [5, 9] :: [5, 10] :: [11] :: [12] :: [12] :: [12, 13, 14] :: [12, 15] :: [12, 16] :: [17] :: [17, 18] :: [17] :: [17, 19, 20] :: [17] :: [17, 22] :: [17] :: [17, 23, 24] :: [17, 21, 25] :: [12, 17, 26] :: [12, 27] :: []) [28] (by kernel_rfl) (by kernel_rfl) (by kernel_rfl) (by kernel_rfl) ?loc_17 ?ops_17 ?rest_17
              case ops_17 =>
                iterate 29 (refine AllQ.mk ?_ ?_; rotate_left)
                exact AllQ.nil
                all_goals (intro c z0 Φr Lr K hK; dsimp only [dstOf, kval, kfac, ancE, ancF, getD_z, getD_s, List.getElem?_cons_zero, List.getElem?_cons_succ, List.getElem?_nil, Option.getD_some, Option.getD_none, List.nil_append, List.cons_append, Option.getD] at hK ⊢)
                iterate 3 ((first | refine stp ?_ | refine stf ?_); exact hK z0)
                · refine o_idxN E.2 rfl rfl rfl rfl rfl hb2 ?_; intro p; rw [hg2]; exact hK _
                iterate 11 ((first | refine stp ?_ | refine stf ?_); exact hK z0)
                · refine o_idxO rfl rfl rfl rfl (by omega) (by omega) (o' := E.2) (by omega) ?_; exact hK z0
                · refine o_loadB E.2 hd2 rfl rfl rfl rfl ?_; rw [hD2]; exact hK z0
                iterate 12 ((first | refine stp ?_ | refine stf ?_); exact hK z0)
              case loc_17 =>
                iterate 29 (refine AllL.mk ?_ ?_; rotate_left)
                exact AllL.nil
                all_goals (intro c c' z h; first | exact ⟨rfl, rfl⟩ | (skip))
              intro c
              dsimp only [dstOf, kval, kfac, ancE,  ancF, getD_z, getD_s, List.getElem?_cons_zero, List.getElem?_cons_succ, List.getElem?_nil, Option.getD_some, Option.getD_none, List.nil_append, List.cons_append, List.drop_succ_cons, List.drop_zero, Option.getD]
              repeat (first | refine stp ?_ | (refine sti ?_; intro _) | refine stf ?_ | (refine stb ?_; intro _))
              exact G.again (S := Nat) (q + 1) (by omega) ⟨by omega, fun j hj hjl => (Nat.lt_succ_iff_lt_or_eq.1 hj).elim (fun h => hall j h hjl) (fun e => by subst e; exact (by rw [hEq, hokp, hg2, hD2]; rfl))⟩ inferInstance (look_sub_cons rfl (look_sub_cons rfl (look_sub_cons rfl (look_sub_cons rfl (look_sub_cons rfl look_sub_nil))))) (.cons _ (List.Sublist.refl _))
end Go.Rail
