/- The document's way to tell whether a lot may be. -/
import Derived.Test.YtoiepfapghnccaaGreatAM2
import Derived.Test.YtoiepfapghnccaaGreatAGRef2GEdges
import Derived.Test.YtoiepfapghnccaaGreatRailB
import Derived.Test.YtoiepfapghnccaaGreatRailD
namespace Go.Rail
open Go Go.Proofs
set_option linter.unusedSimpArgs false
set_option linter.unusedVariables false
set_option maxHeartbeats 400000
set_option maxRecDepth 4000
attribute [local irreducible] OpK G W LW wpListIn Exit.then Exit.inBlock Post rounds opRun bodyPostM intOp
attribute [local irreducible] badM rightS mayG clashS edgesG edgesI clG rightL donesL holdL shapeR okA okE okO
theorem gtB {B : List Bool} {k : Nat} (h : k < B.length) : B.getD k false = B[k] := by rw [List.getD_eq_getElem?_getD, List.getElem?_eq_getElem h]; rfl
theorem gtZ {B : List Int} {k : Nat} (h : k < B.length) : B.getD k 0 = B[k] := by rw [List.getD_eq_getElem?_getD, List.getElem?_eq_getElem h]; rfl
theorem okA_at {l : Lot} {D : List Bool} {H : List Int} {i : Nat} (h1 : i < l.left.length) (h2 : i < D.length) (h3 : i < H.length) (h4 : i < l.begun.length) : okA l D H i = (!(oddLeft l.left[i]) && !decide (1 < H[i]) && (D[i] == decide (l.left[i] = 0)) && (l.begun[i] == (D[i] || decide (H[i] = 1))) && !(D[i] && decide (0 < H[i]))) := by
  unfold okA; rw [gtZ h1, gtB h2, gtZ h3, gtB h4]
theorem okE_at {l : Lot} {D : List Bool} {i k : Nat} (h1 : i < l.begun.length) (h2 : k < D.length) (h3 : k < l.sets.length) (h4 : i < l.sets.length) : okE l D i k = !(l.begun[i] && !(D[k]) && clashS l.sets[k] l.sets[i]) := by
  unfold okE; rw [gtB h1, gtB h2, clG_eq h3 h4]
theorem okO_at {l : Lot} {i k q r : Nat} (h1 : i < l.done.length) (h2 : k < l.done.length) (hq : q < l.sets.length) (hr : r < l.sets.length) (ek : l.done[k] = (q : Int)) (ei : l.done[i] = (r : Int)) : okO l i k = !(decide (l.done[i] < l.done[k]) && clashS l.sets[q] l.sets[r]) := by
  unfold okO; rw [gtZ h1, gtZ h2, ek, ei, Int.toNat_natCast, Int.toNat_natCast, clG_eq hq hr]
set_option maxHeartbeats 16000000 in
theorem rright_spec (v : Value) (l : Lot) (hl : FitL l) : FnV Tryz.prog 46 [v] [fRp v l] (.bool (rightL l)) := by
  obtain ⟨fs, ns, nl, na, nb, nd⟩ := id hl
  have hMay := fun w => mayR_spec w l.sets ns fs
  refine Fn.enter Tryz.func46 rfl Tryz.ntmps46 (by simp) (fun I0 w0 => ?_)
  refine W.bare (G.lot v l ?_)
  intro a1 c1 a2 c2 a3 c3 a4 c4 a5 c5 e
  subst e
  refine G.code ?_
  cases hm : mayG l.sets with
  | false =>
    rw [rightL_may hm]
    repeat (first | refine stp ?_ | (refine sti ?_; intro _) | refine stf ?_ | (refine stb ?_; intro _))
    refine o_callV rfl rfl rfl rfl (hMay _) (congrArg Value.bool hm) ?_
    repeat (first | refine stp ?_ | (refine sti ?_; intro _) | refine stf ?_ | (refine stb ?_; intro _))
    refine G.ret rfl (.cons (.tmp rfl) .nil) (Φ' := []) (M' := []) inferInstance (List.nil_sublist _) ⟨?_, rfl, rfl⟩
    rfl
  | true =>
  by_cases s1 : l.left.length = l.sets.length
  case neg =>
    rw [rr_shape (by unfold shapeR; simp [s1])]
    repeat (first | refine stp ?_ | (refine sti ?_; intro _) | refine stf ?_ | (refine stb ?_; intro _))
    refine o_callV rfl rfl rfl rfl (hMay _) (congrArg Value.bool hm) ?_
    repeat (first | refine stp ?_ | (refine sti ?_; intro _) | refine stf ?_ | (refine stb ?_; intro _))
    refine G.ret rfl (.cons (.tmp rfl) .nil) (Φ' := []) (M' := []) inferInstance (List.nil_sublist _) ⟨?_, rfl, rfl⟩
    rfl
  by_cases s2 : l.begun.length = l.sets.length
  case neg =>
    rw [rr_shape (by unfold shapeR; simp [s2])]
    repeat (first | refine stp ?_ | (refine sti ?_; intro _) | refine stf ?_ | (refine stb ?_; intro _))
    refine o_callV rfl rfl rfl rfl (hMay _) (congrArg Value.bool hm) ?_
    repeat (first | refine stp ?_ | (refine sti ?_; intro _) | refine stf ?_ | (refine stb ?_; intro _))
    refine G.ret rfl (.cons (.tmp rfl) .nil) (Φ' := []) (M' := []) inferInstance (List.nil_sublist _) ⟨?_, rfl, rfl⟩
    rfl
  by_cases s3 : l.at_.length < 1
  · rw [rr_shape (by unfold shapeR; rw [decide_eq_false (p := 1 ≤ l.at_.length) (by omega)]; simp)]
    repeat (first | refine stp ?_ | (refine sti ?_; intro _) | refine stf ?_ | (refine stb ?_; intro _))
    refine o_callV rfl rfl rfl rfl (hMay _) (congrArg Value.bool hm) ?_
    repeat (first | refine stp ?_ | (refine sti ?_; intro _) | refine stf ?_ | (refine stb ?_; intro _))
    refine G.ret rfl (.cons (.tmp rfl) .nil) (Φ' := []) (M' := []) inferInstance (List.nil_sublist _) ⟨?_, rfl, rfl⟩
    rfl
  by_cases s4 : 64 < l.at_.length
  · rw [rr_shape (by unfold shapeR; rw [decide_eq_false (p := l.at_.length ≤ 64) (by omega)]; simp)]
    repeat (first | refine stp ?_ | (refine sti ?_; intro _) | refine stf ?_ | (refine stb ?_; intro _))
    refine o_callV rfl rfl rfl rfl (hMay _) (congrArg Value.bool hm) ?_
    repeat (first | refine stp ?_ | (refine sti ?_; intro _) | refine stf ?_ | (refine stb ?_; intro _))
    refine G.ret rfl (.cons (.tmp rfl) .nil) (Φ' := []) (M' := []) inferInstance (List.nil_sublist _) ⟨?_, rfl, rfl⟩
    rfl
  have hs : shapeR l = true := by
    unfold shapeR
    rw [decide_eq_true s1, decide_eq_true s2, decide_eq_true (by omega), decide_eq_true (by omega)]; rfl
  repeat (first | refine stp ?_ | (refine sti ?_; intro _) | refine stf ?_ | (refine stb ?_; intro _))
  rename_i b1
  refine o_callV rfl rfl rfl rfl (hMay _) (congrArg Value.bool hm) ?_
  repeat (first | refine stp ?_ | (refine sti ?_; intro _) | refine stf ?_ | (refine stb ?_; intro _))
  have hdn := rdones_spec (.agg #[.slice a1 l.sets.length c1, .slice a2 l.left.length c2, .slice a3 l.at_.length c3, .slice a4 l.begun.length c4, .slice a5 l.done.length c5]) l hl
  have hhd := rholders_spec (.agg #[.slice a1 l.sets.length c1, .slice a2 l.left.length c2, .slice a3 l.at_.length c3, .slice a4 l.begun.length c4, .slice a5 l.done.length c5]) l hl
  cases h1 : donesL l with
  | none =>
    rw [h1] at hdn
    rw [rightL_done h1]
    refine OpK.call rfl rfl rfl rfl hdn inferInstance (Mc := []) (Mr := _) (List.Perm.refl _) ?_
    rintro u Φ' Mc' ⟨rfl, rfl, rfl⟩
    dsimp only [List.cons_append, List.nil_append]
    repeat (first | refine stp ?_ | (refine sti ?_; intro _) | refine stf ?_ | (refine stb ?_; intro _))
    cases h2 : holdL l with
    | none =>
      rw [h2] at hhd
      refine OpK.call rfl rfl rfl rfl hhd inferInstance (Mc := []) (Mr := _) (List.Perm.refl _) ?_
      rintro u Φ' Mc' ⟨rfl, rfl, rfl⟩
      dsimp only [List.cons_append, List.nil_append]
      repeat (first | refine stp ?_ | (refine sti ?_; intro _) | refine stf ?_ | (refine stb ?_; intro _))
      refine G.ret rfl (.cons (.tmp rfl) .nil) (Φ' := []) (M' := []) inferInstance (List.nil_sublist _) ⟨?_, rfl, rfl⟩
      rfl
    | some H =>
      rw [h2] at hhd
      refine OpK.call rfl rfl rfl rfl hhd inferInstance (Mc := []) (Mr := _) (List.Perm.refl _) ?_
      rintro u Φ' Mc' ⟨bH, rfl, rfl, rfl⟩
      dsimp only [List.cons_append, List.nil_append]
      repeat (first | refine stp ?_ | (refine sti ?_; intro _) | refine stf ?_ | (refine stb ?_; intro _))
      refine G.ret rfl (.cons (.tmp rfl) .nil) (Φ' := []) (M' := []) inferInstance (List.nil_sublist _) ⟨?_, rfl, rfl⟩
      rfl
  | some D =>
  rw [h1] at hdn
  refine OpK.call rfl rfl rfl rfl hdn inferInstance (Mc := []) (Mr := _) (List.Perm.refl _) ?_
  rintro u Φ' Mc' ⟨bD, rfl, rfl, rfl⟩
  dsimp only [List.cons_append, List.nil_append]
  repeat (first | refine stp ?_ | (refine sti ?_; intro _) | refine stf ?_ | (refine stb ?_; intro _))
  cases h2 : holdL l with
  | none =>
    rw [rr_held h2]
    rw [h2] at hhd
    refine OpK.call rfl rfl rfl rfl hhd inferInstance (Mc := []) (Mr := _) (List.Perm.refl _) ?_
    rintro u Φ' Mc' ⟨rfl, rfl, rfl⟩
    dsimp only [List.cons_append, List.nil_append]
    repeat (first | refine stp ?_ | (refine sti ?_; intro _) | refine stf ?_ | (refine stb ?_; intro _))
    refine G.ret rfl (.cons (.tmp rfl) .nil) (Φ' := []) (M' := []) inferInstance (List.nil_sublist _) ⟨?_, rfl, rfl⟩
    rfl
  | some H =>
  rw [h2] at hhd
  refine OpK.call rfl rfl rfl rfl hhd inferInstance (Mc := []) (Mr := _) (List.Perm.refl _) ?_
  rintro u Φ' Mc' ⟨bH, rfl, rfl, rfl⟩
  dsimp only [List.cons_append, List.nil_append]
  have hDn : D.length = l.sets.length := by
    have h3 : markP (List.replicate l.sets.length false) l.done = some D := by rw [← h1]; with_unfolding_all rfl
    rw [markP_len _ _ _ h3, List.length_replicate]
  have hin : InN l.sets.length l.done := by
    have h3 : markP (List.replicate l.sets.length false) l.done = some D := by rw [← h1]; with_unfolding_all rfl
    have := (markP_some _ _ _ h3).2.1
    rwa [List.length_replicate] at this
  have hHn : H.length = l.sets.length := by
    have h3 : holdA (List.replicate l.sets.length 0) l.at_ = some H := by rw [← h2]; with_unfolding_all rfl
    rw [holdA_len _ _ _ h3, List.length_replicate]
  repeat (first | refine stp ?_ | (refine sti ?_; intro _) | refine stf ?_ | (refine stb ?_; intro _))
  refine W.loopI (fun (i : Nat) => ([fRp (.slice a1 l.sets.length c1) l.sets, fRp (.slice a2 l.left.length c2) l.left, fRp (.slice a4 l.begun.length c4) l.begun, fRp (.slice a5 l.done.length c5) l.done], [(1, .pointer (some ⟨b1, 0, none⟩)), (3, .int .i64 l.sets.length), (4, .slice (some ⟨bD, 0, none⟩) l.sets.length l.sets.length), (6, .slice (some ⟨bH, 0, none⟩) l.sets.length l.sets.length), (8, .int .i64 i)], [(bH, Ob (cI H) 3), (bD, Ob (cB D) 4), (b1, Ob [.slice a1 l.sets.length c1, .slice a2 l.left.length c2, .slice a3 l.at_.length c3, .slice a4 l.begun.length c4, .slice a5 l.done.length c5] 28)])) (fun i => i ≤ l.sets.length ∧ (∀ j, j < i → okA l D H j = true) ∧ ∀ j, j < i → ∀ k, k < j → okE l D j k = true) (fun i => l.sets.length - i) 0 ⟨Nat.zero_le _, fun j hj => absurd hj (Nat.not_lt_zero j), fun j hj => absurd hj (Nat.not_lt_zero j)⟩ inferInstance (look_sub_cons rfl (look_sub_cons rfl (look_sub_cons rfl (look_sub_cons rfl (look_sub_cons rfl look_sub_nil))))) (List.Sublist.refl _) ?_
  rintro i ⟨hi, hallA, hallE⟩
  dsimp only
  by_cases hi0 : i = l.sets.length
  case neg =>
    have hi1 : i < l.sets.length := by omega
    have hil : i < l.left.length := by omega
    have hiD : i < D.length := by omega
    have hiH : i < H.length := by omega
    have hib : i < l.begun.length := by omega
    have hokA := okA_at hil hiD hiH hib
    repeat (first | refine stp ?_ | (refine sti ?_; intro _) | refine stf ?_ | (refine stb ?_; intro _))
    refine W.cutThen [fRp (.slice a1 l.sets.length c1) l.sets, fRp (.slice a2 l.left.length c2) l.left, fRp (.slice a4 l.begun.length c4) l.begun, fRp (.slice a5 l.done.length c5) l.done] ([(1, .pointer (some ⟨b1, 0, none⟩)), (3, .int .i64 l.sets.length), (4, .slice (some ⟨bD, 0, none⟩) l.sets.length l.sets.length), (6, .slice (some ⟨bH, 0, none⟩) l.sets.length l.sets.length), (8, .int .i64 i), (131, .bool (!okA l D H i))]) [(bH, Ob (cI H) 3), (bD, Ob (cB D) 4), (b1, Ob [.slice a1 l.sets.length c1, .slice a2 l.left.length c2, .slice a3 l.at_.length c3, .slice a4 l.begun.length c4, .slice a5 l.done.length c5] 28)] ?_ ?_
    · skip
      by_cases hn : l.left[i] < 0
      · have e : okA l D H i = false := by rw [hokA]; simp [oddLeft, hn]
        rw [e]
        refine W.draw 66 (⟨?v0_1, fun _ z => []⟩ :: ⟨?v1_1, fun _ z => []⟩ :: ⟨?v2_1, fun _ z => []⟩ :: ⟨fun _ z => z, fun _ z => [fPt z l.left[i]]⟩ :: ⟨?v4_1, fun _ z => []⟩ :: ⟨?v5_1, fun _ z => []⟩ :: ⟨?v6_1, fun _ z => []⟩ :: ⟨?v7_1, fun _ z => []⟩ :: ⟨?v8_1, fun _ z => []⟩ :: ⟨?v9_1, fun _ z => []⟩ :: ⟨?v10_1, fun _ z => []⟩ :: ⟨?v11_1, fun _ z => []⟩ :: ⟨?v12_1, fun _ z => []⟩ :: ⟨?v13_1, fun _ z => []⟩ :: ⟨?v14_1, fun _ z => []⟩ :: ⟨?v15_1, fun _ z => []⟩ :: ⟨?v16_1, fun _ z => []⟩ :: ⟨?v17_1, fun _ z => []⟩ :: ⟨?v18_1, fun _ z => []⟩ :: ⟨?v19_1, fun _ z => []⟩ :: ⟨?v20_1, fun _ z => []⟩ :: ⟨?v21_1, fun _ z => []⟩ :: ⟨?v22_1, fun _ z => []⟩ :: ⟨?v23_1, fun _ z => []⟩ :: ⟨?v24_1, fun _ z => []⟩ :: ⟨?v25_1, fun _ z => []⟩ :: ⟨?v26_1, fun _ z => []⟩ :: ⟨?v27_1, fun _ z => []⟩ :: ⟨?v28_1, fun _ z => []⟩ :: ⟨?v29_1, fun _ z => []⟩ :: ⟨?v30_1, fun _ z => []⟩ :: ⟨?v31_1, fun _ z => []⟩ :: ⟨?v32_1, fun _ z => []⟩ :: ⟨?v33_1, fun _ z => []⟩ :: ⟨?v34_1, fun _ z => []⟩ :: ⟨?v35_1, fun _ z => []⟩ :: ⟨?v36_1, fun _ z => []⟩ :: ⟨?v37_1, fun _ z => []⟩ :: ⟨?v38_1, fun _ z => []⟩ :: ⟨?v39_1, fun _ z => []⟩ :: ⟨?v40_1, fun _ z => []⟩ :: ⟨?v41_1, fun _ z => []⟩ :: ⟨?v42_1, fun _ z => []⟩ :: ⟨?v43_1, fun _ z => []⟩ :: ⟨?v44_1, fun _ z => []⟩ :: ⟨?v45_1, fun _ z => []⟩ :: ⟨?v46_1, fun _ z => []⟩ :: ⟨?v47_1, fun _ z => []⟩ :: ⟨?v48_1, fun _ z => []⟩ :: ⟨?v49_1, fun _ z => []⟩ :: ⟨?v50_1, fun _ z => []⟩ :: ⟨?v51_1, fun _ z => []⟩ :: ⟨?v52_1, fun _ z => []⟩ :: ⟨?v53_1, fun _ z => []⟩ :: ⟨?v54_1, fun _ z => []⟩ :: ⟨?v55_1, fun _ z => []⟩ :: ⟨?v56_1, fun _ z => []⟩ :: ⟨?v57_1, fun _ z => []⟩ :: ⟨?v58_1, fun _ z => []⟩ :: ⟨?v59_1, fun _ z => []⟩ :: ⟨?v60_1, fun _ z => []⟩ :: ⟨?v61_1, fun _ z => []⟩ :: ⟨?v62_1, fun _ z => []⟩ :: ⟨?v63_1, fun _ z => []⟩ :: ⟨?v64_1, fun _ z => []⟩ :: ⟨?v65_1, fun _ z => []⟩ :: []) ([] :: [0] :: [] :: [1, 2] :: [3] :: [4] :: [5] :: [6] :: [6, 7] :: [6] :: [6, 8, 9] :: [6, 10] :: [6, 11] :: [6, 12] :: [13] :: [14] :: [14] :: [14, 15, 16] :: [14, 17] :: [14, 18] :: [14, 19] :: [20] :: [21] :: [21] :: [21, 22, 23] :: [21, 24] :: [21] :: [21, 26] :: [21] :: [21, 27, 28] :: [21, 29] :: [21, 30] :: [21, 25, 31] :: [21, 32] :: [33] :: [34] :: [34, 35] :: [34] :: [34, 36, 37] :: [34, 38] :: [34] :: [34] :: [34, 40, 41] :: [34, 42] :: [34, 43] :: [44] :: [44] :: [44, 45, 46] :: [44, 47] :: [44, 48] :: [34, 44, 49] :: [34, 39, 50] :: [34, 51] :: [52] :: [53] :: [53] :: [53, 54, 55] :: [53, 56] :: [53, 57] :: [58] :: [58] :: [58, 59, 60] :: [58, 61] :: [58, 62] :: [53, 58, 63] :: [53, 64] :: []) [65] (by kernel_rfl) (by kernel_rfl) (by kernel_rfl) (by kernel_rfl) ?loc_1 ?ops_1 ?rest_1
        case ops_1 =>
          iterate 66 (refine AllQ.mk ?_ ?_; rotate_left)
          exact AllQ.nil
          all_goals (intro c z0 Φr Lr K hK; dsimp only [dstOf, kval, kfac, ancE, ancF, getD_z, getD_s, List.getElem?_cons_zero, List.getElem?_cons_succ, List.getElem?_nil, Option.getD_some, Option.getD_none, List.nil_append, List.cons_append, Option.getD] at hK ⊢)
          iterate 3 ((first | refine stp ?_ | refine stf ?_); exact hK z0)
          · refine o_idxN i rfl rfl rfl rfl rfl hil ?_; intro p; exact hK _
          iterate 62 ((first | refine stp ?_ | refine stf ?_); exact hK z0)
        case loc_1 =>
          iterate 66 (refine AllL.mk ?_ ?_; rotate_left)
          exact AllL.nil
          all_goals (intro c c' z h; first | exact ⟨rfl, rfl⟩ | (skip))
        intro c
        dsimp only [dstOf, kval, kfac, ancE,  ancF, getD_z, getD_s, List.getElem?_cons_zero, List.getElem?_cons_succ, List.getElem?_nil, Option.getD_some, Option.getD_none, List.nil_append, List.cons_append, List.drop_succ_cons, List.drop_zero, Option.getD]
        repeat (first | refine stp ?_ | (refine sti ?_; intro _) | refine stf ?_ | (refine stb ?_; intro _))
        exact G.kp inferInstance (look_sub_cons rfl (look_sub_cons rfl (look_sub_cons rfl (look_sub_cons rfl (look_sub_cons rfl (look_sub_cons rfl look_sub_nil)))))) (List.Sublist.refl _)
      by_cases hb : 1099511627776 < l.left[i]
      · have e : okA l D H i = false := by rw [hokA]; simp [oddLeft, hb]
        rw [e]
        refine W.draw 66 (⟨?v0_2, fun _ z => []⟩ :: ⟨?v1_2, fun _ z => []⟩ :: ⟨?v2_2, fun _ z => []⟩ :: ⟨fun _ z => z, fun _ z => [fPt z l.left[i]]⟩ :: ⟨?v4_2, fun _ z => []⟩ :: ⟨?v5_2, fun _ z => []⟩ :: ⟨?v6_2, fun _ z => []⟩ :: ⟨?v7_2, fun _ z => []⟩ :: ⟨?v8_2, fun _ z => []⟩ :: ⟨?v9_2, fun _ z => []⟩ :: ⟨fun _ z => z, fun _ z => [fPt z l.left[i]]⟩ :: ⟨?v11_2, fun _ z => []⟩ :: ⟨?v12_2, fun _ z => []⟩ :: ⟨?v13_2, fun _ z => []⟩ :: ⟨?v14_2, fun _ z => []⟩ :: ⟨?v15_2, fun _ z => []⟩ :: ⟨?v16_2, fun _ z => []⟩ :: ⟨?v17_2, fun _ z => []⟩ :: ⟨?v18_2, fun _ z => []⟩ :: ⟨?v19_2, fun _ z => []⟩ :: ⟨?v20_2, fun _ z => []⟩ :: ⟨?v21_2, fun _ z => []⟩ :: ⟨?v22_2, fun _ z => []⟩ :: ⟨?v23_2, fun _ z => []⟩ :: ⟨?v24_2, fun _ z => []⟩ :: ⟨?v25_2, fun _ z => []⟩ :: ⟨?v26_2, fun _ z => []⟩ :: ⟨?v27_2, fun _ z => []⟩ :: ⟨?v28_2, fun _ z => []⟩ :: ⟨?v29_2, fun _ z => []⟩ :: ⟨?v30_2, fun _ z => []⟩ :: ⟨?v31_2, fun _ z => []⟩ :: ⟨?v32_2, fun _ z => []⟩ :: ⟨?v33_2, fun _ z => []⟩ :: ⟨?v34_2, fun _ z => []⟩ :: ⟨?v35_2, fun _ z => []⟩ :: ⟨?v36_2, fun _ z => []⟩ :: ⟨?v37_2, fun _ z => []⟩ :: ⟨?v38_2, fun _ z => []⟩ :: ⟨?v39_2, fun _ z => []⟩ :: ⟨?v40_2, fun _ z => []⟩ :: ⟨?v41_2, fun _ z => []⟩ :: ⟨?v42_2, fun _ z => []⟩ :: ⟨?v43_2, fun _ z => []⟩ :: ⟨?v44_2, fun _ z => []⟩ :: ⟨?v45_2, fun _ z => []⟩ :: ⟨?v46_2, fun _ z => []⟩ :: ⟨?v47_2, fun _ z => []⟩ :: ⟨?v48_2, fun _ z => []⟩ :: ⟨?v49_2, fun _ z => []⟩ :: ⟨?v50_2, fun _ z => []⟩ :: ⟨?v51_2, fun _ z => []⟩ :: ⟨?v52_2, fun _ z => []⟩ :: ⟨?v53_2, fun _ z => []⟩ :: ⟨?v54_2, fun _ z => []⟩ :: ⟨?v55_2, fun _ z => []⟩ :: ⟨?v56_2, fun _ z => []⟩ :: ⟨?v57_2, fun _ z => []⟩ :: ⟨?v58_2, fun _ z => []⟩ :: ⟨?v59_2, fun _ z => []⟩ :: ⟨?v60_2, fun _ z => []⟩ :: ⟨?v61_2, fun _ z => []⟩ :: ⟨?v62_2, fun _ z => []⟩ :: ⟨?v63_2, fun _ z => []⟩ :: ⟨?v64_2, fun _ z => []⟩ :: ⟨?v65_2, fun _ z => []⟩ :: []) ([] :: [0] :: [] :: [1, 2] :: [3] :: [4] :: [5] :: [6] :: [6, 7] :: [6] :: [6, 8, 9] :: [6, 10] :: [6, 11] :: [6, 12] :: [13] :: [14] :: [14] :: [14, 15, 16] :: [14, 17] :: [14, 18] :: [14, 19] :: [20] :: [21] :: [21] :: [21, 22, 23] :: [21, 24] :: [21] :: [21, 26] :: [21] :: [21, 27, 28] :: [21, 29] :: [21, 30] :: [21, 25, 31] :: [21, 32] :: [33] :: [34] :: [34, 35] :: [34] :: [34, 36, 37] :: [34, 38] :: [34] :: [34] :: [34, 40, 41] :: [34, 42] :: [34, 43] :: [44] :: [44] :: [44, 45, 46] :: [44, 47] :: [44, 48] :: [34, 44, 49] :: [34, 39, 50] :: [34, 51] :: [52] :: [53] :: [53] :: [53, 54, 55] :: [53, 56] :: [53, 57] :: [58] :: [58] :: [58, 59, 60] :: [58, 61] :: [58, 62] :: [53, 58, 63] :: [53, 64] :: []) [65] (by kernel_rfl) (by kernel_rfl) (by kernel_rfl) (by kernel_rfl) ?loc_2 ?ops_2 ?rest_2
        case ops_2 =>
          iterate 66 (refine AllQ.mk ?_ ?_; rotate_left)
          exact AllQ.nil
          all_goals (intro c z0 Φr Lr K hK; dsimp only [dstOf, kval, kfac, ancE, ancF, getD_z, getD_s, List.getElem?_cons_zero, List.getElem?_cons_succ, List.getElem?_nil, Option.getD_some, Option.getD_none, List.nil_append, List.cons_append, Option.getD] at hK ⊢)
          iterate 3 ((first | refine stp ?_ | refine stf ?_); exact hK z0)
          · refine o_idxN i rfl rfl rfl rfl rfl hil ?_; intro p; exact hK _
          iterate 6 ((first | refine stp ?_ | refine stf ?_); exact hK z0)
          · refine o_idxN i rfl rfl rfl rfl rfl hil ?_; intro p; exact hK _
          iterate 55 ((first | refine stp ?_ | refine stf ?_); exact hK z0)
        case loc_2 =>
          iterate 66 (refine AllL.mk ?_ ?_; rotate_left)
          exact AllL.nil
          all_goals (intro c c' z h; first | exact ⟨rfl, rfl⟩ | (skip))
        intro c
        dsimp only [dstOf, kval, kfac, ancE,  ancF, getD_z, getD_s, List.getElem?_cons_zero, List.getElem?_cons_succ, List.getElem?_nil, Option.getD_some, Option.getD_none, List.nil_append, List.cons_append, List.drop_succ_cons, List.drop_zero, Option.getD]
        repeat (first | refine stp ?_ | (refine sti ?_; intro _) | refine stf ?_ | (refine stb ?_; intro _))
        exact G.kp inferInstance (look_sub_cons rfl (look_sub_cons rfl (look_sub_cons rfl (look_sub_cons rfl (look_sub_cons rfl (look_sub_cons rfl look_sub_nil)))))) (List.Sublist.refl _)
      by_cases ht : 1 < H[i]
      · have e : okA l D H i = false := by rw [hokA]; simp [oddLeft, ht]
        rw [e]
        refine W.draw 66 (⟨?v0_3, fun _ z => []⟩ :: ⟨?v1_3, fun _ z => []⟩ :: ⟨?v2_3, fun _ z => []⟩ :: ⟨fun _ z => z, fun _ z => [fPt z l.left[i]]⟩ :: ⟨?v4_3, fun _ z => []⟩ :: ⟨?v5_3, fun _ z => []⟩ :: ⟨?v6_3, fun _ z => []⟩ :: ⟨?v7_3, fun _ z => []⟩ :: ⟨?v8_3, fun _ z => []⟩ :: ⟨?v9_3, fun _ z => []⟩ :: ⟨fun _ z => z, fun _ z => [fPt z l.left[i]]⟩ :: ⟨?v11_3, fun _ z => []⟩ :: ⟨?v12_3, fun _ z => []⟩ :: ⟨?v13_3, fun _ z => []⟩ :: ⟨?v14_3, fun _ z => []⟩ :: ⟨?v15_3, fun _ z => []⟩ :: ⟨?v16_3, fun _ z => []⟩ :: ⟨?v17_3, fun _ z => []⟩ :: ⟨?v18_3, fun _ z => []⟩ :: ⟨?v19_3, fun _ z => []⟩ :: ⟨?v20_3, fun _ z => []⟩ :: ⟨?v21_3, fun _ z => []⟩ :: ⟨?v22_3, fun _ z => []⟩ :: ⟨?v23_3, fun _ z => []⟩ :: ⟨?v24_3, fun _ z => []⟩ :: ⟨?v25_3, fun _ z => []⟩ :: ⟨?v26_3, fun _ z => []⟩ :: ⟨?v27_3, fun _ z => []⟩ :: ⟨?v28_3, fun _ z => []⟩ :: ⟨?v29_3, fun _ z => []⟩ :: ⟨?v30_3, fun _ z => []⟩ :: ⟨?v31_3, fun _ z => []⟩ :: ⟨?v32_3, fun _ z => []⟩ :: ⟨?v33_3, fun _ z => []⟩ :: ⟨?v34_3, fun _ z => []⟩ :: ⟨?v35_3, fun _ z => []⟩ :: ⟨?v36_3, fun _ z => []⟩ :: ⟨?v37_3, fun _ z => []⟩ :: ⟨?v38_3, fun _ z => []⟩ :: ⟨?v39_3, fun _ z => []⟩ :: ⟨?v40_3, fun _ z => []⟩ :: ⟨?v41_3, fun _ z => []⟩ :: ⟨?v42_3, fun _ z => []⟩ :: ⟨?v43_3, fun _ z => []⟩ :: ⟨?v44_3, fun _ z => []⟩ :: ⟨?v45_3, fun _ z => []⟩ :: ⟨?v46_3, fun _ z => []⟩ :: ⟨?v47_3, fun _ z => []⟩ :: ⟨?v48_3, fun _ z => []⟩ :: ⟨?v49_3, fun _ z => []⟩ :: ⟨?v50_3, fun _ z => []⟩ :: ⟨?v51_3, fun _ z => []⟩ :: ⟨?v52_3, fun _ z => []⟩ :: ⟨?v53_3, fun _ z => []⟩ :: ⟨?v54_3, fun _ z => []⟩ :: ⟨?v55_3, fun _ z => []⟩ :: ⟨?v56_3, fun _ z => []⟩ :: ⟨?v57_3, fun _ z => []⟩ :: ⟨?v58_3, fun _ z => []⟩ :: ⟨?v59_3, fun _ z => []⟩ :: ⟨?v60_3, fun _ z => []⟩ :: ⟨?v61_3, fun _ z => []⟩ :: ⟨?v62_3, fun _ z => []⟩ :: ⟨?v63_3, fun _ z => []⟩ :: ⟨?v64_3, fun _ z => []⟩ :: ⟨?v65_3, fun _ z => []⟩ :: []) ([] :: [0] :: [] :: [1, 2] :: [3] :: [4] :: [5] :: [6] :: [6, 7] :: [6] :: [6, 8, 9] :: [6, 10] :: [6, 11] :: [6, 12] :: [13] :: [14] :: [14] :: [14, 15, 16] :: [14, 17] :: [14, 18] :: [14, 19] :: [20] :: [21] :: [21] :: [21, 22, 23] :: [21, 24] :: [21] :: [21, 26] :: [21] :: [21, 27, 28] :: [21, 29] :: [21, 30] :: [21, 25, 31] :: [21, 32] :: [33] :: [34] :: [34, 35] :: [34] :: [34, 36, 37] :: [34, 38] :: [34] :: [34] :: [34, 40, 41] :: [34, 42] :: [34, 43] :: [44] :: [44] :: [44, 45, 46] :: [44, 47] :: [44, 48] :: [34, 44, 49] :: [34, 39, 50] :: [34, 51] :: [52] :: [53] :: [53] :: [53, 54, 55] :: [53, 56] :: [53, 57] :: [58] :: [58] :: [58, 59, 60] :: [58, 61] :: [58, 62] :: [53, 58, 63] :: [53, 64] :: []) [65] (by kernel_rfl) (by kernel_rfl) (by kernel_rfl) (by kernel_rfl) ?loc_3 ?ops_3 ?rest_3
        case ops_3 =>
          iterate 66 (refine AllQ.mk ?_ ?_; rotate_left)
          exact AllQ.nil
          all_goals (intro c z0 Φr Lr K hK; dsimp only [dstOf, kval, kfac, ancE, ancF, getD_z, getD_s, List.getElem?_cons_zero, List.getElem?_cons_succ, List.getElem?_nil, Option.getD_some, Option.getD_none, List.nil_append, List.cons_append, Option.getD] at hK ⊢)
          iterate 3 ((first | refine stp ?_ | refine stf ?_); exact hK z0)
          · refine o_idxN i rfl rfl rfl rfl rfl hil ?_; intro p; exact hK _
          iterate 6 ((first | refine stp ?_ | refine stf ?_); exact hK z0)
          · refine o_idxN i rfl rfl rfl rfl rfl hil ?_; intro p; exact hK _
          iterate 6 ((first | refine stp ?_ | refine stf ?_); exact hK z0)
          · refine o_idxO rfl rfl rfl rfl (by omega) (by omega) (o' := i) (by omega) ?_; exact hK z0
          · refine o_loadI i hiH rfl rfl rfl rfl ?_; exact hK z0
          iterate 47 ((first | refine stp ?_ | refine stf ?_); exact hK z0)
        case loc_3 =>
          iterate 66 (refine AllL.mk ?_ ?_; rotate_left)
          exact AllL.nil
          all_goals (intro c c' z h; first | exact ⟨rfl, rfl⟩ | (skip))
        intro c
        dsimp only [dstOf, kval, kfac, ancE,  ancF, getD_z, getD_s, List.getElem?_cons_zero, List.getElem?_cons_succ, List.getElem?_nil, Option.getD_some, Option.getD_none, List.nil_append, List.cons_append, List.drop_succ_cons, List.drop_zero, Option.getD]
        repeat (first | refine stp ?_ | (refine sti ?_; intro _) | refine stf ?_ | (refine stb ?_; intro _))
        exact G.kp inferInstance (look_sub_cons rfl (look_sub_cons rfl (look_sub_cons rfl (look_sub_cons rfl (look_sub_cons rfl (look_sub_cons rfl look_sub_nil)))))) (List.Sublist.refl _)
      by_cases hz : l.left[i] = 0
      · cases hd : D[i] with
        | false =>
          have e : okA l D H i = false := by rw [hokA]; simp [oddLeft, hd, hz]
          rw [e]
          refine W.draw 66 (⟨?v0_4, fun _ z => []⟩ :: ⟨?v1_4, fun _ z => []⟩ :: ⟨?v2_4, fun _ z => []⟩ :: ⟨fun _ z => z, fun _ z => [fPt z l.left[i]]⟩ :: ⟨?v4_4, fun _ z => []⟩ :: ⟨?v5_4, fun _ z => []⟩ :: ⟨?v6_4, fun _ z => []⟩ :: ⟨?v7_4, fun _ z => []⟩ :: ⟨?v8_4, fun _ z => []⟩ :: ⟨?v9_4, fun _ z => []⟩ :: ⟨fun _ z => z, fun _ z => [fPt z l.left[i]]⟩ :: ⟨?v11_4, fun _ z => []⟩ :: ⟨?v12_4, fun _ z => []⟩ :: ⟨?v13_4, fun _ z => []⟩ :: ⟨?v14_4, fun _ z => []⟩ :: ⟨?v15_4, fun _ z => []⟩ :: ⟨?v16_4, fun _ z => []⟩ :: ⟨?v17_4, fun _ z => []⟩ :: ⟨?v18_4, fun _ z => []⟩ :: ⟨?v19_4, fun _ z => []⟩ :: ⟨?v20_4, fun _ z => []⟩ :: ⟨?v21_4, fun _ z => []⟩ :: ⟨?v22_4, fun _ z => []⟩ :: ⟨?v23_4, fun _ z => []⟩ :: ⟨?v24_4, fun _ z => []⟩ :: ⟨?v25_4, fun _ z => []⟩ :: ⟨?v26_4, fun _ z => []⟩ :: ⟨?v27_4, fun _ z => []⟩ :: ⟨?v28_4, fun _ z => []⟩ :: ⟨fun _ z => z, fun _ z => [fPt z l.left[i]]⟩ :: ⟨?v30_4, fun _ z => []⟩ :: ⟨?v31_4, fun _ z => []⟩ :: ⟨?v32_4, fun _ z => []⟩ :: ⟨?v33_4, fun _ z => []⟩ :: ⟨?v34_4, fun _ z => []⟩ :: ⟨?v35_4, fun _ z => []⟩ :: ⟨?v36_4, fun _ z => []⟩ :: ⟨?v37_4, fun _ z => []⟩ :: ⟨?v38_4, fun _ z => []⟩ :: ⟨?v39_4, fun _ z => []⟩ :: ⟨?v40_4, fun _ z => []⟩ :: ⟨?v41_4, fun _ z => []⟩ :: ⟨?v42_4, fun _ z => []⟩ :: ⟨?v43_4, fun _ z => []⟩ :: ⟨?v44_4, fun _ z => []⟩ :: ⟨?v45_4, fun _ z => []⟩ :: ⟨?v46_4, fun _ z => []⟩ :: ⟨?v47_4, fun _ z => []⟩ :: ⟨?v48_4, fun _ z => []⟩ :: ⟨?v49_4, fun _ z => []⟩ :: ⟨?v50_4, fun _ z => []⟩ :: ⟨?v51_4, fun _ z => []⟩ :: ⟨?v52_4, fun _ z => []⟩ :: ⟨?v53_4, fun _ z => []⟩ :: ⟨?v54_4, fun _ z => []⟩ :: ⟨?v55_4, fun _ z => []⟩ :: ⟨?v56_4, fun _ z => []⟩ :: ⟨?v57_4, fun _ z => []⟩ :: ⟨?v58_4, fun _ z => []⟩ :: ⟨?v59_4, fun _ z => []⟩ :: ⟨?v60_4, fun _ z => []⟩ :: ⟨?v61_4, fun _ z => []⟩ :: ⟨?v62_4, fun _ z => []⟩ :: ⟨?v63_4, fun _ z => []⟩ :: ⟨?v64_4, fun _ z => []⟩ :: ⟨?v65_4, fun _ z => []⟩ :: []) ([] :: [0] :: [] :: [1, 2] :: [3] :: [4] :: [5] :: [6] :: [6, 7] :: [6] :: [6, 8, 9] :: [6, 10] :: [6, 11] :: [6, 12] :: [13] :: [14] :: [14] :: [14, 15, 16] :: [14, 17] :: [14, 18] :: [14, 19] :: [20] :: [21] :: [21] :: [21, 22, 23] :: [21, 24] :: [21] :: [21, 26] :: [21] :: [21, 27, 28] :: [21, 29] :: [21, 30] :: [21, 25, 31] :: [21, 32] :: [33] :: [34] :: [34, 35] :: [34] :: [34, 36, 37] :: [34, 38] :: [34] :: [34] :: [34, 40, 41] :: [34, 42] :: [34, 43] :: [44] :: [44] :: [44, 45, 46] :: [44, 47] :: [44, 48] :: [34, 44, 49] :: [34, 39, 50] :: [34, 51] :: [52] :: [53] :: [53] :: [53, 54, 55] :: [53, 56] :: [53, 57] :: [58] :: [58] :: [58, 59, 60] :: [58, 61] :: [58, 62] :: [53, 58, 63] :: [53, 64] :: []) [65] (by kernel_rfl) (by kernel_rfl) (by kernel_rfl) (by kernel_rfl) ?loc_4 ?ops_4 ?rest_4
          case ops_4 =>
            iterate 66 (refine AllQ.mk ?_ ?_; rotate_left)
            exact AllQ.nil
            all_goals (intro c z0 Φr Lr K hK; dsimp only [dstOf, kval, kfac, ancE, ancF, getD_z, getD_s, List.getElem?_cons_zero, List.getElem?_cons_succ, List.getElem?_nil, Option.getD_some, Option.getD_none, List.nil_append, List.cons_append, Option.getD] at hK ⊢)
            iterate 3 ((first | refine stp ?_ | refine stf ?_); exact hK z0)
            · refine o_idxN i rfl rfl rfl rfl rfl hil ?_; intro p; exact hK _
            iterate 6 ((first | refine stp ?_ | refine stf ?_); exact hK z0)
            · refine o_idxN i rfl rfl rfl rfl rfl hil ?_; intro p; exact hK _
            iterate 6 ((first | refine stp ?_ | refine stf ?_); exact hK z0)
            · refine o_idxO rfl rfl rfl rfl (by omega) (by omega) (o' := i) (by omega) ?_; exact hK z0
            · refine o_loadI i hiH rfl rfl rfl rfl ?_; exact hK z0
            iterate 5 (refine stp ?_; exact hK z0)
            · refine o_idxO rfl rfl rfl rfl (by omega) (by omega) (o' := i) (by omega) ?_; exact hK z0
            · refine o_loadB i hiD rfl rfl rfl rfl ?_; rw [hd]; exact hK z0
            iterate 3 ((first | refine stp ?_ | refine stf ?_); exact hK z0)
            · refine o_idxN i rfl rfl rfl rfl rfl hil ?_; intro p; exact hK _
            · (first | refine stp ?_ | refine stf ?_); exact hK z0
            · refine o_int rfl rfl rfl rfl (i_eql_t (by omega)) ?_; exact hK z0
            · refine o_neq rfl rfl rfl rfl (r := true) (by simp) ?_; exact hK z0
            iterate 33 ((first | refine stp ?_ | refine stf ?_); exact hK z0)
          case loc_4 =>
            iterate 66 (refine AllL.mk ?_ ?_; rotate_left)
            exact AllL.nil
            all_goals (intro c c' z h; first | exact ⟨rfl, rfl⟩ | (skip))
          intro c
          dsimp only [dstOf, kval, kfac, ancE,  ancF, getD_z, getD_s, List.getElem?_cons_zero, List.getElem?_cons_succ, List.getElem?_nil, Option.getD_some, Option.getD_none, List.nil_append, List.cons_append, List.drop_succ_cons, List.drop_zero, Option.getD]
          repeat (first | refine stp ?_ | (refine sti ?_; intro _) | refine stf ?_ | (refine stb ?_; intro _))
          exact G.kp inferInstance (look_sub_cons rfl (look_sub_cons rfl (look_sub_cons rfl (look_sub_cons rfl (look_sub_cons rfl (look_sub_cons rfl look_sub_nil)))))) (List.Sublist.refl _)
        | true =>
          cases hg : l.begun[i] with
          | false =>
            have e : okA l D H i = false := by rw [hokA]; simp [oddLeft, hd, hz, hg]
            rw [e]
            refine W.draw 66 (⟨?v0_5, fun _ z => []⟩ :: ⟨?v1_5, fun _ z => []⟩ :: ⟨?v2_5, fun _ z => []⟩ :: ⟨fun _ z => z, fun _ z => [fPt z l.left[i]]⟩ :: ⟨?v4_5, fun _ z => []⟩ :: ⟨?v5_5, fun _ z => []⟩ :: ⟨?v6_5, fun _ z => []⟩ :: ⟨?v7_5, fun _ z => []⟩ :: ⟨?v8_5, fun _ z => []⟩ :: ⟨?v9_5, fun _ z => []⟩ :: ⟨fun _ z => z, fun _ z => [fPt z l.left[i]]⟩ :: ⟨?v11_5, fun _ z => []⟩ :: ⟨?v12_5, fun _ z => []⟩ :: ⟨?v13_5, fun _ z => []⟩ :: ⟨?v14_5, fun _ z => []⟩ :: ⟨?v15_5, fun _ z => []⟩ :: ⟨?v16_5, fun _ z => []⟩ :: ⟨?v17_5, fun _ z => []⟩ :: ⟨?v18_5, fun _ z => []⟩ :: ⟨?v19_5, fun _ z => []⟩ :: ⟨?v20_5, fun _ z => []⟩ :: ⟨?v21_5, fun _ z => []⟩ :: ⟨?v22_5, fun _ z => []⟩ :: ⟨?v23_5, fun _ z => []⟩ :: ⟨?v24_5, fun _ z => []⟩ :: ⟨?v25_5, fun _ z => []⟩ :: ⟨?v26_5, fun _ z => []⟩ :: ⟨?v27_5, fun _ z => []⟩ :: ⟨?v28_5, fun _ z => []⟩ :: ⟨fun _ z => z, fun _ z => [fPt z l.left[i]]⟩ :: ⟨?v30_5, fun _ z => []⟩ :: ⟨?v31_5, fun _ z => []⟩ :: ⟨?v32_5, fun _ z => []⟩ :: ⟨?v33_5, fun _ z => []⟩ :: ⟨?v34_5, fun _ z => []⟩ :: ⟨?v35_5, fun _ z => []⟩ :: ⟨?v36_5, fun _ z => []⟩ :: ⟨?v37_5, fun _ z => []⟩ :: ⟨fun _ z => z, fun _ z => [fPt z false]⟩ :: ⟨?v39_5, fun _ z => []⟩ :: ⟨?v40_5, fun _ z => []⟩ :: ⟨?v41_5, fun _ z => []⟩ :: ⟨?v42_5, fun _ z => []⟩ :: ⟨?v43_5, fun _ z => []⟩ :: ⟨?v44_5, fun _ z => []⟩ :: ⟨?v45_5, fun _ z => []⟩ :: ⟨?v46_5, fun _ z => []⟩ :: ⟨?v47_5, fun _ z => []⟩ :: ⟨?v48_5, fun _ z => []⟩ :: ⟨?v49_5, fun _ z => []⟩ :: ⟨?v50_5, fun _ z => []⟩ :: ⟨?v51_5, fun _ z => []⟩ :: ⟨?v52_5, fun _ z => []⟩ :: ⟨?v53_5, fun _ z => []⟩ :: ⟨?v54_5, fun _ z => []⟩ :: ⟨?v55_5, fun _ z => []⟩ :: ⟨?v56_5, fun _ z => []⟩ :: ⟨?v57_5, fun _ z => []⟩ :: ⟨?v58_5, fun _ z => []⟩ :: ⟨?v59_5, fun _ z => []⟩ :: ⟨?v60_5, fun _ z => []⟩ :: ⟨?v61_5, fun _ z => []⟩ :: ⟨?v62_5, fun _ z => []⟩ :: ⟨?v63_5, fun _ z => []⟩ :: ⟨?v64_5, fun _ z => []⟩ :: ⟨?v65_5, fun _ z => []⟩ :: []) ([] :: [0] :: [] :: [1, 2] :: [3] :: [4] :: [5] :: [6] :: [6, 7] :: [6] :: [6, 8, 9] :: [6, 10] :: [6, 11] :: [6, 12] :: [13] :: [14] :: [14] :: [14, 15, 16] :: [14, 17] :: [14, 18] :: [14, 19] :: [20] :: [21] :: [21] :: [21, 22, 23] :: [21, 24] :: [21] :: [21, 26] :: [21] :: [21, 27, 28] :: [21, 29] :: [21, 30] :: [21, 25, 31] :: [21, 32] :: [33] :: [34] :: [34, 35] :: [34] :: [34, 36, 37] :: [34, 38] :: [34] :: [34] :: [34, 40, 41] :: [34, 42] :: [34, 43] :: [44] :: [44] :: [44, 45, 46] :: [44, 47] :: [44, 48] :: [34, 44, 49] :: [34, 39, 50] :: [34, 51] :: [52] :: [53] :: [53] :: [53, 54, 55] :: [53, 56] :: [53, 57] :: [58] :: [58] :: [58, 59, 60] :: [58, 61] :: [58, 62] :: [53, 58, 63] :: [53, 64] :: []) [65] (by kernel_rfl) (by kernel_rfl) (by kernel_rfl) (by kernel_rfl) ?loc_5 ?ops_5 ?rest_5
            case ops_5 =>
              iterate 66 (refine AllQ.mk ?_ ?_; rotate_left)
              exact AllQ.nil
              all_goals (intro c z0 Φr Lr K hK; dsimp only [dstOf, kval, kfac, ancE, ancF, getD_z, getD_s, List.getElem?_cons_zero, List.getElem?_cons_succ, List.getElem?_nil, Option.getD_some, Option.getD_none, List.nil_append, List.cons_append, Option.getD] at hK ⊢)
              iterate 3 ((first | refine stp ?_ | refine stf ?_); exact hK z0)
              · refine o_idxN i rfl rfl rfl rfl rfl hil ?_; intro p; exact hK _
              iterate 6 ((first | refine stp ?_ | refine stf ?_); exact hK z0)
              · refine o_idxN i rfl rfl rfl rfl rfl hil ?_; intro p; exact hK _
              iterate 6 ((first | refine stp ?_ | refine stf ?_); exact hK z0)
              · refine o_idxO rfl rfl rfl rfl (by omega) (by omega) (o' := i) (by omega) ?_; exact hK z0
              · refine o_loadI i hiH rfl rfl rfl rfl ?_; exact hK z0
              iterate 5 (refine stp ?_; exact hK z0)
              · refine o_idxO rfl rfl rfl rfl (by omega) (by omega) (o' := i) (by omega) ?_; exact hK z0
              · refine o_loadB i hiD rfl rfl rfl rfl ?_; rw [hd]; exact hK z0
              iterate 3 ((first | refine stp ?_ | refine stf ?_); exact hK z0)
              · refine o_idxN i rfl rfl rfl rfl rfl hil ?_; intro p; exact hK _
              · (first | refine stp ?_ | refine stf ?_); exact hK z0
              · refine o_int rfl rfl rfl rfl (i_eql_t (by omega)) ?_; exact hK z0
              · refine o_neq rfl rfl rfl rfl (r := false) (by simp) ?_; exact hK z0
              iterate 5 ((first | refine stp ?_ | refine stf ?_); exact hK z0)
              · refine o_idxN i rfl rfl rfl rfl rfl hib ?_; intro p; rw [hg]; exact hK _
              iterate 3 ((first | refine stp ?_ | refine stf ?_); exact hK z0)
              · refine o_idxO rfl rfl rfl rfl (by omega) (by omega) (o' := i) (by omega) ?_; exact hK z0
              · refine o_loadB i hiD rfl rfl rfl rfl ?_; rw [hd]; exact hK z0
              iterate 7 ((first | refine stp ?_ | refine stf ?_); exact hK z0)
              · refine o_neq rfl rfl rfl rfl (r := true) (by simp) ?_; exact hK z0
              iterate 14 ((first | refine stp ?_ | refine stf ?_); exact hK z0)
            case loc_5 =>
              iterate 66 (refine AllL.mk ?_ ?_; rotate_left)
              exact AllL.nil
              all_goals (intro c c' z h; first | exact ⟨rfl, rfl⟩ | (skip))
            intro c
            dsimp only [dstOf, kval, kfac, ancE,  ancF, getD_z, getD_s, List.getElem?_cons_zero, List.getElem?_cons_succ, List.getElem?_nil, Option.getD_some, Option.getD_none, List.nil_append, List.cons_append, List.drop_succ_cons, List.drop_zero, Option.getD]
            repeat (first | refine stp ?_ | (refine sti ?_; intro _) | refine stf ?_ | (refine stb ?_; intro _))
            exact G.kp inferInstance (look_sub_cons rfl (look_sub_cons rfl (look_sub_cons rfl (look_sub_cons rfl (look_sub_cons rfl (look_sub_cons rfl look_sub_nil)))))) (List.Sublist.refl _)
          | true =>
            by_cases hp : 0 < H[i]
            · have e : okA l D H i = false := by rw [hokA]; simp [oddLeft, hd, hz, hg, hp]
              rw [e]
              refine W.draw 66 (⟨?v0_6, fun _ z => []⟩ :: ⟨?v1_6, fun _ z => []⟩ :: ⟨?v2_6, fun _ z => []⟩ :: ⟨fun _ z => z, fun _ z => [fPt z l.left[i]]⟩ :: ⟨?v4_6, fun _ z => []⟩ :: ⟨?v5_6, fun _ z => []⟩ :: ⟨?v6_6, fun _ z => []⟩ :: ⟨?v7_6, fun _ z => []⟩ :: ⟨?v8_6, fun _ z => []⟩ :: ⟨?v9_6, fun _ z => []⟩ :: ⟨fun _ z => z, fun _ z => [fPt z l.left[i]]⟩ :: ⟨?v11_6, fun _ z => []⟩ :: ⟨?v12_6, fun _ z => []⟩ :: ⟨?v13_6, fun _ z => []⟩ :: ⟨?v14_6, fun _ z => []⟩ :: ⟨?v15_6, fun _ z => []⟩ :: ⟨?v16_6, fun _ z => []⟩ :: ⟨?v17_6, fun _ z => []⟩ :: ⟨?v18_6, fun _ z => []⟩ :: ⟨?v19_6, fun _ z => []⟩ :: ⟨?v20_6, fun _ z => []⟩ :: ⟨?v21_6, fun _ z => []⟩ :: ⟨?v22_6, fun _ z => []⟩ :: ⟨?v23_6, fun _ z => []⟩ :: ⟨?v24_6, fun _ z => []⟩ :: ⟨?v25_6, fun _ z => []⟩ :: ⟨?v26_6, fun _ z => []⟩ :: ⟨?v27_6, fun _ z => []⟩ :: ⟨?v28_6, fun _ z => []⟩ :: ⟨fun _ z => z, fun _ z => [fPt z l.left[i]]⟩ :: ⟨?v30_6, fun _ z => []⟩ :: ⟨?v31_6, fun _ z => []⟩ :: ⟨?v32_6, fun _ z => []⟩ :: ⟨?v33_6, fun _ z => []⟩ :: ⟨?v34_6, fun _ z => []⟩ :: ⟨?v35_6, fun _ z => []⟩ :: ⟨?v36_6, fun _ z => []⟩ :: ⟨?v37_6, fun _ z => []⟩ :: ⟨fun _ z => z, fun _ z => [fPt z true]⟩ :: ⟨?v39_6, fun _ z => []⟩ :: ⟨?v40_6, fun _ z => []⟩ :: ⟨?v41_6, fun _ z => []⟩ :: ⟨?v42_6, fun _ z => []⟩ :: ⟨?v43_6, fun _ z => []⟩ :: ⟨?v44_6, fun _ z => []⟩ :: ⟨?v45_6, fun _ z => []⟩ :: ⟨?v46_6, fun _ z => []⟩ :: ⟨?v47_6, fun _ z => []⟩ :: ⟨?v48_6, fun _ z => []⟩ :: ⟨?v49_6, fun _ z => []⟩ :: ⟨?v50_6, fun _ z => []⟩ :: ⟨?v51_6, fun _ z => []⟩ :: ⟨?v52_6, fun _ z => []⟩ :: ⟨?v53_6, fun _ z => []⟩ :: ⟨?v54_6, fun _ z => []⟩ :: ⟨?v55_6, fun _ z => []⟩ :: ⟨?v56_6, fun _ z => []⟩ :: ⟨?v57_6, fun _ z => []⟩ :: ⟨?v58_6, fun _ z => []⟩ :: ⟨?v59_6, fun _ z => []⟩ :: ⟨?v60_6, fun _ z => []⟩ :: ⟨?v61_6, fun _ z => []⟩ :: ⟨?v62_6, fun _ z => []⟩ :: ⟨?v63_6, fun _ z => []⟩ :: ⟨?v64_6, fun _ z => []⟩ :: ⟨?v65_6, fun _ z => []⟩ :: []) ([] :: [0] :: [] :: [1, 2] :: [3] :: [4] :: [5] :: [6] :: [6, 7] :: [6] :: [6, 8, 9] :: [6, 10] :: [6, 11] :: [6, 12] :: [13] :: [14] :: [14] :: [14, 15, 16] :: [14, 17] :: [14, 18] :: [14, 19] :: [20] :: [21] :: [21] :: [21, 22, 23] :: [21, 24] :: [21] :: [21, 26] :: [21] :: [21, 27, 28] :: [21, 29] :: [21, 30] :: [21, 25, 31] :: [21, 32] :: [33] :: [34] :: [34, 35] :: [34] :: [34, 36, 37] :: [34, 38] :: [34] :: [34] :: [34, 40, 41] :: [34, 42] :: [34, 43] :: [44] :: [44] :: [44, 45, 46] :: [44, 47] :: [44, 48] :: [34, 44, 49] :: [34, 39, 50] :: [34, 51] :: [52] :: [53] :: [53] :: [53, 54, 55] :: [53, 56] :: [53, 57] :: [58] :: [58] :: [58, 59, 60] :: [58, 61] :: [58, 62] :: [53, 58, 63] :: [53, 64] :: []) [65] (by kernel_rfl) (by kernel_rfl) (by kernel_rfl) (by kernel_rfl) ?loc_6 ?ops_6 ?rest_6
              case ops_6 =>
                iterate 66 (refine AllQ.mk ?_ ?_; rotate_left)
                exact AllQ.nil
                all_goals (intro c z0 Φr Lr K hK; dsimp only [dstOf, kval, kfac, ancE, ancF, getD_z, getD_s, List.getElem?_cons_zero, List.getElem?_cons_succ, List.getElem?_nil, Option.getD_some, Option.getD_none, List.nil_append, List.cons_append, Option.getD] at hK ⊢)
                iterate 3 ((first | refine stp ?_ | refine stf ?_); exact hK z0)
                · refine o_idxN i rfl rfl rfl rfl rfl hil ?_; intro p; exact hK _
                iterate 6 ((first | refine stp ?_ | refine stf ?_); exact hK z0)
                · refine o_idxN i rfl rfl rfl rfl rfl hil ?_; intro p; exact hK _
                iterate 6 ((first | refine stp ?_ | refine stf ?_); exact hK z0)
                · refine o_idxO rfl rfl rfl rfl (by omega) (by omega) (o' := i) (by omega) ?_; exact hK z0
                · refine o_loadI i hiH rfl rfl rfl rfl ?_; exact hK z0
                iterate 5 (refine stp ?_; exact hK z0)
                · refine o_idxO rfl rfl rfl rfl (by omega) (by omega) (o' := i) (by omega) ?_; exact hK z0
                · refine o_loadB i hiD rfl rfl rfl rfl ?_; rw [hd]; exact hK z0
                iterate 3 ((first | refine stp ?_ | refine stf ?_); exact hK z0)
                · refine o_idxN i rfl rfl rfl rfl rfl hil ?_; intro p; exact hK _
                · (first | refine stp ?_ | refine stf ?_); exact hK z0
                · refine o_int rfl rfl rfl rfl (i_eql_t (by omega)) ?_; exact hK z0
                · refine o_neq rfl rfl rfl rfl (r := false) (by simp) ?_; exact hK z0
                iterate 5 ((first | refine stp ?_ | refine stf ?_); exact hK z0)
                · refine o_idxN i rfl rfl rfl rfl rfl hib ?_; intro p; rw [hg]; exact hK _
                iterate 3 ((first | refine stp ?_ | refine stf ?_); exact hK z0)
                · refine o_idxO rfl rfl rfl rfl (by omega) (by omega) (o' := i) (by omega) ?_; exact hK z0
                · refine o_loadB i hiD rfl rfl rfl rfl ?_; rw [hd]; exact hK z0
                iterate 7 ((first | refine stp ?_ | refine stf ?_); exact hK z0)
                · refine o_neq rfl rfl rfl rfl (r := false) (by simp) ?_; exact hK z0
                iterate 4 (refine stp ?_; exact hK z0)
                · refine o_idxO rfl rfl rfl rfl (by omega) (by omega) (o' := i) (by omega) ?_; exact hK z0
                · refine o_loadB i hiD rfl rfl rfl rfl ?_; rw [hd]; exact hK z0
                iterate 3 (refine stp ?_; exact hK z0)
                · refine o_idxO rfl rfl rfl rfl (by omega) (by omega) (o' := i) (by omega) ?_; exact hK z0
                · refine o_loadI i hiH rfl rfl rfl rfl ?_; exact hK z0
                iterate 3 (refine stp ?_; exact hK z0)
              case loc_6 =>
                iterate 66 (refine AllL.mk ?_ ?_; rotate_left)
                exact AllL.nil
                all_goals (intro c c' z h; first | exact ⟨rfl, rfl⟩ | (skip))
              intro c
              dsimp only [dstOf, kval, kfac, ancE,  ancF, getD_z, getD_s, List.getElem?_cons_zero, List.getElem?_cons_succ, List.getElem?_nil, Option.getD_some, Option.getD_none, List.nil_append, List.cons_append, List.drop_succ_cons, List.drop_zero, Option.getD]
              repeat (first | refine stp ?_ | (refine sti ?_; intro _) | refine stf ?_ | (refine stb ?_; intro _))
              exact G.kp inferInstance (look_sub_cons rfl (look_sub_cons rfl (look_sub_cons rfl (look_sub_cons rfl (look_sub_cons rfl (look_sub_cons rfl look_sub_nil)))))) (List.Sublist.refl _)
            · have e : okA l D H i = true := by rw [hokA]; simp [oddLeft, hd, hz, hg, hp, hn, hb, ht]
              rw [e]
              refine W.draw 66 (⟨?v0_7, fun _ z => []⟩ :: ⟨?v1_7, fun _ z => []⟩ :: ⟨?v2_7, fun _ z => []⟩ :: ⟨fun _ z => z, fun _ z => [fPt z l.left[i]]⟩ :: ⟨?v4_7, fun _ z => []⟩ :: ⟨?v5_7, fun _ z => []⟩ :: ⟨?v6_7, fun _ z => []⟩ :: ⟨?v7_7, fun _ z => []⟩ :: ⟨?v8_7, fun _ z => []⟩ :: ⟨?v9_7, fun _ z => []⟩ :: ⟨fun _ z => z, fun _ z => [fPt z l.left[i]]⟩ :: ⟨?v11_7, fun _ z => []⟩ :: ⟨?v12_7, fun _ z => []⟩ :: ⟨?v13_7, fun _ z => []⟩ :: ⟨?v14_7, fun _ z => []⟩ :: ⟨?v15_7, fun _ z => []⟩ :: ⟨?v16_7, fun _ z => []⟩ :: ⟨?v17_7, fun _ z => []⟩ :: ⟨?v18_7, fun _ z => []⟩ :: ⟨?v19_7, fun _ z => []⟩ :: ⟨?v20_7, fun _ z => []⟩ :: ⟨?v21_7, fun _ z => []⟩ :: ⟨?v22_7, fun _ z => []⟩ :: ⟨?v23_7, fun _ z => []⟩ :: ⟨?v24_7, fun _ z => []⟩ :: ⟨?v25_7, fun _ z => []⟩ :: ⟨?v26_7, fun _ z => []⟩ :: ⟨?v27_7, fun _ z => []⟩ :: ⟨?v28_7, fun _ z => []⟩ :: ⟨fun _ z => z, fun _ z => [fPt z l.left[i]]⟩ :: ⟨?v30_7, fun _ z => []⟩ :: ⟨?v31_7, fun _ z => []⟩ :: ⟨?v32_7, fun _ z => []⟩ :: ⟨?v33_7, fun _ z => []⟩ :: ⟨?v34_7, fun _ z => []⟩ :: ⟨?v35_7, fun _ z => []⟩ :: ⟨?v36_7, fun _ z => []⟩ :: ⟨?v37_7, fun _ z => []⟩ :: ⟨fun _ z => z, fun _ z => [fPt z true]⟩ :: ⟨?v39_7, fun _ z => []⟩ :: ⟨?v40_7, fun _ z => []⟩ :: ⟨?v41_7, fun _ z => []⟩ :: ⟨?v42_7, fun _ z => []⟩ :: ⟨?v43_7, fun _ z => []⟩ :: ⟨?v44_7, fun _ z => []⟩ :: ⟨?v45_7, fun _ z => []⟩ :: ⟨?v46_7, fun _ z => []⟩ :: ⟨?v47_7, fun _ z => []⟩ :: ⟨?v48_7, fun _ z => []⟩ :: ⟨?v49_7, fun _ z => []⟩ :: ⟨?v50_7, fun _ z => []⟩ :: ⟨?v51_7, fun _ z => []⟩ :: ⟨?v52_7, fun _ z => []⟩ :: ⟨?v53_7, fun _ z => []⟩ :: ⟨?v54_7, fun _ z => []⟩ :: ⟨?v55_7, fun _ z => []⟩ :: ⟨?v56_7, fun _ z => []⟩ :: ⟨?v57_7, fun _ z => []⟩ :: ⟨?v58_7, fun _ z => []⟩ :: ⟨?v59_7, fun _ z => []⟩ :: ⟨?v60_7, fun _ z => []⟩ :: ⟨?v61_7, fun _ z => []⟩ :: ⟨?v62_7, fun _ z => []⟩ :: ⟨?v63_7, fun _ z => []⟩ :: ⟨?v64_7, fun _ z => []⟩ :: ⟨?v65_7, fun _ z => []⟩ :: []) ([] :: [0] :: [] :: [1, 2] :: [3] :: [4] :: [5] :: [6] :: [6, 7] :: [6] :: [6, 8, 9] :: [6, 10] :: [6, 11] :: [6, 12] :: [13] :: [14] :: [14] :: [14, 15, 16] :: [14, 17] :: [14, 18] :: [14, 19] :: [20] :: [21] :: [21] :: [21, 22, 23] :: [21, 24] :: [21] :: [21, 26] :: [21] :: [21, 27, 28] :: [21, 29] :: [21, 30] :: [21, 25, 31] :: [21, 32] :: [33] :: [34] :: [34, 35] :: [34] :: [34, 36, 37] :: [34, 38] :: [34] :: [34] :: [34, 40, 41] :: [34, 42] :: [34, 43] :: [44] :: [44] :: [44, 45, 46] :: [44, 47] :: [44, 48] :: [34, 44, 49] :: [34, 39, 50] :: [34, 51] :: [52] :: [53] :: [53] :: [53, 54, 55] :: [53, 56] :: [53, 57] :: [58] :: [58] :: [58, 59, 60] :: [58, 61] :: [58, 62] :: [53, 58, 63] :: [53, 64] :: []) [65] (by kernel_rfl) (by kernel_rfl) (by kernel_rfl) (by kernel_rfl) ?loc_7 ?ops_7 ?rest_7
              case ops_7 =>
                iterate 66 (refine AllQ.mk ?_ ?_; rotate_left)
                exact AllQ.nil
                all_goals (intro c z0 Φr Lr K hK; dsimp only [dstOf, kval, kfac, ancE, ancF, getD_z, getD_s, List.getElem?_cons_zero, List.getElem?_cons_succ, List.getElem?_nil, Option.getD_some, Option.getD_none, List.nil_append, List.cons_append, Option.getD] at hK ⊢)
                iterate 3 ((first | refine stp ?_ | refine stf ?_); exact hK z0)
                · refine o_idxN i rfl rfl rfl rfl rfl hil ?_; intro p; exact hK _
                iterate 6 ((first | refine stp ?_ | refine stf ?_); exact hK z0)
                · refine o_idxN i rfl rfl rfl rfl rfl hil ?_; intro p; exact hK _
                iterate 6 ((first | refine stp ?_ | refine stf ?_); exact hK z0)
                · refine o_idxO rfl rfl rfl rfl (by omega) (by omega) (o' := i) (by omega) ?_; exact hK z0
                · refine o_loadI i hiH rfl rfl rfl rfl ?_; exact hK z0
                iterate 5 (refine stp ?_; exact hK z0)
                · refine o_idxO rfl rfl rfl rfl (by omega) (by omega) (o' := i) (by omega) ?_; exact hK z0
                · refine o_loadB i hiD rfl rfl rfl rfl ?_; rw [hd]; exact hK z0
                iterate 3 ((first | refine stp ?_ | refine stf ?_); exact hK z0)
                · refine o_idxN i rfl rfl rfl rfl rfl hil ?_; intro p; exact hK _
                · (first | refine stp ?_ | refine stf ?_); exact hK z0
                · refine o_int rfl rfl rfl rfl (i_eql_t (by omega)) ?_; exact hK z0
                · refine o_neq rfl rfl rfl rfl (r := false) (by simp) ?_; exact hK z0
                iterate 5 ((first | refine stp ?_ | refine stf ?_); exact hK z0)
                · refine o_idxN i rfl rfl rfl rfl rfl hib ?_; intro p; rw [hg]; exact hK _
                iterate 3 ((first | refine stp ?_ | refine stf ?_); exact hK z0)
                · refine o_idxO rfl rfl rfl rfl (by omega) (by omega) (o' := i) (by omega) ?_; exact hK z0
                · refine o_loadB i hiD rfl rfl rfl rfl ?_; rw [hd]; exact hK z0
                iterate 7 ((first | refine stp ?_ | refine stf ?_); exact hK z0)
                · refine o_neq rfl rfl rfl rfl (r := false) (by simp) ?_; exact hK z0
                iterate 4 (refine stp ?_; exact hK z0)
                · refine o_idxO rfl rfl rfl rfl (by omega) (by omega) (o' := i) (by omega) ?_; exact hK z0
                · refine o_loadB i hiD rfl rfl rfl rfl ?_; rw [hd]; exact hK z0
                iterate 3 (refine stp ?_; exact hK z0)
                · refine o_idxO rfl rfl rfl rfl (by omega) (by omega) (o' := i) (by omega) ?_; exact hK z0
                · refine o_loadI i hiH rfl rfl rfl rfl ?_; exact hK z0
                iterate 3 (refine stp ?_; exact hK z0)
              case loc_7 =>
                iterate 66 (refine AllL.mk ?_ ?_; rotate_left)
                exact AllL.nil
                all_goals (intro c c' z h; first | exact ⟨rfl, rfl⟩ | (skip))
              intro c
              dsimp only [dstOf, kval, kfac, ancE,  ancF, getD_z, getD_s, List.getElem?_cons_zero, List.getElem?_cons_succ, List.getElem?_nil, Option.getD_some, Option.getD_none, List.nil_append, List.cons_append, List.drop_succ_cons, List.drop_zero, Option.getD]
              repeat (first | refine stp ?_ | (refine sti ?_; intro _) | refine stf ?_ | (refine stb ?_; intro _))
              exact G.kp inferInstance (look_sub_cons rfl (look_sub_cons rfl (look_sub_cons rfl (look_sub_cons rfl (look_sub_cons rfl (look_sub_cons rfl look_sub_nil)))))) (List.Sublist.refl _)
      · cases hd : D[i] with
        | true =>
          have e : okA l D H i = false := by rw [hokA]; simp [oddLeft, hd, hz]
          rw [e]
          refine W.draw 66 (⟨?v0_8, fun _ z => []⟩ :: ⟨?v1_8, fun _ z => []⟩ :: ⟨?v2_8, fun _ z => []⟩ :: ⟨fun _ z => z, fun _ z => [fPt z l.left[i]]⟩ :: ⟨?v4_8, fun _ z => []⟩ :: ⟨?v5_8, fun _ z => []⟩ :: ⟨?v6_8, fun _ z => []⟩ :: ⟨?v7_8, fun _ z => []⟩ :: ⟨?v8_8, fun _ z => []⟩ :: ⟨?v9_8, fun _ z => []⟩ :: ⟨fun _ z => z, fun _ z => [fPt z l.left[i]]⟩ :: ⟨?v11_8, fun _ z => []⟩ :: ⟨?v12_8, fun _ z => []⟩ :: ⟨?v13_8, fun _ z => []⟩ :: ⟨?v14_8, fun _ z => []⟩ :: ⟨?v15_8, fun _ z => []⟩ :: ⟨?v16_8, fun _ z => []⟩ :: ⟨?v17_8, fun _ z => []⟩ :: ⟨?v18_8, fun _ z => []⟩ :: ⟨?v19_8, fun _ z => []⟩ :: ⟨?v20_8, fun _ z => []⟩ :: ⟨?v21_8, fun _ z => []⟩ :: ⟨?v22_8, fun _ z => []⟩ :: ⟨?v23_8, fun _ z => []⟩ :: ⟨?v24_8, fun _ z => []⟩ :: ⟨?v25_8, fun _ z => []⟩ :: ⟨?v26_8, fun _ z => []⟩ :: ⟨?v27_8, fun _ z => []⟩ :: ⟨?v28_8, fun _ z => []⟩ :: ⟨fun _ z => z, fun _ z => [fPt z l.left[i]]⟩ :: ⟨?v30_8, fun _ z => []⟩ :: ⟨?v31_8, fun _ z => []⟩ :: ⟨?v32_8, fun _ z => []⟩ :: ⟨?v33_8, fun _ z => []⟩ :: ⟨?v34_8, fun _ z => []⟩ :: ⟨?v35_8, fun _ z => []⟩ :: ⟨?v36_8, fun _ z => []⟩ :: ⟨?v37_8, fun _ z => []⟩ :: ⟨?v38_8, fun _ z => []⟩ :: ⟨?v39_8, fun _ z => []⟩ :: ⟨?v40_8, fun _ z => []⟩ :: ⟨?v41_8, fun _ z => []⟩ :: ⟨?v42_8, fun _ z => []⟩ :: ⟨?v43_8, fun _ z => []⟩ :: ⟨?v44_8, fun _ z => []⟩ :: ⟨?v45_8, fun _ z => []⟩ :: ⟨?v46_8, fun _ z => []⟩ :: ⟨?v47_8, fun _ z => []⟩ :: ⟨?v48_8, fun _ z => []⟩ :: ⟨?v49_8, fun _ z => []⟩ :: ⟨?v50_8, fun _ z => []⟩ :: ⟨?v51_8, fun _ z => []⟩ :: ⟨?v52_8, fun _ z => []⟩ :: ⟨?v53_8, fun _ z => []⟩ :: ⟨?v54_8, fun _ z => []⟩ :: ⟨?v55_8, fun _ z => []⟩ :: ⟨?v56_8, fun _ z => []⟩ :: ⟨?v57_8, fun _ z => []⟩ :: ⟨?v58_8, fun _ z => []⟩ :: ⟨?v59_8, fun _ z => []⟩ :: ⟨?v60_8, fun _ z => []⟩ :: ⟨?v61_8, fun _ z => []⟩ :: ⟨?v62_8, fun _ z => []⟩ :: ⟨?v63_8, fun _ z => []⟩ :: ⟨?v64_8, fun _ z => []⟩ :: ⟨?v65_8, fun _ z => []⟩ :: []) ([] :: [0] :: [] :: [1, 2] :: [3] :: [4] :: [5] :: [6] :: [6, 7] :: [6] :: [6, 8, 9] :: [6, 10] :: [6, 11] :: [6, 12] :: [13] :: [14] :: [14] :: [14, 15, 16] :: [14, 17] :: [14, 18] :: [14, 19] :: [20] :: [21] :: [21] :: [21, 22, 23] :: [21, 24] :: [21] :: [21, 26] :: [21] :: [21, 27, 28] :: [21, 29] :: [21, 30] :: [21, 25, 31] :: [21, 32] :: [33] :: [34] :: [34, 35] :: [34] :: [34, 36, 37] :: [34, 38] :: [34] :: [34] :: [34, 40, 41] :: [34, 42] :: [34, 43] :: [44] :: [44] :: [44, 45, 46] :: [44, 47] :: [44, 48] :: [34, 44, 49] :: [34, 39, 50] :: [34, 51] :: [52] :: [53] :: [53] :: [53, 54, 55] :: [53, 56] :: [53, 57] :: [58] :: [58] :: [58, 59, 60] :: [58, 61] :: [58, 62] :: [53, 58, 63] :: [53, 64] :: []) [65] (by kernel_rfl) (by kernel_rfl) (by kernel_rfl) (by kernel_rfl) ?loc_8 ?ops_8 ?rest_8
          case ops_8 =>
            iterate 66 (refine AllQ.mk ?_ ?_; rotate_left)
            exact AllQ.nil
            all_goals (intro c z0 Φr Lr K hK; dsimp only [dstOf, kval, kfac, ancE, ancF, getD_z, getD_s, List.getElem?_cons_zero, List.getElem?_cons_succ, List.getElem?_nil, Option.getD_some, Option.getD_none, List.nil_append, List.cons_append, Option.getD] at hK ⊢)
            iterate 3 ((first | refine stp ?_ | refine stf ?_); exact hK z0)
            · refine o_idxN i rfl rfl rfl rfl rfl hil ?_; intro p; exact hK _
            iterate 6 ((first | refine stp ?_ | refine stf ?_); exact hK z0)
            · refine o_idxN i rfl rfl rfl rfl rfl hil ?_; intro p; exact hK _
            iterate 6 ((first | refine stp ?_ | refine stf ?_); exact hK z0)
            · refine o_idxO rfl rfl rfl rfl (by omega) (by omega) (o' := i) (by omega) ?_; exact hK z0
            · refine o_loadI i hiH rfl rfl rfl rfl ?_; exact hK z0
            iterate 5 (refine stp ?_; exact hK z0)
            · refine o_idxO rfl rfl rfl rfl (by omega) (by omega) (o' := i) (by omega) ?_; exact hK z0
            · refine o_loadB i hiD rfl rfl rfl rfl ?_; rw [hd]; exact hK z0
            iterate 3 ((first | refine stp ?_ | refine stf ?_); exact hK z0)
            · refine o_idxN i rfl rfl rfl rfl rfl hil ?_; intro p; exact hK _
            · (first | refine stp ?_ | refine stf ?_); exact hK z0
            · refine o_int rfl rfl rfl rfl (i_eql_f (by omega)) ?_; exact hK z0
            · refine o_neq rfl rfl rfl rfl (r := true) (by simp) ?_; exact hK z0
            iterate 33 ((first | refine stp ?_ | refine stf ?_); exact hK z0)
          case loc_8 =>
            iterate 66 (refine AllL.mk ?_ ?_; rotate_left)
            exact AllL.nil
            all_goals (intro c c' z h; first | exact ⟨rfl, rfl⟩ | (skip))
          intro c
          dsimp only [dstOf, kval, kfac, ancE,  ancF, getD_z, getD_s, List.getElem?_cons_zero, List.getElem?_cons_succ, List.getElem?_nil, Option.getD_some, Option.getD_none, List.nil_append, List.cons_append, List.drop_succ_cons, List.drop_zero, Option.getD]
          repeat (first | refine stp ?_ | (refine sti ?_; intro _) | refine stf ?_ | (refine stb ?_; intro _))
          exact G.kp inferInstance (look_sub_cons rfl (look_sub_cons rfl (look_sub_cons rfl (look_sub_cons rfl (look_sub_cons rfl (look_sub_cons rfl look_sub_nil)))))) (List.Sublist.refl _)
        | false =>
          by_cases h1' : H[i] = 1
          · cases hg : l.begun[i] with
            | false =>
              have e : okA l D H i = false := by rw [hokA]; simp [oddLeft, hd, hz, hg, h1']
              rw [e]
              refine W.draw 66 (⟨?v0_9, fun _ z => []⟩ :: ⟨?v1_9, fun _ z => []⟩ :: ⟨?v2_9, fun _ z => []⟩ :: ⟨fun _ z => z, fun _ z => [fPt z l.left[i]]⟩ :: ⟨?v4_9, fun _ z => []⟩ :: ⟨?v5_9, fun _ z => []⟩ :: ⟨?v6_9, fun _ z => []⟩ :: ⟨?v7_9, fun _ z => []⟩ :: ⟨?v8_9, fun _ z => []⟩ :: ⟨?v9_9, fun _ z => []⟩ :: ⟨fun _ z => z, fun _ z => [fPt z l.left[i]]⟩ :: ⟨?v11_9, fun _ z => []⟩ :: ⟨?v12_9, fun _ z => []⟩ :: ⟨?v13_9, fun _ z => []⟩ :: ⟨?v14_9, fun _ z => []⟩ :: ⟨?v15_9, fun _ z => []⟩ :: ⟨?v16_9, fun _ z => []⟩ :: ⟨?v17_9, fun _ z => []⟩ :: ⟨?v18_9, fun _ z => []⟩ :: ⟨?v19_9, fun _ z => []⟩ :: ⟨?v20_9, fun _ z => []⟩ :: ⟨?v21_9, fun _ z => []⟩ :: ⟨?v22_9, fun _ z => []⟩ :: ⟨?v23_9, fun _ z => []⟩ :: ⟨?v24_9, fun _ z => []⟩ :: ⟨?v25_9, fun _ z => []⟩ :: ⟨?v26_9, fun _ z => []⟩ :: ⟨?v27_9, fun _ z => []⟩ :: ⟨?v28_9, fun _ z => []⟩ :: ⟨fun _ z => z, fun _ z => [fPt z l.left[i]]⟩ :: ⟨?v30_9, fun _ z => []⟩ :: ⟨?v31_9, fun _ z => []⟩ :: ⟨?v32_9, fun _ z => []⟩ :: ⟨?v33_9, fun _ z => []⟩ :: ⟨?v34_9, fun _ z => []⟩ :: ⟨?v35_9, fun _ z => []⟩ :: ⟨?v36_9, fun _ z => []⟩ :: ⟨?v37_9, fun _ z => []⟩ :: ⟨fun _ z => z, fun _ z => [fPt z false]⟩ :: ⟨?v39_9, fun _ z => []⟩ :: ⟨?v40_9, fun _ z => []⟩ :: ⟨?v41_9, fun _ z => []⟩ :: ⟨?v42_9, fun _ z => []⟩ :: ⟨?v43_9, fun _ z => []⟩ :: ⟨?v44_9, fun _ z => []⟩ :: ⟨?v45_9, fun _ z => []⟩ :: ⟨?v46_9, fun _ z => []⟩ :: ⟨?v47_9, fun _ z => []⟩ :: ⟨?v48_9, fun _ z => []⟩ :: ⟨?v49_9, fun _ z => []⟩ :: ⟨?v50_9, fun _ z => []⟩ :: ⟨?v51_9, fun _ z => []⟩ :: ⟨?v52_9, fun _ z => []⟩ :: ⟨?v53_9, fun _ z => []⟩ :: ⟨?v54_9, fun _ z => []⟩ :: ⟨?v55_9, fun _ z => []⟩ :: ⟨?v56_9, fun _ z => []⟩ :: ⟨?v57_9, fun _ z => []⟩ :: ⟨?v58_9, fun _ z => []⟩ :: ⟨?v59_9, fun _ z => []⟩ :: ⟨?v60_9, fun _ z => []⟩ :: ⟨?v61_9, fun _ z => []⟩ :: ⟨?v62_9, fun _ z => []⟩ :: ⟨?v63_9, fun _ z => []⟩ :: ⟨?v64_9, fun _ z => []⟩ :: ⟨?v65_9, fun _ z => []⟩ :: []) ([] :: [0] :: [] :: [1, 2] :: [3] :: [4] :: [5] :: [6] :: [6, 7] :: [6] :: [6, 8, 9] :: [6, 10] :: [6, 11] :: [6, 12] :: [13] :: [14] :: [14] :: [14, 15, 16] :: [14, 17] :: [14, 18] :: [14, 19] :: [20] :: [21] :: [21] :: [21, 22, 23] :: [21, 24] :: [21] :: [21, 26] :: [21] :: [21, 27, 28] :: [21, 29] :: [21, 30] :: [21, 25, 31] :: [21, 32] :: [33] :: [34] :: [34, 35] :: [34] :: [34, 36, 37] :: [34, 38] :: [34] :: [34] :: [34, 40, 41] :: [34, 42] :: [34, 43] :: [44] :: [44] :: [44, 45, 46] :: [44, 47] :: [44, 48] :: [34, 44, 49] :: [34, 39, 50] :: [34, 51] :: [52] :: [53] :: [53] :: [53, 54, 55] :: [53, 56] :: [53, 57] :: [58] :: [58] :: [58, 59, 60] :: [58, 61] :: [58, 62] :: [53, 58, 63] :: [53, 64] :: []) [65] (by kernel_rfl) (by kernel_rfl) (by kernel_rfl) (by kernel_rfl) ?loc_9 ?ops_9 ?rest_9
              case ops_9 =>
                iterate 66 (refine AllQ.mk ?_ ?_; rotate_left)
                exact AllQ.nil
                all_goals (intro c z0 Φr Lr K hK; dsimp only [dstOf, kval, kfac, ancE, ancF, getD_z, getD_s, List.getElem?_cons_zero, List.getElem?_cons_succ, List.getElem?_nil, Option.getD_some, Option.getD_none, List.nil_append, List.cons_append, Option.getD] at hK ⊢)
                iterate 3 ((first | refine stp ?_ | refine stf ?_); exact hK z0)
                · refine o_idxN i rfl rfl rfl rfl rfl hil ?_; intro p; exact hK _
                iterate 6 ((first | refine stp ?_ | refine stf ?_); exact hK z0)
                · refine o_idxN i rfl rfl rfl rfl rfl hil ?_; intro p; exact hK _
                iterate 6 ((first | refine stp ?_ | refine stf ?_); exact hK z0)
                · refine o_idxO rfl rfl rfl rfl (by omega) (by omega) (o' := i) (by omega) ?_; exact hK z0
                · refine o_loadI i hiH rfl rfl rfl rfl ?_; exact hK z0
                iterate 5 (refine stp ?_; exact hK z0)
                · refine o_idxO rfl rfl rfl rfl (by omega) (by omega) (o' := i) (by omega) ?_; exact hK z0
                · refine o_loadB i hiD rfl rfl rfl rfl ?_; rw [hd]; exact hK z0
                iterate 3 ((first | refine stp ?_ | refine stf ?_); exact hK z0)
                · refine o_idxN i rfl rfl rfl rfl rfl hil ?_; intro p; exact hK _
                · (first | refine stp ?_ | refine stf ?_); exact hK z0
                · refine o_int rfl rfl rfl rfl (i_eql_f (by omega)) ?_; exact hK z0
                · refine o_neq rfl rfl rfl rfl (r := false) (by simp) ?_; exact hK z0
                iterate 5 ((first | refine stp ?_ | refine stf ?_); exact hK z0)
                · refine o_idxN i rfl rfl rfl rfl rfl hib ?_; intro p; rw [hg]; exact hK _
                iterate 3 ((first | refine stp ?_ | refine stf ?_); exact hK z0)
                · refine o_idxO rfl rfl rfl rfl (by omega) (by omega) (o' := i) (by omega) ?_; exact hK z0
                · refine o_loadB i hiD rfl rfl rfl rfl ?_; rw [hd]; exact hK z0
                iterate 3 (refine stp ?_; exact hK z0)
                · refine o_idxO rfl rfl rfl rfl (by omega) (by omega) (o' := i) (by omega) ?_; exact hK z0
                · refine o_loadI i hiH rfl rfl rfl rfl ?_; exact hK z0
                · refine o_int rfl rfl rfl rfl (i_eql_t (by omega)) ?_; exact hK z0
                · refine stp ?_; exact hK z0
                · refine o_neq rfl rfl rfl rfl (r := true) (by simp) ?_; exact hK z0
                iterate 14 ((first | refine stp ?_ | refine stf ?_); exact hK z0)
              case loc_9 =>
                iterate 66 (refine AllL.mk ?_ ?_; rotate_left)
                exact AllL.nil
                all_goals (intro c c' z h; first | exact ⟨rfl, rfl⟩ | (skip))
              intro c
              dsimp only [dstOf, kval, kfac, ancE,  ancF, getD_z, getD_s, List.getElem?_cons_zero, List.getElem?_cons_succ, List.getElem?_nil, Option.getD_some, Option.getD_none, List.nil_append, List.cons_append, List.drop_succ_cons, List.drop_zero, Option.getD]
              repeat (first | refine stp ?_ | (refine sti ?_; intro _) | refine stf ?_ | (refine stb ?_; intro _))
              exact G.kp inferInstance (look_sub_cons rfl (look_sub_cons rfl (look_sub_cons rfl (look_sub_cons rfl (look_sub_cons rfl (look_sub_cons rfl look_sub_nil)))))) (List.Sublist.refl _)
            | true =>
              have e : okA l D H i = true := by rw [hokA]; simp [oddLeft, hd, hz, hg, h1', hn, hb, ht]
              rw [e]
              refine W.draw 66 (⟨?v0_10, fun _ z => []⟩ :: ⟨?v1_10, fun _ z => []⟩ :: ⟨?v2_10, fun _ z => []⟩ :: ⟨fun _ z => z, fun _ z => [fPt z l.left[i]]⟩ :: ⟨?v4_10, fun _ z => []⟩ :: ⟨?v5_10, fun _ z => []⟩ :: ⟨?v6_10, fun _ z => []⟩ :: ⟨?v7_10, fun _ z => []⟩ :: ⟨?v8_10, fun _ z => []⟩ :: ⟨?v9_10, fun _ z => []⟩ :: ⟨fun _ z => z, fun _ z => [fPt z l.left[i]]⟩ :: ⟨?v11_10, fun _ z => []⟩ :: ⟨?v12_10, fun _ z => []⟩ :: ⟨?v13_10, fun _ z => []⟩ :: ⟨?v14_10, fun _ z => []⟩ :: ⟨?v15_10, fun _ z => []⟩ :: ⟨?v16_10, fun _ z => []⟩ :: ⟨?v17_10, fun _ z => []⟩ :: ⟨?v18_10, fun _ z => []⟩ :: ⟨?v19_10, fun _ z => []⟩ :: ⟨?v20_10, fun _ z => []⟩ :: ⟨?v21_10, fun _ z => []⟩ :: ⟨?v22_10, fun _ z => []⟩ :: ⟨?v23_10, fun _ z => []⟩ :: ⟨?v24_10, fun _ z => []⟩ :: ⟨?v25_10, fun _ z => []⟩ :: ⟨?v26_10, fun _ z => []⟩ :: ⟨?v27_10, fun _ z => []⟩ :: ⟨?v28_10, fun _ z => []⟩ :: ⟨fun _ z => z, fun _ z => [fPt z l.left[i]]⟩ :: ⟨?v30_10, fun _ z => []⟩ :: ⟨?v31_10, fun _ z => []⟩ :: ⟨?v32_10, fun _ z => []⟩ :: ⟨?v33_10, fun _ z => []⟩ :: ⟨?v34_10, fun _ z => []⟩ :: ⟨?v35_10, fun _ z => []⟩ :: ⟨?v36_10, fun _ z => []⟩ :: ⟨?v37_10, fun _ z => []⟩ :: ⟨fun _ z => z, fun _ z => [fPt z true]⟩ :: ⟨?v39_10, fun _ z => []⟩ :: ⟨?v40_10, fun _ z => []⟩ :: ⟨?v41_10, fun _ z => []⟩ :: ⟨?v42_10, fun _ z => []⟩ :: ⟨?v43_10, fun _ z => []⟩ :: ⟨?v44_10, fun _ z => []⟩ :: ⟨?v45_10, fun _ z => []⟩ :: ⟨?v46_10, fun _ z => []⟩ :: ⟨?v47_10, fun _ z => []⟩ :: ⟨?v48_10, fun _ z => []⟩ :: ⟨?v49_10, fun _ z => []⟩ :: ⟨?v50_10, fun _ z => []⟩ :: ⟨?v51_10, fun _ z => []⟩ :: ⟨?v52_10, fun _ z => []⟩ :: ⟨?v53_10, fun _ z => []⟩ :: ⟨?v54_10, fun _ z => []⟩ :: ⟨?v55_10, fun _ z => []⟩ :: ⟨?v56_10, fun _ z => []⟩ :: ⟨?v57_10, fun _ z => []⟩ :: ⟨?v58_10, fun _ z => []⟩ :: ⟨?v59_10, fun _ z => []⟩ :: ⟨?v60_10, fun _ z => []⟩ :: ⟨?v61_10, fun _ z => []⟩ :: ⟨?v62_10, fun _ z => []⟩ :: ⟨?v63_10, fun _ z => []⟩ :: ⟨?v64_10, fun _ z => []⟩ :: ⟨?v65_10, fun _ z => []⟩ :: []) ([] :: [0] :: [] :: [1, 2] :: [3] :: [4] :: [5] :: [6] :: [6, 7] :: [6] :: [6, 8, 9] :: [6, 10] :: [6, 11] :: [6, 12] :: [13] :: [14] :: [14] :: [14, 15, 16] :: [14, 17] :: [14, 18] :: [14, 19] :: [20] :: [21] :: [21] :: [21, 22, 23] :: [21, 24] :: [21] :: [21, 26] :: [21] :: [21, 27, 28] :: [21, 29] :: [21, 30] :: [21, 25, 31] :: [21, 32] :: [33] :: [34] :: [34, 35] :: [34] :: [34, 36, 37] :: [34, 38] :: [34] :: [34] :: [34, 40, 41] :: [34, 42] :: [34, 43] :: [44] :: [44] :: [44, 45, 46] :: [44, 47] :: [44, 48] :: [34, 44, 49] :: [34, 39, 50] :: [34, 51] :: [52] :: [53] :: [53] :: [53, 54, 55] :: [53, 56] :: [53, 57] :: [58] :: [58] :: [58, 59, 60] :: [58, 61] :: [58, 62] :: [53, 58, 63] :: [53, 64] :: []) [65] (by kernel_rfl) (by kernel_rfl) (by kernel_rfl) (by kernel_rfl) ?loc_10 ?ops_10 ?rest_10
              case ops_10 =>
                iterate 66 (refine AllQ.mk ?_ ?_; rotate_left)
                exact AllQ.nil
                all_goals (intro c z0 Φr Lr K hK; dsimp only [dstOf, kval, kfac, ancE, ancF, getD_z, getD_s, List.getElem?_cons_zero, List.getElem?_cons_succ, List.getElem?_nil, Option.getD_some, Option.getD_none, List.nil_append, List.cons_append, Option.getD] at hK ⊢)
                iterate 3 ((first | refine stp ?_ | refine stf ?_); exact hK z0)
                · refine o_idxN i rfl rfl rfl rfl rfl hil ?_; intro p; exact hK _
                iterate 6 ((first | refine stp ?_ | refine stf ?_); exact hK z0)
                · refine o_idxN i rfl rfl rfl rfl rfl hil ?_; intro p; exact hK _
                iterate 6 ((first | refine stp ?_ | refine stf ?_); exact hK z0)
                · refine o_idxO rfl rfl rfl rfl (by omega) (by omega) (o' := i) (by omega) ?_; exact hK z0
                · refine o_loadI i hiH rfl rfl rfl rfl ?_; exact hK z0
                iterate 5 (refine stp ?_; exact hK z0)
                · refine o_idxO rfl rfl rfl rfl (by omega) (by omega) (o' := i) (by omega) ?_; exact hK z0
                · refine o_loadB i hiD rfl rfl rfl rfl ?_; rw [hd]; exact hK z0
                iterate 3 ((first | refine stp ?_ | refine stf ?_); exact hK z0)
                · refine o_idxN i rfl rfl rfl rfl rfl hil ?_; intro p; exact hK _
                · (first | refine stp ?_ | refine stf ?_); exact hK z0
                · refine o_int rfl rfl rfl rfl (i_eql_f (by omega)) ?_; exact hK z0
                · refine o_neq rfl rfl rfl rfl (r := false) (by simp) ?_; exact hK z0
                iterate 5 ((first | refine stp ?_ | refine stf ?_); exact hK z0)
                · refine o_idxN i rfl rfl rfl rfl rfl hib ?_; intro p; rw [hg]; exact hK _
                iterate 3 ((first | refine stp ?_ | refine stf ?_); exact hK z0)
                · refine o_idxO rfl rfl rfl rfl (by omega) (by omega) (o' := i) (by omega) ?_; exact hK z0
                · refine o_loadB i hiD rfl rfl rfl rfl ?_; rw [hd]; exact hK z0
                iterate 3 (refine stp ?_; exact hK z0)
                · refine o_idxO rfl rfl rfl rfl (by omega) (by omega) (o' := i) (by omega) ?_; exact hK z0
                · refine o_loadI i hiH rfl rfl rfl rfl ?_; exact hK z0
                · refine o_int rfl rfl rfl rfl (i_eql_t (by omega)) ?_; exact hK z0
                · refine stp ?_; exact hK z0
                · refine o_neq rfl rfl rfl rfl (r := false) (by simp) ?_; exact hK z0
                iterate 4 (refine stp ?_; exact hK z0)
                · refine o_idxO rfl rfl rfl rfl (by omega) (by omega) (o' := i) (by omega) ?_; exact hK z0
                · refine o_loadB i hiD rfl rfl rfl rfl ?_; rw [hd]; exact hK z0
                iterate 8 ((first | refine stp ?_ | refine stf ?_); exact hK z0)
              case loc_10 =>
                iterate 66 (refine AllL.mk ?_ ?_; rotate_left)
                exact AllL.nil
                all_goals (intro c c' z h; first | exact ⟨rfl, rfl⟩ | (skip))
              intro c
              dsimp only [dstOf, kval, kfac, ancE,  ancF, getD_z, getD_s, List.getElem?_cons_zero, List.getElem?_cons_succ, List.getElem?_nil, Option.getD_some, Option.getD_none, List.nil_append, List.cons_append, List.drop_succ_cons, List.drop_zero, Option.getD]
              repeat (first | refine stp ?_ | (refine sti ?_; intro _) | refine stf ?_ | (refine stb ?_; intro _))
              exact G.kp inferInstance (look_sub_cons rfl (look_sub_cons rfl (look_sub_cons rfl (look_sub_cons rfl (look_sub_cons rfl (look_sub_cons rfl look_sub_nil)))))) (List.Sublist.refl _)
          · cases hg : l.begun[i] with
            | false =>
              have e : okA l D H i = true := by rw [hokA]; simp [oddLeft, hd, hz, hg, h1', hn, hb, ht]
              rw [e]
              refine W.draw 66 (⟨?v0_11, fun _ z => []⟩ :: ⟨?v1_11, fun _ z => []⟩ :: ⟨?v2_11, fun _ z => []⟩ :: ⟨fun _ z => z, fun _ z => [fPt z l.left[i]]⟩ :: ⟨?v4_11, fun _ z => []⟩ :: ⟨?v5_11, fun _ z => []⟩ :: ⟨?v6_11, fun _ z => []⟩ :: ⟨?v7_11, fun _ z => []⟩ :: ⟨?v8_11, fun _ z => []⟩ :: ⟨?v9_11, fun _ z => []⟩ :: ⟨fun _ z => z, fun _ z => [fPt z l.left[i]]⟩ :: ⟨?v11_11, fun _ z => []⟩ :: ⟨?v12_11, fun _ z => []⟩ :: ⟨?v13_11, fun _ z => []⟩ :: ⟨?v14_11, fun _ z => []⟩ :: ⟨?v15_11, fun _ z => []⟩ :: ⟨?v16_11, fun _ z => []⟩ :: ⟨?v17_11, fun _ z => []⟩ :: ⟨?v18_11, fun _ z => []⟩ :: ⟨?v19_11, fun _ z => []⟩ :: ⟨?v20_11, fun _ z => []⟩ :: ⟨?v21_11, fun _ z => []⟩ :: ⟨?v22_11, fun _ z => []⟩ :: ⟨?v23_11, fun _ z => []⟩ :: ⟨?v24_11, fun _ z => []⟩ :: ⟨?v25_11, fun _ z => []⟩ :: ⟨?v26_11, fun _ z => []⟩ :: ⟨?v27_11, fun _ z => []⟩ :: ⟨?v28_11, fun _ z => []⟩ :: ⟨fun _ z => z, fun _ z => [fPt z l.left[i]]⟩ :: ⟨?v30_11, fun _ z => []⟩ :: ⟨?v31_11, fun _ z => []⟩ :: ⟨?v32_11, fun _ z => []⟩ :: ⟨?v33_11, fun _ z => []⟩ :: ⟨?v34_11, fun _ z => []⟩ :: ⟨?v35_11, fun _ z => []⟩ :: ⟨?v36_11, fun _ z => []⟩ :: ⟨?v37_11, fun _ z => []⟩ :: ⟨fun _ z => z, fun _ z => [fPt z false]⟩ :: ⟨?v39_11, fun _ z => []⟩ :: ⟨?v40_11, fun _ z => []⟩ :: ⟨?v41_11, fun _ z => []⟩ :: ⟨?v42_11, fun _ z => []⟩ :: ⟨?v43_11, fun _ z => []⟩ :: ⟨?v44_11, fun _ z => []⟩ :: ⟨?v45_11, fun _ z => []⟩ :: ⟨?v46_11, fun _ z => []⟩ :: ⟨?v47_11, fun _ z => []⟩ :: ⟨?v48_11, fun _ z => []⟩ :: ⟨?v49_11, fun _ z => []⟩ :: ⟨?v50_11, fun _ z => []⟩ :: ⟨?v51_11, fun _ z => []⟩ :: ⟨?v52_11, fun _ z => []⟩ :: ⟨?v53_11, fun _ z => []⟩ :: ⟨?v54_11, fun _ z => []⟩ :: ⟨?v55_11, fun _ z => []⟩ :: ⟨?v56_11, fun _ z => []⟩ :: ⟨?v57_11, fun _ z => []⟩ :: ⟨?v58_11, fun _ z => []⟩ :: ⟨?v59_11, fun _ z => []⟩ :: ⟨?v60_11, fun _ z => []⟩ :: ⟨?v61_11, fun _ z => []⟩ :: ⟨?v62_11, fun _ z => []⟩ :: ⟨?v63_11, fun _ z => []⟩ :: ⟨?v64_11, fun _ z => []⟩ :: ⟨?v65_11, fun _ z => []⟩ :: []) ([] :: [0] :: [] :: [1, 2] :: [3] :: [4] :: [5] :: [6] :: [6, 7] :: [6] :: [6, 8, 9] :: [6, 10] :: [6, 11] :: [6, 12] :: [13] :: [14] :: [14] :: [14, 15, 16] :: [14, 17] :: [14, 18] :: [14, 19] :: [20] :: [21] :: [21] :: [21, 22, 23] :: [21, 24] :: [21] :: [21, 26] :: [21] :: [21, 27, 28] :: [21, 29] :: [21, 30] :: [21, 25, 31] :: [21, 32] :: [33] :: [34] :: [34, 35] :: [34] :: [34, 36, 37] :: [34, 38] :: [34] :: [34] :: [34, 40, 41] :: [34, 42] :: [34, 43] :: [44] :: [44] :: [44, 45, 46] :: [44, 47] :: [44, 48] :: [34, 44, 49] :: [34, 39, 50] :: [34, 51] :: [52] :: [53] :: [53] :: [53, 54, 55] :: [53, 56] :: [53, 57] :: [58] :: [58] :: [58, 59, 60] :: [58, 61] :: [58, 62] :: [53, 58, 63] :: [53, 64] :: []) [65] (by kernel_rfl) (by kernel_rfl) (by kernel_rfl) (by kernel_rfl) ?loc_11 ?ops_11 ?rest_11
              case ops_11 =>
                iterate 66 (refine AllQ.mk ?_ ?_; rotate_left)
                exact AllQ.nil
                all_goals (intro c z0 Φr Lr K hK; dsimp only [dstOf, kval, kfac, ancE, ancF, getD_z, getD_s, List.getElem?_cons_zero, List.getElem?_cons_succ, List.getElem?_nil, Option.getD_some, Option.getD_none, List.nil_append, List.cons_append, Option.getD] at hK ⊢)
                iterate 3 ((first | refine stp ?_ | refine stf ?_); exact hK z0)
                · refine o_idxN i rfl rfl rfl rfl rfl hil ?_; intro p; exact hK _
                iterate 6 ((first | refine stp ?_ | refine stf ?_); exact hK z0)
                · refine o_idxN i rfl rfl rfl rfl rfl hil ?_; intro p; exact hK _
                iterate 6 ((first | refine stp ?_ | refine stf ?_); exact hK z0)
                · refine o_idxO rfl rfl rfl rfl (by omega) (by omega) (o' := i) (by omega) ?_; exact hK z0
                · refine o_loadI i hiH rfl rfl rfl rfl ?_; exact hK z0
                iterate 5 (refine stp ?_; exact hK z0)
                · refine o_idxO rfl rfl rfl rfl (by omega) (by omega) (o' := i) (by omega) ?_; exact hK z0
                · refine o_loadB i hiD rfl rfl rfl rfl ?_; rw [hd]; exact hK z0
                iterate 3 ((first | refine stp ?_ | refine stf ?_); exact hK z0)
                · refine o_idxN i rfl rfl rfl rfl rfl hil ?_; intro p; exact hK _
                · (first | refine stp ?_ | refine stf ?_); exact hK z0
                · refine o_int rfl rfl rfl rfl (i_eql_f (by omega)) ?_; exact hK z0
                · refine o_neq rfl rfl rfl rfl (r := false) (by simp) ?_; exact hK z0
                iterate 5 ((first | refine stp ?_ | refine stf ?_); exact hK z0)
                · refine o_idxN i rfl rfl rfl rfl rfl hib ?_; intro p; rw [hg]; exact hK _
                iterate 3 ((first | refine stp ?_ | refine stf ?_); exact hK z0)
                · refine o_idxO rfl rfl rfl rfl (by omega) (by omega) (o' := i) (by omega) ?_; exact hK z0
                · refine o_loadB i hiD rfl rfl rfl rfl ?_; rw [hd]; exact hK z0
                iterate 3 (refine stp ?_; exact hK z0)
                · refine o_idxO rfl rfl rfl rfl (by omega) (by omega) (o' := i) (by omega) ?_; exact hK z0
                · refine o_loadI i hiH rfl rfl rfl rfl ?_; exact hK z0
                · refine o_int rfl rfl rfl rfl (i_eql_f (by omega)) ?_; exact hK z0
                · refine stp ?_; exact hK z0
                · refine o_neq rfl rfl rfl rfl (r := false) (by simp) ?_; exact hK z0
                iterate 4 (refine stp ?_; exact hK z0)
                · refine o_idxO rfl rfl rfl rfl (by omega) (by omega) (o' := i) (by omega) ?_; exact hK z0
                · refine o_loadB i hiD rfl rfl rfl rfl ?_; rw [hd]; exact hK z0
                iterate 8 ((first | refine stp ?_ | refine stf ?_); exact hK z0)
              case loc_11 =>
                iterate 66 (refine AllL.mk ?_ ?_; rotate_left)
                exact AllL.nil
                all_goals (intro c c' z h; first | exact ⟨rfl, rfl⟩ | (skip))
              intro c
              dsimp only [dstOf, kval, kfac, ancE,  ancF, getD_z, getD_s, List.getElem?_cons_zero, List.getElem?_cons_succ, List.getElem?_nil, Option.getD_some, Option.getD_none, List.nil_append, List.cons_append, List.drop_succ_cons, List.drop_zero, Option.getD]
              repeat (first | refine stp ?_ | (refine sti ?_; intro _) | refine stf ?_ | (refine stb ?_; intro _))
              exact G.kp inferInstance (look_sub_cons rfl (look_sub_cons rfl (look_sub_cons rfl (look_sub_cons rfl (look_sub_cons rfl (look_sub_cons rfl look_sub_nil)))))) (List.Sublist.refl _)
            | true =>
              have e : okA l D H i = false := by rw [hokA]; simp [oddLeft, hd, hz, hg, h1']
              rw [e]
              refine W.draw 66 (⟨?v0_12, fun _ z => []⟩ :: ⟨?v1_12, fun _ z => []⟩ :: ⟨?v2_12, fun _ z => []⟩ :: ⟨fun _ z => z, fun _ z => [fPt z l.left[i]]⟩ :: ⟨?v4_12, fun _ z => []⟩ :: ⟨?v5_12, fun _ z => []⟩ :: ⟨?v6_12, fun _ z => []⟩ :: ⟨?v7_12, fun _ z => []⟩ :: ⟨?v8_12, fun _ z => []⟩ :: ⟨?v9_12, fun _ z => []⟩ :: ⟨fun _ z => z, fun _ z => [fPt z l.left[i]]⟩ :: ⟨?v11_12, fun _ z => []⟩ :: ⟨?v12_12, fun _ z => []⟩ :: ⟨?v13_12, fun _ z => []⟩ :: ⟨?v14_12, fun _ z => []⟩ :: ⟨?v15_12, fun _ z => []⟩ :: ⟨?v16_12, fun _ z => []⟩ :: ⟨?v17_12, fun _ z => []⟩ :: ⟨?v18_12, fun _ z => []⟩ :: ⟨?v19_12, fun _ z => []⟩ :: ⟨?v20_12, fun _ z => []⟩ :: ⟨?v21_12, fun _ z => []⟩ :: ⟨?v22_12, fun _ z => []⟩ :: ⟨?v23_12, fun _ z => []⟩ :: ⟨?v24_12, fun _ z => []⟩ :: ⟨?v25_12, fun _ z => []⟩ :: ⟨?v26_12, fun _ z => []⟩ :: ⟨?v27_12, fun _ z => []⟩ :: ⟨?v28_12, fun _ z => []⟩ :: ⟨fun _ z => z, fun _ z => [fPt z l.left[i]]⟩ :: ⟨?v30_12, fun _ z => []⟩ :: ⟨?v31_12, fun _ z => []⟩ :: ⟨?v32_12, fun _ z => []⟩ :: ⟨?v33_12, fun _ z => []⟩ :: ⟨?v34_12, fun _ z => []⟩ :: ⟨?v35_12, fun _ z => []⟩ :: ⟨?v36_12, fun _ z => []⟩ :: ⟨?v37_12, fun _ z => []⟩ :: ⟨fun _ z => z, fun _ z => [fPt z true]⟩ :: ⟨?v39_12, fun _ z => []⟩ :: ⟨?v40_12, fun _ z => []⟩ :: ⟨?v41_12, fun _ z => []⟩ :: ⟨?v42_12, fun _ z => []⟩ :: ⟨?v43_12, fun _ z => []⟩ :: ⟨?v44_12, fun _ z => []⟩ :: ⟨?v45_12, fun _ z => []⟩ :: ⟨?v46_12, fun _ z => []⟩ :: ⟨?v47_12, fun _ z => []⟩ :: ⟨?v48_12, fun _ z => []⟩ :: ⟨?v49_12, fun _ z => []⟩ :: ⟨?v50_12, fun _ z => []⟩ :: ⟨?v51_12, fun _ z => []⟩ :: ⟨?v52_12, fun _ z => []⟩ :: ⟨?v53_12, fun _ z => []⟩ :: ⟨?v54_12, fun _ z => []⟩ :: ⟨?v55_12, fun _ z => []⟩ :: ⟨?v56_12, fun _ z => []⟩ :: ⟨?v57_12, fun _ z => []⟩ :: ⟨?v58_12, fun _ z => []⟩ :: ⟨?v59_12, fun _ z => []⟩ :: ⟨?v60_12, fun _ z => []⟩ :: ⟨?v61_12, fun _ z => []⟩ :: ⟨?v62_12, fun _ z => []⟩ :: ⟨?v63_12, fun _ z => []⟩ :: ⟨?v64_12, fun _ z => []⟩ :: ⟨?v65_12, fun _ z => []⟩ :: []) ([] :: [0] :: [] :: [1, 2] :: [3] :: [4] :: [5] :: [6] :: [6, 7] :: [6] :: [6, 8, 9] :: [6, 10] :: [6, 11] :: [6, 12] :: [13] :: [14] :: [14] :: [14, 15, 16] :: [14, 17] :: [14, 18] :: [14, 19] :: [20] :: [21] :: [21] :: [21, 22, 23] :: [21, 24] :: [21] :: [21, 26] :: [21] :: [21, 27, 28] :: [21, 29] :: [21, 30] :: [21, 25, 31] :: [21, 32] :: [33] :: [34] :: [34, 35] :: [34] :: [34, 36, 37] :: [34, 38] :: [34] :: [34] :: [34, 40, 41] :: [34, 42] :: [34, 43] :: [44] :: [44] :: [44, 45, 46] :: [44, 47] :: [44, 48] :: [34, 44, 49] :: [34, 39, 50] :: [34, 51] :: [52] :: [53] :: [53] :: [53, 54, 55] :: [53, 56] :: [53, 57] :: [58] :: [58] :: [58, 59, 60] :: [58, 61] :: [58, 62] :: [53, 58, 63] :: [53, 64] :: []) [65] (by kernel_rfl) (by kernel_rfl) (by kernel_rfl) (by kernel_rfl) ?loc_12 ?ops_12 ?rest_12
              case ops_12 =>
                iterate 66 (refine AllQ.mk ?_ ?_; rotate_left)
                exact AllQ.nil
                all_goals (intro c z0 Φr Lr K hK; dsimp only [dstOf, kval, kfac, ancE, ancF, getD_z, getD_s, List.getElem?_cons_zero, List.getElem?_cons_succ, List.getElem?_nil, Option.getD_some, Option.getD_none, List.nil_append, List.cons_append, Option.getD] at hK ⊢)
                iterate 3 ((first | refine stp ?_ | refine stf ?_); exact hK z0)
                · refine o_idxN i rfl rfl rfl rfl rfl hil ?_; intro p; exact hK _
                iterate 6 ((first | refine stp ?_ | refine stf ?_); exact hK z0)
                · refine o_idxN i rfl rfl rfl rfl rfl hil ?_; intro p; exact hK _
                iterate 6 ((first | refine stp ?_ | refine stf ?_); exact hK z0)
                · refine o_idxO rfl rfl rfl rfl (by omega) (by omega) (o' := i) (by omega) ?_; exact hK z0
                · refine o_loadI i hiH rfl rfl rfl rfl ?_; exact hK z0
                iterate 5 (refine stp ?_; exact hK z0)
                · refine o_idxO rfl rfl rfl rfl (by omega) (by omega) (o' := i) (by omega) ?_; exact hK z0
                · refine o_loadB i hiD rfl rfl rfl rfl ?_; rw [hd]; exact hK z0
                iterate 3 ((first | refine stp ?_ | refine stf ?_); exact hK z0)
                · refine o_idxN i rfl rfl rfl rfl rfl hil ?_; intro p; exact hK _
                · (first | refine stp ?_ | refine stf ?_); exact hK z0
                · refine o_int rfl rfl rfl rfl (i_eql_f (by omega)) ?_; exact hK z0
                · refine o_neq rfl rfl rfl rfl (r := false) (by simp) ?_; exact hK z0
                iterate 5 ((first | refine stp ?_ | refine stf ?_); exact hK z0)
                · refine o_idxN i rfl rfl rfl rfl rfl hib ?_; intro p; rw [hg]; exact hK _
                iterate 3 ((first | refine stp ?_ | refine stf ?_); exact hK z0)
                · refine o_idxO rfl rfl rfl rfl (by omega) (by omega) (o' := i) (by omega) ?_; exact hK z0
                · refine o_loadB i hiD rfl rfl rfl rfl ?_; rw [hd]; exact hK z0
                iterate 3 (refine stp ?_; exact hK z0)
                · refine o_idxO rfl rfl rfl rfl (by omega) (by omega) (o' := i) (by omega) ?_; exact hK z0
                · refine o_loadI i hiH rfl rfl rfl rfl ?_; exact hK z0
                · refine o_int rfl rfl rfl rfl (i_eql_f (by omega)) ?_; exact hK z0
                · refine stp ?_; exact hK z0
                · refine o_neq rfl rfl rfl rfl (r := true) (by simp) ?_; exact hK z0
                iterate 14 ((first | refine stp ?_ | refine stf ?_); exact hK z0)
              case loc_12 =>
                iterate 66 (refine AllL.mk ?_ ?_; rotate_left)
                exact AllL.nil
                all_goals (intro c c' z h; first | exact ⟨rfl, rfl⟩ | (skip))
              intro c
              dsimp only [dstOf, kval, kfac, ancE,  ancF, getD_z, getD_s, List.getElem?_cons_zero, List.getElem?_cons_succ, List.getElem?_nil, Option.getD_some, Option.getD_none, List.nil_append, List.cons_append, List.drop_succ_cons, List.drop_zero, Option.getD]
              repeat (first | refine stp ?_ | (refine sti ?_; intro _) | refine stf ?_ | (refine stb ?_; intro _))
              exact G.kp inferInstance (look_sub_cons rfl (look_sub_cons rfl (look_sub_cons rfl (look_sub_cons rfl (look_sub_cons rfl (look_sub_cons rfl look_sub_nil)))))) (List.Sublist.refl _)
    cases hA : okA l D H i with
    | false =>
      rw [rr_a hm hs h1 h2 hi1 hA]
      repeat (first | refine stp ?_ | (refine sti ?_; intro _) | refine stf ?_ | (refine stb ?_; intro _))
      refine G.ret rfl (.cons (.tmp rfl) .nil) (Φ' := []) (M' := []) inferInstance (List.nil_sublist _) ⟨?_, rfl, rfl⟩
      rfl
    | true =>
    have hallA' : ∀ j, j < i + 1 → okA l D H j = true := fun j hj => (Nat.lt_succ_iff_lt_or_eq.1 hj).elim (hallA j) (fun e => by rw [e, hA])
    repeat (first | refine stp ?_ | (refine sti ?_; intro _) | refine stf ?_ | (refine stb ?_; intro _))
    refine W.loopI (fun (k : Nat) => ([fRp (.slice a1 l.sets.length c1) l.sets, fRp (.slice a2 l.left.length c2) l.left, fRp (.slice a4 l.begun.length c4) l.begun, fRp (.slice a5 l.done.length c5) l.done], [(1, .pointer (some ⟨b1, 0, none⟩)), (3, .int .i64 l.sets.length), (4, .slice (some ⟨bD, 0, none⟩) l.sets.length l.sets.length), (6, .slice (some ⟨bH, 0, none⟩) l.sets.length l.sets.length), (8, .int .i64 i), (9, .int .i64 k)], [(bH, Ob (cI H) 3), (bD, Ob (cB D) 4), (b1, Ob [.slice a1 l.sets.length c1, .slice a2 l.left.length c2, .slice a3 l.at_.length c3, .slice a4 l.begun.length c4, .slice a5 l.done.length c5] 28)])) (fun k => k ≤ i ∧ ∀ j, j < k → okE l D i j = true) (fun k => i - k) 0 ⟨Nat.zero_le _, fun j hj => absurd hj (Nat.not_lt_zero j)⟩ inferInstance (look_sub_cons rfl (look_sub_cons rfl (look_sub_cons rfl (look_sub_cons rfl (look_sub_cons rfl (look_sub_cons rfl look_sub_nil)))))) (List.Sublist.refl _) ?_
    rintro k ⟨hk, hall⟩
    dsimp only
    by_cases hk0 : k = i
    · subst hk0
      repeat (first | refine stp ?_ | (refine sti ?_; intro _) | refine stf ?_ | (refine stb ?_; intro _))
      exact G.again (S := Nat) (k + 1) (by omega) ⟨hi1, hallA', fun j hj q hq => (Nat.lt_succ_iff_lt_or_eq.1 hj).elim (fun h => hallE j h q hq) (fun e => by subst e; exact hall q hq)⟩ inferInstance (look_sub_cons rfl (look_sub_cons rfl (look_sub_cons rfl (look_sub_cons rfl (look_sub_cons rfl look_sub_nil))))) (List.Sublist.refl _)
    have hki : k < i := by omega
    have hkn : k < l.sets.length := by omega
    have hkD : k < D.length := by omega
    have hokE := okE_at hib hkD hkn hi1
    repeat (first | refine stp ?_ | (refine sti ?_; intro _) | refine stf ?_ | (refine stb ?_; intro _))
    refine W.cutThen [fRp (.slice a1 l.sets.length c1) l.sets, fRp (.slice a2 l.left.length c2) l.left, fRp (.slice a4 l.begun.length c4) l.begun, fRp (.slice a5 l.done.length c5) l.done] ([(1, .pointer (some ⟨b1, 0, none⟩)), (3, .int .i64 l.sets.length), (4, .slice (some ⟨bD, 0, none⟩) l.sets.length l.sets.length), (6, .slice (some ⟨bH, 0, none⟩) l.sets.length l.sets.length), (8, .int .i64 i), (9, .int .i64 k), (161, .bool (!okE l D i k))]) [(bH, Ob (cI H) 3), (bD, Ob (cB D) 4), (b1, Ob [.slice a1 l.sets.length c1, .slice a2 l.left.length c2, .slice a3 l.at_.length c3, .slice a4 l.begun.length c4, .slice a5 l.done.length c5] 28)] ?_ ?_
    · skip
      cases hg : l.begun[i] with
      | false =>
        have e : okE l D i k = true := by rw [hokE]; simp [hg]
        rw [e]
        refine W.draw 25 [⟨?v0_13, fun _ z => []⟩, ⟨?v1_13, fun _ z => []⟩, ⟨?v2_13, fun _ z => []⟩, ⟨fun _ z => z, fun _ z => [fPt z false]⟩, ⟨?v4_13, fun _ z => []⟩, ⟨?v5_13, fun _ z => []⟩, ⟨?v6_13, fun _ z => []⟩, ⟨?v7_13, fun _ z => []⟩, ⟨?v8_13, fun _ z => []⟩, ⟨?v9_13, fun _ z => []⟩, ⟨?v10_13, fun _ z => []⟩, ⟨?v11_13, fun _ z => []⟩, ⟨?v12_13, fun _ z => []⟩, ⟨?v13_13, fun _ z => []⟩, ⟨?v14_13, fun _ z => []⟩, ⟨?v15_13, fun _ z => []⟩, ⟨?v16_13, fun _ z => []⟩, ⟨?v17_13, fun _ z => []⟩, ⟨?v18_13, fun _ z => []⟩, ⟨?v19_13, fun _ z => []⟩, ⟨?v20_13, fun _ z => []⟩, ⟨?v21_13, fun _ z => []⟩, ⟨?v22_13, fun _ z => []⟩, ⟨?v23_13, fun _ z => []⟩, ⟨?v24_13, fun _ z => []⟩] [[], [0], [], [1, 2], [3], [4], [5], [5], [5, 6, 7], [5, 8], [5, 9], [5, 10], [11], [12], [12, 13], [12], [12, 14, 15], [12, 16], [12], [12, 18], [12], [12, 19, 20], [12, 21], [12, 17, 22], [12, 23]] [24] (by kernel_rfl) (by kernel_rfl) (by kernel_rfl) (by kernel_rfl) ?loc_13 ?ops_13 ?rest_13
        case ops_13 =>
          simp only [AllQ, Nat.reduceAdd, and_true]
          refine ⟨?_, ?_, ?_, ?_, ?_, ?_, ?_, ?_, ?_, ?_, ?_, ?_, ?_, ?_, ?_, ?_, ?_, ?_, ?_, ?_, ?_, ?_, ?_, ?_, ?_⟩
          all_goals (intro c z0 Φr Lr K hK; dsimp only [dstOf, kval, kfac, ancE, ancF, getD_z, getD_s, List.getElem?_cons_zero, List.getElem?_cons_succ, List.getElem?_nil, Option.getD_some, Option.getD_none, List.nil_append, List.cons_append, Option.getD] at hK ⊢)
          iterate 3 ((first | refine stp ?_ | refine stf ?_); exact hK z0)
          · refine o_idxN i rfl rfl rfl rfl rfl hib ?_; intro p; rw [hg]; exact hK _
          iterate 21 ((first | refine stp ?_ | refine stf ?_); exact hK z0)
        case loc_13 =>
          simp only [AllL, Nat.reduceAdd, and_true]
          refine ⟨?_, ?_, ?_, ?_, ?_, ?_, ?_, ?_, ?_, ?_, ?_, ?_, ?_, ?_, ?_, ?_, ?_, ?_, ?_, ?_, ?_, ?_, ?_, ?_, ?_⟩
          all_goals (intro c c' z h; first | exact ⟨rfl, rfl⟩ | (skip))
        intro c
        dsimp only [dstOf, kval, kfac, ancE,  ancF, getD_z, getD_s, List.getElem?_cons_zero, List.getElem?_cons_succ, List.getElem?_nil, Option.getD_some, Option.getD_none, List.nil_append, List.cons_append, List.drop_succ_cons, List.drop_zero, Option.getD]
        repeat (first | refine stp ?_ | (refine sti ?_; intro _) | refine stf ?_ | (refine stb ?_; intro _))
        exact G.kp inferInstance (look_sub_cons rfl (look_sub_cons rfl (look_sub_cons rfl (look_sub_cons rfl (look_sub_cons rfl (look_sub_cons rfl (look_sub_cons rfl look_sub_nil))))))) (List.Sublist.refl _)
      | true =>
        cases hd : D[k] with
        | true =>
          have e : okE l D i k = true := by rw [hokE]; simp [hg, hd]
          rw [e]
          refine W.draw 25 [⟨?v0_14, fun _ z => []⟩, ⟨?v1_14, fun _ z => []⟩, ⟨?v2_14, fun _ z => []⟩, ⟨fun _ z => z, fun _ z => [fPt z true]⟩, ⟨?v4_14, fun _ z => []⟩, ⟨?v5_14, fun _ z => []⟩, ⟨?v6_14, fun _ z => []⟩, ⟨?v7_14, fun _ z => []⟩, ⟨?v8_14, fun _ z => []⟩, ⟨?v9_14, fun _ z => []⟩, ⟨?v10_14, fun _ z => []⟩, ⟨?v11_14, fun _ z => []⟩, ⟨?v12_14, fun _ z => []⟩, ⟨?v13_14, fun _ z => []⟩, ⟨?v14_14, fun _ z => []⟩, ⟨?v15_14, fun _ z => []⟩, ⟨?v16_14, fun _ z => []⟩, ⟨?v17_14, fun _ z => []⟩, ⟨?v18_14, fun _ z => []⟩, ⟨?v19_14, fun _ z => []⟩, ⟨?v20_14, fun _ z => []⟩, ⟨?v21_14, fun _ z => []⟩, ⟨?v22_14, fun _ z => []⟩, ⟨?v23_14, fun _ z => []⟩, ⟨?v24_14, fun _ z => []⟩] [[], [0], [], [1, 2], [3], [4], [5], [5], [5, 6, 7], [5, 8], [5, 9], [5, 10], [11], [12], [12, 13], [12], [12, 14, 15], [12, 16], [12], [12, 18], [12], [12, 19, 20], [12, 21], [12, 17, 22], [12, 23]] [24] (by kernel_rfl) (by kernel_rfl) (by kernel_rfl) (by kernel_rfl) ?loc_14 ?ops_14 ?rest_14
          case ops_14 =>
            simp only [AllQ, Nat.reduceAdd, and_true]
            refine ⟨?_, ?_, ?_, ?_, ?_, ?_, ?_, ?_, ?_, ?_, ?_, ?_, ?_, ?_, ?_, ?_, ?_, ?_, ?_, ?_, ?_, ?_, ?_, ?_, ?_⟩
            all_goals (intro c z0 Φr Lr K hK; dsimp only [dstOf, kval, kfac, ancE, ancF, getD_z, getD_s, List.getElem?_cons_zero, List.getElem?_cons_succ, List.getElem?_nil, Option.getD_some, Option.getD_none, List.nil_append, List.cons_append, Option.getD] at hK ⊢)
            iterate 3 ((first | refine stp ?_ | refine stf ?_); exact hK z0)
            · refine o_idxN i rfl rfl rfl rfl rfl hib ?_; intro p; rw [hg]; exact hK _
            iterate 4 ((first | refine stp ?_ | refine stf ?_); exact hK z0)
            · refine o_idxO rfl rfl rfl rfl (by omega) (by omega) (o' := k) (by omega) ?_; exact hK z0
            · refine o_loadB k hkD rfl rfl rfl rfl ?_; rw [hd]; exact hK z0
            iterate 15 ((first | refine stp ?_ | refine stf ?_); exact hK z0)
          case loc_14 =>
            simp only [AllL, Nat.reduceAdd, and_true]
            refine ⟨?_, ?_, ?_, ?_, ?_, ?_, ?_, ?_, ?_, ?_, ?_, ?_, ?_, ?_, ?_, ?_, ?_, ?_, ?_, ?_, ?_, ?_, ?_, ?_, ?_⟩
            all_goals (intro c c' z h; first | exact ⟨rfl, rfl⟩ | (skip))
          intro c
          dsimp only [dstOf, kval, kfac, ancE,  ancF, getD_z, getD_s, List.getElem?_cons_zero, List.getElem?_cons_succ, List.getElem?_nil, Option.getD_some, Option.getD_none, List.nil_append, List.cons_append, List.drop_succ_cons, List.drop_zero, Option.getD]
          repeat (first | refine stp ?_ | (refine sti ?_; intro _) | refine stf ?_ | (refine stb ?_; intro _))
          exact G.kp inferInstance (look_sub_cons rfl (look_sub_cons rfl (look_sub_cons rfl (look_sub_cons rfl (look_sub_cons rfl (look_sub_cons rfl (look_sub_cons rfl look_sub_nil))))))) (List.Sublist.refl _)
        | false =>
          cases hc : clashS l.sets[k] l.sets[i] with
          | true =>
            have e : okE l D i k = false := by rw [hokE]; simp [hg, hd, hc]
            rw [e]
            refine W.draw 25 [⟨?v0_15, fun _ z => []⟩, ⟨?v1_15, fun _ z => []⟩, ⟨?v2_15, fun _ z => []⟩, ⟨fun _ z => z, fun _ z => [fPt z true]⟩, ⟨?v4_15, fun _ z => []⟩, ⟨?v5_15, fun _ z => []⟩, ⟨?v6_15, fun _ z => []⟩, ⟨?v7_15, fun _ z => []⟩, ⟨?v8_15, fun _ z => []⟩, ⟨?v9_15, fun _ z => []⟩, ⟨?v10_15, fun _ z => []⟩, ⟨?v11_15, fun _ z => []⟩, ⟨?v12_15, fun _ z => []⟩, ⟨?v13_15, fun _ z => []⟩, ⟨?v14_15, fun _ z => []⟩, ⟨?v15_15, fun _ z => []⟩, ⟨fun _ z => z, fun _ z => [fPt z l.sets[k]]⟩, ⟨fun _ z => z, fun _ z => [fRp z l.sets[k]]⟩, ⟨?v18_15, fun _ z => []⟩, ⟨?v19_15, fun _ z => []⟩, ⟨?v20_15, fun _ z => []⟩, ⟨fun _ z => z, fun _ z => [fPt z l.sets[i]]⟩, ⟨fun _ z => z, fun _ z => [fRp z l.sets[i]]⟩, ⟨?v23_15, fun _ z => []⟩, ⟨?v24_15, fun _ z => []⟩] [[], [0], [], [1, 2], [3], [4], [5], [5], [5, 6, 7], [5, 8], [5, 9], [5, 10], [11], [12], [12, 13], [12], [12, 14, 15], [12, 16], [12], [12, 18], [12], [12, 19, 20], [12, 21], [12, 17, 22], [12, 23]] [24] (by kernel_rfl) (by kernel_rfl) (by kernel_rfl) (by kernel_rfl) ?loc_15 ?ops_15 ?rest_15
            case ops_15 =>
              simp only [AllQ, Nat.reduceAdd, and_true]
              refine ⟨?_, ?_, ?_, ?_, ?_, ?_, ?_, ?_, ?_, ?_, ?_, ?_, ?_, ?_, ?_, ?_, ?_, ?_, ?_, ?_, ?_, ?_, ?_, ?_, ?_⟩
              all_goals (intro c z0 Φr Lr K hK; dsimp only [dstOf, kval, kfac, ancE, ancF, getD_z, getD_s, List.getElem?_cons_zero, List.getElem?_cons_succ, List.getElem?_nil, Option.getD_some, Option.getD_none, List.nil_append, List.cons_append, Option.getD] at hK ⊢)
              iterate 3 ((first | refine stp ?_ | refine stf ?_); exact hK z0)
              · refine o_idxN i rfl rfl rfl rfl rfl hib ?_; intro p; rw [hg]; exact hK _
              iterate 4 ((first | refine stp ?_ | refine stf ?_); exact hK z0)
              · refine o_idxO rfl rfl rfl rfl (by omega) (by omega) (o' := k) (by omega) ?_; exact hK z0
              · refine o_loadB k hkD rfl rfl rfl rfl ?_; rw [hd]; exact hK z0
              iterate 6 ((first | refine stp ?_ | refine stf ?_); exact hK z0)
              · refine o_idxN k rfl rfl rfl rfl rfl hkn ?_; intro p; exact hK _
              · refine o_loadR rfl rfl rfl rfl ?_; intro p; exact hK _
              iterate 3 ((first | refine stp ?_ | refine stf ?_); exact hK z0)
              · refine o_idxN i rfl rfl rfl rfl rfl hi1 ?_; intro p; exact hK _
              · refine o_loadR rfl rfl rfl rfl ?_; intro p; exact hK _
              · refine o_callV rfl rfl rfl rfl (clashS_spec (c 17) (c 22) l.sets[k] l.sets[i] (fs _ (List.getElem_mem hkn)) (fs _ (List.getElem_mem hi1))) (congrArg Value.bool hc) ?_; exact hK z0
              · refine stp ?_; exact hK z0
            case loc_15 =>
              simp only [AllL, Nat.reduceAdd, and_true]
              refine ⟨?_, ?_, ?_, ?_, ?_, ?_, ?_, ?_, ?_, ?_, ?_, ?_, ?_, ?_, ?_, ?_, ?_, ?_, ?_, ?_, ?_, ?_, ?_, ?_, ?_⟩
              all_goals (intro c c' z h; first | exact ⟨rfl, rfl⟩ | (skip))
            intro c
            dsimp only [dstOf, kval, kfac, ancE,  ancF, getD_z, getD_s, List.getElem?_cons_zero, List.getElem?_cons_succ, List.getElem?_nil, Option.getD_some, Option.getD_none, List.nil_append, List.cons_append, List.drop_succ_cons, List.drop_zero, Option.getD]
            repeat (first | refine stp ?_ | (refine sti ?_; intro _) | refine stf ?_ | (refine stb ?_; intro _))
            exact G.kp inferInstance (look_sub_cons rfl (look_sub_cons rfl (look_sub_cons rfl (look_sub_cons rfl (look_sub_cons rfl (look_sub_cons rfl (look_sub_cons rfl look_sub_nil))))))) (List.Sublist.refl _)
          | false =>
            have e : okE l D i k = true := by rw [hokE]; simp [hg, hd, hc]
            rw [e]
            refine W.draw 25 [⟨?v0_16, fun _ z => []⟩, ⟨?v1_16, fun _ z => []⟩, ⟨?v2_16, fun _ z => []⟩, ⟨fun _ z => z, fun _ z => [fPt z true]⟩, ⟨?v4_16, fun _ z => []⟩, ⟨?v5_16, fun _ z => []⟩, ⟨?v6_16, fun _ z => []⟩, ⟨?v7_16, fun _ z => []⟩, ⟨?v8_16, fun _ z => []⟩, ⟨?v9_16, fun _ z => []⟩, ⟨?v10_16, fun _ z => []⟩, ⟨?v11_16, fun _ z => []⟩, ⟨?v12_16, fun _ z => []⟩, ⟨?v13_16, fun _ z => []⟩, ⟨?v14_16, fun _ z => []⟩, ⟨?v15_16, fun _ z => []⟩, ⟨fun _ z => z, fun _ z => [fPt z l.sets[k]]⟩, ⟨fun _ z => z, fun _ z => [fRp z l.sets[k]]⟩, ⟨?v18_16, fun _ z => []⟩, ⟨?v19_16, fun _ z => []⟩, ⟨?v20_16, fun _ z => []⟩, ⟨fun _ z => z, fun _ z => [fPt z l.sets[i]]⟩, ⟨fun _ z => z, fun _ z => [fRp z l.sets[i]]⟩, ⟨?v23_16, fun _ z => []⟩, ⟨?v24_16, fun _ z => []⟩] [[], [0], [], [1, 2], [3], [4], [5], [5], [5, 6, 7], [5, 8], [5, 9], [5, 10], [11], [12], [12, 13], [12], [12, 14, 15], [12, 16], [12], [12, 18], [12], [12, 19, 20], [12, 21], [12, 17, 22], [12, 23]] [24] (by kernel_rfl) (by kernel_rfl) (by kernel_rfl) (by kernel_rfl) ?loc_16 ?ops_16 ?rest_16
            case ops_16 =>
              simp only [AllQ, Nat.reduceAdd, and_true]
              refine ⟨?_, ?_, ?_, ?_, ?_, ?_, ?_, ?_, ?_, ?_, ?_, ?_, ?_, ?_, ?_, ?_, ?_, ?_, ?_, ?_, ?_, ?_, ?_, ?_, ?_⟩
              all_goals (intro c z0 Φr Lr K hK; dsimp only [dstOf, kval, kfac, ancE, ancF, getD_z, getD_s, List.getElem?_cons_zero, List.getElem?_cons_succ, List.getElem?_nil, Option.getD_some, Option.getD_none, List.nil_append, List.cons_append, Option.getD] at hK ⊢)
              iterate 3 ((first | refine stp ?_ | refine stf ?_); exact hK z0)
              · refine o_idxN i rfl rfl rfl rfl rfl hib ?_; intro p; rw [hg]; exact hK _
              iterate 4 ((first | refine stp ?_ | refine stf ?_); exact hK z0)
              · refine o_idxO rfl rfl rfl rfl (by omega) (by omega) (o' := k) (by omega) ?_; exact hK z0
              · refine o_loadB k hkD rfl rfl rfl rfl ?_; rw [hd]; exact hK z0
              iterate 6 ((first | refine stp ?_ | refine stf ?_); exact hK z0)
              · refine o_idxN k rfl rfl rfl rfl rfl hkn ?_; intro p; exact hK _
              · refine o_loadR rfl rfl rfl rfl ?_; intro p; exact hK _
              iterate 3 ((first | refine stp ?_ | refine stf ?_); exact hK z0)
              · refine o_idxN i rfl rfl rfl rfl rfl hi1 ?_; intro p; exact hK _
              · refine o_loadR rfl rfl rfl rfl ?_; intro p; exact hK _
              · refine o_callV rfl rfl rfl rfl (clashS_spec (c 17) (c 22) l.sets[k] l.sets[i] (fs _ (List.getElem_mem hkn)) (fs _ (List.getElem_mem hi1))) (congrArg Value.bool hc) ?_; exact hK z0
              · refine stp ?_; exact hK z0
            case loc_16 =>
              simp only [AllL, Nat.reduceAdd, and_true]
              refine ⟨?_, ?_, ?_, ?_, ?_, ?_, ?_, ?_, ?_, ?_, ?_, ?_, ?_, ?_, ?_, ?_, ?_, ?_, ?_, ?_, ?_, ?_, ?_, ?_, ?_⟩
              all_goals (intro c c' z h; first | exact ⟨rfl, rfl⟩ | (skip))
            intro c
            dsimp only [dstOf, kval, kfac, ancE,  ancF, getD_z, getD_s, List.getElem?_cons_zero, List.getElem?_cons_succ, List.getElem?_nil, Option.getD_some, Option.getD_none, List.nil_append, List.cons_append, List.drop_succ_cons, List.drop_zero, Option.getD]
            repeat (first | refine stp ?_ | (refine sti ?_; intro _) | refine stf ?_ | (refine stb ?_; intro _))
            exact G.kp inferInstance (look_sub_cons rfl (look_sub_cons rfl (look_sub_cons rfl (look_sub_cons rfl (look_sub_cons rfl (look_sub_cons rfl (look_sub_cons rfl look_sub_nil))))))) (List.Sublist.refl _)
    cases hE : okE l D i k with
    | false =>
      rw [rr_e hm hs h1 h2 hi1 hki hE]
      repeat (first | refine stp ?_ | (refine sti ?_; intro _) | refine stf ?_ | (refine stb ?_; intro _))
      refine G.ret rfl (.cons (.tmp rfl) .nil) (Φ' := []) (M' := []) inferInstance (List.nil_sublist _) ⟨?_, rfl, rfl⟩
      rfl
    | true =>
      repeat (first | refine stp ?_ | (refine sti ?_; intro _) | refine stf ?_ | (refine stb ?_; intro _))
      exact G.again (S := Nat) (k + 1) (by omega) ⟨hki, fun j hj => (Nat.lt_succ_iff_lt_or_eq.1 hj).elim (hall j) (fun e => by rw [e, hE])⟩ inferInstance (look_sub_cons rfl (look_sub_cons rfl (look_sub_cons rfl (look_sub_cons rfl (look_sub_cons rfl (look_sub_cons rfl look_sub_nil)))))) (List.Sublist.refl _)
  subst hi0
  repeat (first | refine stp ?_ | (refine sti ?_; intro _) | refine stf ?_ | (refine stb ?_; intro _))
  refine W.loopI (fun (i : Nat) => ([fRp (.slice a1 l.sets.length c1) l.sets, fRp (.slice a2 l.left.length c2) l.left, fRp (.slice a4 l.begun.length c4) l.begun, fRp (.slice a5 l.done.length c5) l.done], [(1, .pointer (some ⟨b1, 0, none⟩)), (10, .int .i64 i)], [(bH, Ob (cI H) 3), (bD, Ob (cB D) 4), (b1, Ob [.slice a1 l.sets.length c1, .slice a2 l.left.length c2, .slice a3 l.at_.length c3, .slice a4 l.begun.length c4, .slice a5 l.done.length c5] 28)])) (fun i => i ≤ l.done.length ∧ ∀ j, j < i → ∀ k, k < j → okO l j k = true) (fun i => l.done.length - i) 0 ⟨Nat.zero_le _, fun j hj => absurd hj (Nat.not_lt_zero j)⟩ inferInstance (look_sub_cons rfl (look_sub_cons rfl look_sub_nil)) (List.Sublist.refl _) ?_
  rintro i ⟨hi, hallO⟩
  dsimp only
  by_cases hi0 : i = l.done.length
  · subst hi0
    rw [rr_yes hm hs h1 h2 hallA hallE hallO]
    repeat (first | refine stp ?_ | (refine sti ?_; intro _) | refine stf ?_ | (refine stb ?_; intro _))
    refine G.ret rfl (.cons (.tmp rfl) .nil) (Φ' := []) (M' := []) inferInstance (List.nil_sublist _) ⟨?_, rfl, rfl⟩
    rfl
  have hi1 : i < l.done.length := by omega
  obtain ⟨r, ei, hr⟩ := hin l.done[i] (List.getElem_mem hi1)
  repeat (first | refine stp ?_ | (refine sti ?_; intro _) | refine stf ?_ | (refine stb ?_; intro _))
  refine W.loopI (fun (k : Nat) => ([fRp (.slice a1 l.sets.length c1) l.sets, fRp (.slice a2 l.left.length c2) l.left, fRp (.slice a4 l.begun.length c4) l.begun, fRp (.slice a5 l.done.length c5) l.done], [(1, .pointer (some ⟨b1, 0, none⟩)), (10, .int .i64 i), (11, .int .i64 k)], [(bH, Ob (cI H) 3), (bD, Ob (cB D) 4), (b1, Ob [.slice a1 l.sets.length c1, .slice a2 l.left.length c2, .slice a3 l.at_.length c3, .slice a4 l.begun.length c4, .slice a5 l.done.length c5] 28)])) (fun k => k ≤ i ∧ ∀ j, j < k → okO l i j = true) (fun k => i - k) 0 ⟨Nat.zero_le _, fun j hj => absurd hj (Nat.not_lt_zero j)⟩ inferInstance (look_sub_cons rfl (look_sub_cons rfl (look_sub_cons rfl look_sub_nil))) (List.Sublist.refl _) ?_
  rintro k ⟨hk, hall⟩
  dsimp only
  by_cases hk0 : k = i
  · subst hk0
    repeat (first | refine stp ?_ | (refine sti ?_; intro _) | refine stf ?_ | (refine stb ?_; intro _))
    exact G.again (S := Nat) (k + 1) (by omega) ⟨hi1, fun j hj q hq => (Nat.lt_succ_iff_lt_or_eq.1 hj).elim (fun h => hallO j h q hq) (fun e => by subst e; exact hall q hq)⟩ inferInstance (look_sub_cons rfl (look_sub_cons rfl look_sub_nil)) (List.Sublist.refl _)
  have hki : k < i := by omega
  have hkd : k < l.done.length := by omega
  obtain ⟨q, ek, hq⟩ := hin l.done[k] (List.getElem_mem hkd)
  have hokO := okO_at hi1 hkd hq hr ek ei
  repeat (first | refine stp ?_ | (refine sti ?_; intro _) | refine stf ?_ | (refine stb ?_; intro _))
  refine W.cutThen [fRp (.slice a1 l.sets.length c1) l.sets, fRp (.slice a2 l.left.length c2) l.left, fRp (.slice a4 l.begun.length c4) l.begun, fRp (.slice a5 l.done.length c5) l.done] ([(1, .pointer (some ⟨b1, 0, none⟩)), (10, .int .i64 i), (11, .int .i64 k), (205, .bool (!okO l i k))]) [(bH, Ob (cI H) 3), (bD, Ob (cB D) 4), (b1, Ob [.slice a1 l.sets.length c1, .slice a2 l.left.length c2, .slice a3 l.at_.length c3, .slice a4 l.begun.length c4, .slice a5 l.done.length c5] 28)] ?_ ?_
  · skip
    by_cases hgt : l.done[i] < l.done[k]
    · cases hc : clashS l.sets[q] l.sets[r] with
      | true =>
        have e : okO l i k = false := by rw [hokO]; simp [hgt, hc]
        rw [e]
        refine W.draw 32 (⟨?v0_17, fun _ z => []⟩ :: ⟨?v1_17, fun _ z => []⟩ :: ⟨?v2_17, fun _ z => []⟩ :: ⟨fun _ z => z, fun _ z => [fPt z l.done[k]]⟩ :: ⟨?v4_17, fun _ z => []⟩ :: ⟨?v5_17, fun _ z => []⟩ :: ⟨?v6_17, fun _ z => []⟩ :: ⟨?v7_17, fun _ z => []⟩ :: ⟨fun _ z => z, fun _ z => [fPt z l.done[i]]⟩ :: ⟨?v9_17, fun _ z => []⟩ :: ⟨?v10_17, fun _ z => []⟩ :: ⟨?v11_17, fun _ z => []⟩ :: ⟨?v12_17, fun _ z => []⟩ :: ⟨?v13_17, fun _ z => []⟩ :: ⟨?v14_17, fun _ z => []⟩ :: ⟨?v15_17, fun _ z => []⟩ :: ⟨?v16_17, fun _ z => []⟩ :: ⟨fun _ z => z, fun _ z => [fPt z l.done[k]]⟩ :: ⟨?v18_17, fun _ z => []⟩ :: ⟨fun _ z => z, fun _ z => [fPt z l.sets[q]]⟩ :: ⟨fun _ z => z, fun _ z => [fRp z l.sets[q]]⟩ :: ⟨?v21_17, fun _ z => []⟩ :: ⟨?v22_17, fun _ z => []⟩ :: ⟨?v23_17, fun _ z => []⟩ :: ⟨?v24_17, fun _ z => []⟩ :: ⟨?v25_17, fun _ z => []⟩ :: ⟨fun _ z => z, fun _ z => [fPt z l.done[i]]⟩ :: ⟨?v27_17, fun _ z => []⟩ :: ⟨fun _ z => z, fun _ z => [fPt z l.sets[r]]⟩ :: ⟨fun _ z => z, fun _ z => [fRp z l.sets[r]]⟩ :: ⟨?v30_17, fun _ z => []⟩ :: ⟨?v31_17, fun _ z => []⟩ :: []) ([] :: [0] :: [] :: [1, 2] :: [3] :: [] :: [5] :: [] :: [6, 7] :: [8] :: [4, 9] :: [10] :: [11] :: [11, 12] :: [11] :: [11, 14] :: [11] :: [11, 15, 16] :: [11, 17] :: [11, 13, 18] :: [11, 19] :: [11] :: [11, 21] :: [11] :: [11, 23] :: [11] :: [11, 24, 25] :: [11, 26] :: [11, 22, 27] :: [11, 28] :: [11, 20, 29] :: [11, 30] :: []) [31] (by kernel_rfl) (by kernel_rfl) (by kernel_rfl) (by kernel_rfl) ?loc_17 ?ops_17 ?rest_17
        case ops_17 =>
          iterate 32 (refine AllQ.mk ?_ ?_; rotate_left)
          exact AllQ.nil
          all_goals (intro c z0 Φr Lr K hK; dsimp only [dstOf, kval, kfac, ancE, ancF, getD_z, getD_s, List.getElem?_cons_zero, List.getElem?_cons_succ, List.getElem?_nil, Option.getD_some, Option.getD_none, List.nil_append, List.cons_append, Option.getD] at hK ⊢)
          iterate 3 ((first | refine stp ?_ | refine stf ?_); exact hK z0)
          · refine o_idxN k rfl rfl rfl rfl rfl hkd ?_; intro p; exact hK _
          iterate 4 ((first | refine stp ?_ | refine stf ?_); exact hK z0)
          · refine o_idxN i rfl rfl rfl rfl rfl hi1 ?_; intro p; exact hK _
          iterate 8 ((first | refine stp ?_ | refine stf ?_); exact hK z0)
          · refine o_idxN k rfl rfl rfl rfl rfl hkd ?_; intro p; exact hK _
          · (first | refine stp ?_ | refine stf ?_); exact hK z0
          · refine o_idxN q rfl rfl rfl rfl ek hq ?_; intro p; exact hK _
          · refine o_loadR rfl rfl rfl rfl ?_; intro p; exact hK _
          iterate 5 ((first | refine stp ?_ | refine stf ?_); exact hK z0)
          · refine o_idxN i rfl rfl rfl rfl rfl hi1 ?_; intro p; exact hK _
          · (first | refine stp ?_ | refine stf ?_); exact hK z0
          · refine o_idxN r rfl rfl rfl rfl ei hr ?_; intro p; exact hK _
          · refine o_loadR rfl rfl rfl rfl ?_; intro p; exact hK _
          · refine o_callV rfl rfl rfl rfl (clashS_spec (c 20) (c 29) l.sets[q] l.sets[r] (fs _ (List.getElem_mem hq)) (fs _ (List.getElem_mem hr))) (congrArg Value.bool hc) ?_; exact hK z0
          · refine stp ?_; exact hK z0
        case loc_17 =>
          iterate 32 (refine AllL.mk ?_ ?_; rotate_left)
          exact AllL.nil
          all_goals (intro c c' z h; first | exact ⟨rfl, rfl⟩ | (skip))
        intro c
        dsimp only [dstOf, kval, kfac, ancE,  ancF, getD_z, getD_s, List.getElem?_cons_zero, List.getElem?_cons_succ, List.getElem?_nil, Option.getD_some, Option.getD_none, List.nil_append, List.cons_append, List.drop_succ_cons, List.drop_zero, Option.getD]
        repeat (first | refine stp ?_ | (refine sti ?_; intro _) | refine stf ?_ | (refine stb ?_; intro _))
        exact G.kp inferInstance (look_sub_cons rfl (look_sub_cons rfl (look_sub_cons rfl (look_sub_cons rfl look_sub_nil)))) (List.Sublist.refl _)
      | false =>
        have e : okO l i k = true := by rw [hokO]; simp [hgt, hc]
        rw [e]
        refine W.draw 32 (⟨?v0_18, fun _ z => []⟩ :: ⟨?v1_18, fun _ z => []⟩ :: ⟨?v2_18, fun _ z => []⟩ :: ⟨fun _ z => z, fun _ z => [fPt z l.done[k]]⟩ :: ⟨?v4_18, fun _ z => []⟩ :: ⟨?v5_18, fun _ z => []⟩ :: ⟨?v6_18, fun _ z => []⟩ :: ⟨?v7_18, fun _ z => []⟩ :: ⟨fun _ z => z, fun _ z => [fPt z l.done[i]]⟩ :: ⟨?v9_18, fun _ z => []⟩ :: ⟨?v10_18, fun _ z => []⟩ :: ⟨?v11_18, fun _ z => []⟩ :: ⟨?v12_18, fun _ z => []⟩ :: ⟨?v13_18, fun _ z => []⟩ :: ⟨?v14_18, fun _ z => []⟩ :: ⟨?v15_18, fun _ z => []⟩ :: ⟨?v16_18, fun _ z => []⟩ :: ⟨fun _ z => z, fun _ z => [fPt z l.done[k]]⟩ :: ⟨?v18_18, fun _ z => []⟩ :: ⟨fun _ z => z, fun _ z => [fPt z l.sets[q]]⟩ :: ⟨fun _ z => z, fun _ z => [fRp z l.sets[q]]⟩ :: ⟨?v21_18, fun _ z => []⟩ :: ⟨?v22_18, fun _ z => []⟩ :: ⟨?v23_18, fun _ z => []⟩ :: ⟨?v24_18, fun _ z => []⟩ :: ⟨?v25_18, fun _ z => []⟩ :: ⟨fun _ z => z, fun _ z => [fPt z l.done[i]]⟩ :: ⟨?v27_18, fun _ z => []⟩ :: ⟨fun _ z => z, fun _ z => [fPt z l.sets[r]]⟩ :: ⟨fun _ z => z, fun _ z => [fRp z l.sets[r]]⟩ :: ⟨?v30_18, fun _ z => []⟩ :: ⟨?v31_18, fun _ z => []⟩ :: []) ([] :: [0] :: [] :: [1, 2] :: [3] :: [] :: [5] :: [] :: [6, 7] :: [8] :: [4, 9] :: [10] :: [11] :: [11, 12] :: [11] :: [11, 14] :: [11] :: [11, 15, 16] :: [11, 17] :: [11, 13, 18] :: [11, 19] :: [11] :: [11, 21] :: [11] :: [11, 23] :: [11] :: [11, 24, 25] :: [11, 26] :: [11, 22, 27] :: [11, 28] :: [11, 20, 29] :: [11, 30] :: []) [31] (by kernel_rfl) (by kernel_rfl) (by kernel_rfl) (by kernel_rfl) ?loc_18 ?ops_18 ?rest_18
        case ops_18 =>
          iterate 32 (refine AllQ.mk ?_ ?_; rotate_left)
          exact AllQ.nil
          all_goals (intro c z0 Φr Lr K hK; dsimp only [dstOf, kval, kfac, ancE, ancF, getD_z, getD_s, List.getElem?_cons_zero, List.getElem?_cons_succ, List.getElem?_nil, Option.getD_some, Option.getD_none, List.nil_append, List.cons_append, Option.getD] at hK ⊢)
          iterate 3 ((first | refine stp ?_ | refine stf ?_); exact hK z0)
          · refine o_idxN k rfl rfl rfl rfl rfl hkd ?_; intro p; exact hK _
          iterate 4 ((first | refine stp ?_ | refine stf ?_); exact hK z0)
          · refine o_idxN i rfl rfl rfl rfl rfl hi1 ?_; intro p; exact hK _
          iterate 8 ((first | refine stp ?_ | refine stf ?_); exact hK z0)
          · refine o_idxN k rfl rfl rfl rfl rfl hkd ?_; intro p; exact hK _
          · (first | refine stp ?_ | refine stf ?_); exact hK z0
          · refine o_idxN q rfl rfl rfl rfl ek hq ?_; intro p; exact hK _
          · refine o_loadR rfl rfl rfl rfl ?_; intro p; exact hK _
          iterate 5 ((first | refine stp ?_ | refine stf ?_); exact hK z0)
          · refine o_idxN i rfl rfl rfl rfl rfl hi1 ?_; intro p; exact hK _
          · (first | refine stp ?_ | refine stf ?_); exact hK z0
          · refine o_idxN r rfl rfl rfl rfl ei hr ?_; intro p; exact hK _
          · refine o_loadR rfl rfl rfl rfl ?_; intro p; exact hK _
          · refine o_callV rfl rfl rfl rfl (clashS_spec (c 20) (c 29) l.sets[q] l.sets[r] (fs _ (List.getElem_mem hq)) (fs _ (List.getElem_mem hr))) (congrArg Value.bool hc) ?_; exact hK z0
          · refine stp ?_; exact hK z0
        case loc_18 =>
          iterate 32 (refine AllL.mk ?_ ?_; rotate_left)
          exact AllL.nil
          all_goals (intro c c' z h; first | exact ⟨rfl, rfl⟩ | (skip))
        intro c
        dsimp only [dstOf, kval, kfac, ancE,  ancF, getD_z, getD_s, List.getElem?_cons_zero, List.getElem?_cons_succ, List.getElem?_nil, Option.getD_some, Option.getD_none, List.nil_append, List.cons_append, List.drop_succ_cons, List.drop_zero, Option.getD]
        repeat (first | refine stp ?_ | (refine sti ?_; intro _) | refine stf ?_ | (refine stb ?_; intro _))
        exact G.kp inferInstance (look_sub_cons rfl (look_sub_cons rfl (look_sub_cons rfl (look_sub_cons rfl look_sub_nil)))) (List.Sublist.refl _)
    · have e : okO l i k = true := by rw [hokO]; simp [hgt]
      rw [e]
      refine W.draw 32 (⟨?v0_19, fun _ z => []⟩ :: ⟨?v1_19, fun _ z => []⟩ :: ⟨?v2_19, fun _ z => []⟩ :: ⟨fun _ z => z, fun _ z => [fPt z l.done[k]]⟩ :: ⟨?v4_19, fun _ z => []⟩ :: ⟨?v5_19, fun _ z => []⟩ :: ⟨?v6_19, fun _ z => []⟩ :: ⟨?v7_19, fun _ z => []⟩ :: ⟨fun _ z => z, fun _ z => [fPt z l.done[i]]⟩ :: ⟨?v9_19, fun _ z => []⟩ :: ⟨?v10_19, fun _ z => []⟩ :: ⟨?v11_19, fun _ z => []⟩ :: ⟨?v12_19, fun _ z => []⟩ :: ⟨?v13_19, fun _ z => []⟩ :: ⟨?v14_19, fun _ z => []⟩ :: ⟨?v15_19, fun _ z => []⟩ :: ⟨?v16_19, fun _ z => []⟩ :: ⟨?v17_19, fun _ z => []⟩ :: ⟨?v18_19, fun _ z => []⟩ :: ⟨?v19_19, fun _ z => []⟩ :: ⟨?v20_19, fun _ z => []⟩ :: ⟨?v21_19, fun _ z => []⟩ :: ⟨?v22_19, fun _ z => []⟩ :: ⟨?v23_19, fun _ z => []⟩ :: ⟨?v24_19, fun _ z => []⟩ :: ⟨?v25_19, fun _ z => []⟩ :: ⟨?v26_19, fun _ z => []⟩ :: ⟨?v27_19, fun _ z => []⟩ :: ⟨?v28_19, fun _ z => []⟩ :: ⟨?v29_19, fun _ z => []⟩ :: ⟨?v30_19, fun _ z => []⟩ :: ⟨?v31_19, fun _ z => []⟩ :: []) ([] :: [0] :: [] :: [1, 2] :: [3] :: [] :: [5] :: [] :: [6, 7] :: [8] :: [4, 9] :: [10] :: [11] :: [11, 12] :: [11] :: [11, 14] :: [11] :: [11, 15, 16] :: [11, 17] :: [11, 13, 18] :: [11, 19] :: [11] :: [11, 21] :: [11] :: [11, 23] :: [11] :: [11, 24, 25] :: [11, 26] :: [11, 22, 27] :: [11, 28] :: [11, 20, 29] :: [11, 30] :: []) [31] (by kernel_rfl) (by kernel_rfl) (by kernel_rfl) (by kernel_rfl) ?loc_19 ?ops_19 ?rest_19
      case ops_19 =>
        iterate 32 (refine AllQ.mk ?_ ?_; rotate_left)
        exact AllQ.nil
        all_goals (intro c z0 Φr Lr K hK; dsimp only [dstOf, kval, kfac, ancE, ancF, getD_z, getD_s, List.getElem?_cons_zero, List.getElem?_cons_succ, List.getElem?_nil, Option.getD_some, Option.getD_none, List.nil_append, List.cons_append, Option.getD] at hK ⊢)
        iterate 3 ((first | refine stp ?_ | refine stf ?_); exact hK z0)
        · refine o_idxN k rfl rfl rfl rfl rfl hkd ?_; intro p; exact hK _
        iterate 4 ((first | refine stp ?_ | refine stf ?_); exact hK z0)
        · refine o_idxN i rfl rfl rfl rfl rfl hi1 ?_; intro p; exact hK _
        iterate 23 ((first | refine stp ?_ | refine stf ?_); exact hK z0)
      case loc_19 =>
        iterate 32 (refine AllL.mk ?_ ?_; rotate_left)
        exact AllL.nil
        all_goals (intro c c' z h; first | exact ⟨rfl, rfl⟩ | (skip))
      intro c
      dsimp only [dstOf, kval, kfac, ancE,  ancF, getD_z, getD_s, List.getElem?_cons_zero, List.getElem?_cons_succ, List.getElem?_nil, Option.getD_some, Option.getD_none, List.nil_append, List.cons_append, List.drop_succ_cons, List.drop_zero, Option.getD]
      repeat (first | refine stp ?_ | (refine sti ?_; intro _) | refine stf ?_ | (refine stb ?_; intro _))
      exact G.kp inferInstance (look_sub_cons rfl (look_sub_cons rfl (look_sub_cons rfl (look_sub_cons rfl look_sub_nil)))) (List.Sublist.refl _)
  cases hO : okO l i k with
  | false =>
    rw [rr_o hm hs h1 h2 hi1 hki hO]
    repeat (first | refine stp ?_ | (refine sti ?_; intro _) | refine stf ?_ | (refine stb ?_; intro _))
    refine G.ret rfl (.cons (.tmp rfl) .nil) (Φ' := []) (M' := []) inferInstance (List.nil_sublist _) ⟨?_, rfl, rfl⟩
    rfl
  | true =>
    repeat (first | refine stp ?_ | (refine sti ?_; intro _) | refine stf ?_ | (refine stb ?_; intro _))
    exact G.again (S := Nat) (k + 1) (by omega) ⟨hki, fun j hj => (Nat.lt_succ_iff_lt_or_eq.1 hj).elim (hall j) (fun e => by rw [e, hO])⟩ inferInstance (look_sub_cons rfl (look_sub_cons rfl (look_sub_cons rfl look_sub_nil))) (List.Sublist.refl _)
end Go.Rail
