/- The law of levels, walked. -/
import Derived.Test.YtoiepfapghnccaaAGLaw
namespace Go.Rail
open Go Go.Proofs
set_option linter.unusedSimpArgs false
set_option linter.unusedVariables false
set_option maxHeartbeats 400000
set_option maxRecDepth 4000
attribute [local irreducible] OpK G W LW wpListIn Exit.then Exit.inBlock Post rounds opRun bodyPostM intOp

attribute [local irreducible] lexN cmpW cmpA cmpK cmpI makeS setK joinS clashS mayS rightS errG edgesR levelsR errR readyR ordG setsOf clG edgesG edgesI mayG rawG levelsI cntP

def belB (l : List Sets) (i q : Nat) : Bool := decide (levG l i = 0) || (List.range q).any fun k => clG l k i && decide (levG l k + 1 = levG l i)
theorem belB_succ (l : List Sets) (i q : Nat) : belB l i (q + 1) = (belB l i q || (clG l q i && decide (levG l q + 1 = levG l i))) := by
  unfold belB
  rw [List.range_succ, List.any_append]
  simp [Bool.or_assoc]
theorem belB_end (l : List Sets) (i : Nat) : belB l i i = true := by
  unfold belB
  rcases lev_cases l i with h | ⟨j, hj, hc, e⟩
  · rw [decide_eq_true h]; rfl
  · rw [Bool.or_eq_true]
    right
    exact List.any_eq_true.2 ⟨j, List.mem_range.2 hj, by rw [hc, decide_eq_true e.symm]; rfl⟩
theorem levelsI_len (l : List Sets) : (levelsI l).length = l.length := by with_unfolding_all exact (by simp : ((List.range l.length).map fun k => (levG l k : Int)).length = l.length)
theorem levelsI_get (l : List Sets) {k : Nat} (h : k < (levelsI l).length) : (levelsI l)[k] = (levG l k : Int) := by
  have h2 : ((List.range l.length).map fun k => (levG l k : Int))[k]? = some (levG l k : Int) := by
    rw [levelsI_len] at h
    simp [h]
  have h3 : (levelsI l)[k]? = some (levG l k : Int) := by with_unfolding_all exact h2
  exact (List.getElem?_eq_some_iff.1 h3).2
theorem lv_err {l : List Sets} (h : mayG l = true) : errG l = 0 := by
  have : errG l = if mayG l then 0 else 1 := by with_unfolding_all rfl
  rw [this, h]; rfl
theorem lv_edges {l : List Sets} (h : mayG l = true) : edgesR l = edgesI l := by
  have : edgesR l = if mayG l then edgesI l else [] := by with_unfolding_all rfl
  rw [this, h]; rfl
theorem lv_levels {l : List Sets} (h : mayG l = true) : levelsR l = levelsI l := by
  have : levelsR l = if mayG l then levelsI l else [] := by with_unfolding_all rfl
  rw [this, h]; rfl
structure CnSt where
  i : Nat
  k : Nat
set_option maxHeartbeats 4000000 in
theorem glevels_walk (v : Value) (raws : List RawS) (hr : okRaws raws) : FnV Try.prog 10 [v] [fRp v raws] (.bool true) := by
  have hS := gsets_spec v raws hr
  have hm := rawG_may raws
  have hfit := rawG_fit raws
  have hlen := rawG_len raws
  generalize rawG raws = l at hS hm hfit hlen
  have hlx : l.length ≤ 1000000 := by omega
  have hEl := edgesI_length l
  have hcap := edges_few hm
  have hLl := levelsI_len l
  have e1 : ∀ v4, Fn Try.prog 39 [v4] [fRp v4 l] [] (fun u Φ' M' => ∃ sv, u = tupE 0 sv ∧ Φ' = [fRp sv (levelsI l)] ∧ M' = []) := fun v4 => by
    have e1 := (levels_spec v4 l hlx hfit).givenT
    rwa [lv_err hm, lv_levels hm] at e1
  have e2 : ∀ v4, Fn Try.prog 37 [v4] [fRp v4 l] [] (fun u Φ' M' => ∃ sv, u = tupE 0 sv ∧ Φ' = [fRp sv (edgesI l)] ∧ M' = []) := fun v4 => by
    have e1 := (edges_spec v4 l hlx hfit).givenT
    rwa [lv_err hm, lv_edges hm] at e1
  refine Fn.enter Try.func10 rfl Try.ntmps10 (by simp) (fun I0 w0 => ?_)
  repeat (first | refine stp ?_ | (refine k_indexAddr ?_; first | (refine o_ixA _ rfl rfl rfl rfl rfl (h := ?_); intro _) | (refine o_ixB rfl rfl rfl rfl (h := ?_); intro _)) | (refine k_load ?_; refine o_loadF rfl rfl rfl rfl ?_) | (refine stb ?_; intro _))
  refine o_callV rfl rfl rfl rfl gawake_spec rfl ?_
  repeat (first | refine stp ?_ | (refine k_indexAddr ?_; first | (refine o_ixA _ rfl rfl rfl rfl rfl (h := ?_); intro _) | (refine o_ixB rfl rfl rfl rfl (h := ?_); intro _)) | (refine k_load ?_; refine o_loadF rfl rfl rfl rfl ?_) | (refine stb ?_; intro _))
  refine o_callD rfl rfl rfl rfl hS ?_
  intro v4
  repeat (first | refine stp ?_ | (refine k_indexAddr ?_; first | (refine o_ixA _ rfl rfl rfl rfl rfl (h := ?_); intro _) | (refine o_ixB rfl rfl rfl rfl (h := ?_); intro _)) | (refine k_load ?_; refine o_loadF rfl rfl rfl rfl ?_) | (refine stb ?_; intro _))
  refine o_callT (mk := tupE 0) (ψ := fun sv => fRp sv (levelsI l)) rfl rfl rfl rfl (e1 v4) ?_
  intro v5
  unfold tupE
  repeat (first | refine stp ?_ | (refine k_indexAddr ?_; first | (refine o_ixA _ rfl rfl rfl rfl rfl (h := ?_); intro _) | (refine o_ixB rfl rfl rfl rfl (h := ?_); intro _)) | (refine k_load ?_; refine o_loadF rfl rfl rfl rfl ?_) | (refine stb ?_; intro _))
  refine o_callT (mk := tupE 0) (ψ := fun sv => fRp sv (edgesI l)) rfl rfl rfl rfl (e2 v4) ?_
  intro v7
  unfold tupE
  repeat (first | refine stp ?_ | (refine k_indexAddr ?_; first | (refine o_ixA _ rfl rfl rfl rfl rfl (h := ?_); intro _) | (refine o_ixB rfl rfl rfl rfl (h := ?_); intro _)) | (refine k_load ?_; refine o_loadF rfl rfl rfl rfl ?_) | (refine stb ?_; intro _))
  refine W.loopI (fun (i : Nat) => ([fRp v4 l, fRp v5 (levelsI l), fRp v7 (edgesI l)], [(3, .bool true), (4, v4), (5, v5), (7, v7), (9, .int .i64 i)], [])) (fun i => i ≤ l.length) (fun i => l.length - i) 0 (Nat.zero_le _) inferInstance (look_sub_cons rfl (look_sub_cons rfl (look_sub_cons rfl (look_sub_cons rfl (look_sub_cons rfl look_sub_nil))))) (List.Sublist.refl _) ?_
  intro i hi
  dsimp only
  by_cases hi0 : i = l.length
  case neg =>
    have hi1 : i < l.length := by omega
    have hiL : i < (levelsI l).length := by omega
    have hgi := levelsI_get l hiL
    have hli := lev_le l i
    have hsi := hfit l[i] (List.getElem_mem hi1)
    repeat (first | refine stp ?_ | (refine k_indexAddr ?_; first | (refine o_ixA _ rfl rfl rfl rfl rfl (h := ?_); intro _) | (refine o_ixB rfl rfl rfl rfl (h := ?_); intro _)) | (refine k_load ?_; refine o_loadF rfl rfl rfl rfl ?_) | (refine stb ?_; intro _))
    rw [show decide ((levelsI l)[i] = 0) = belB l i 0 from by
      unfold belB
      rw [hgi]
      simp]
    refine W.loopI (fun (s : RiSt) => ([fRp v4 l, fRp v5 (levelsI l), fRp v7 (edgesI l)], [(3, .bool true), (4, v4), (5, v5), (7, v7), (9, .int .i64 i), (10, .bool s.is), (11, .int .i64 s.q)], [])) (fun s => s.q ≤ i ∧ s.is = belB l i s.q) (fun s => i - s.q) ⟨0, belB l i 0⟩ ⟨Nat.zero_le _, rfl⟩ inferInstance (look_sub_cons rfl (look_sub_cons rfl (look_sub_cons rfl (look_sub_cons rfl (look_sub_cons rfl (look_sub_cons rfl (look_sub_cons rfl look_sub_nil))))))) (List.Sublist.refl _) ?_
    rintro ⟨q, is⟩ ⟨hq, his⟩
    dsimp only at hq his ⊢
    by_cases hq0 : q = i
    · subst hq0
      rw [belB_end] at his
      subst his
      repeat (first | refine stp ?_ | (refine k_indexAddr ?_; first | (refine o_ixA _ rfl rfl rfl rfl rfl (h := ?_); intro _) | (refine o_ixB rfl rfl rfl rfl (h := ?_); intro _)) | (refine k_load ?_; refine o_loadF rfl rfl rfl rfl ?_) | (refine stb ?_; intro _))
      exact G.again (S := Nat) (q + 1) (by omega) (by omega) inferInstance (look_sub_cons rfl (look_sub_cons rfl (look_sub_cons rfl (look_sub_cons rfl (look_sub_cons rfl look_sub_nil))))) (List.Sublist.refl _)
    have hq1 : q < i := by omega
    have hql : q < l.length := by omega
    have hqL : q < (levelsI l).length := by omega
    have hgq := levelsI_get l hqL
    have hlq := lev_le l q
    have hsq := hfit l[q] (List.getElem_mem hql)
    have hcl := clG_eq hql hi1
    have hbs := belB_succ l i q
    rw [← his, hcl] at hbs
    cases hc : clashS l[q] l[i] with
    | true =>
      have hlt := lev_lt hq1 (by rw [hcl]; exact hc)
      rw [hc, Bool.true_and] at hbs
      repeat (first | refine stp ?_ | (refine k_indexAddr ?_; first | (refine o_ixA _ rfl rfl rfl rfl rfl (h := ?_); intro _) | (refine o_ixB rfl rfl rfl rfl (h := ?_); intro _)) | (refine k_load ?_; refine o_loadF rfl rfl rfl rfl ?_) | (refine stb ?_; intro _))
      refine W.draw 9 [⟨?v0_1, fun _ z => []⟩, ⟨?v1_1, fun _ z => []⟩, ⟨fun _ z => z, fun _ z => [fPt z l[q]]⟩, ⟨fun _ z => z, fun _ z => [fRp z l[q]]⟩, ⟨?v4_1, fun _ z => []⟩, ⟨?v5_1, fun _ z => []⟩, ⟨fun _ z => z, fun _ z => [fPt z l[i]]⟩, ⟨fun _ z => z, fun _ z => [fRp z l[i]]⟩, ⟨?v8_1, fun _ z => []⟩] [[], [], [0, 1], [2], [], [], [4, 5], [6], [3, 7]] [8] (by kernel_rfl) (by kernel_rfl) (by kernel_rfl) (by kernel_rfl) ?loc_1 ?ops_1 ?rest_1
      case ops_1 =>
        simp only [AllQ, Nat.reduceAdd, and_true]
        refine ⟨?_, ?_, ?_, ?_, ?_, ?_, ?_, ?_, ?_⟩
        · intro c z0 Φr Lr K hK; dsimp only [dstOf, kval, kfac, ancE,  ancF, getD_z, getD_s, List.getElem?_cons_zero, List.getElem?_cons_succ, List.getElem?_nil, Option.getD_some, Option.getD_none, List.nil_append, List.cons_append, Option.getD] at hK ⊢; refine stp ?_; exact hK z0
        · intro c z0 Φr Lr K hK; dsimp only [dstOf, kval, kfac, ancE,  ancF, getD_z, getD_s, List.getElem?_cons_zero, List.getElem?_cons_succ, List.getElem?_nil, Option.getD_some, Option.getD_none, List.nil_append, List.cons_append, Option.getD] at hK ⊢; refine stp ?_; exact hK z0
        · intro c z0 Φr Lr K hK; dsimp only [dstOf, kval, kfac, ancE,  ancF, getD_z, getD_s, List.getElem?_cons_zero, List.getElem?_cons_succ, List.getElem?_nil, Option.getD_some, Option.getD_none, List.nil_append, List.cons_append, Option.getD] at hK ⊢; refine o_idxN q rfl rfl rfl rfl rfl hql ?_; intro p; exact hK _
        · intro c z0 Φr Lr K hK; dsimp only [dstOf, kval, kfac, ancE,  ancF, getD_z, getD_s, List.getElem?_cons_zero, List.getElem?_cons_succ, List.getElem?_nil, Option.getD_some, Option.getD_none, List.nil_append, List.cons_append, Option.getD] at hK ⊢; refine o_loadR rfl rfl rfl rfl ?_; intro p; exact hK _
        · intro c z0 Φr Lr K hK; dsimp only [dstOf, kval, kfac, ancE,  ancF, getD_z, getD_s, List.getElem?_cons_zero, List.getElem?_cons_succ, List.getElem?_nil, Option.getD_some, Option.getD_none, List.nil_append, List.cons_append, Option.getD] at hK ⊢; refine stp ?_; exact hK z0
        · intro c z0 Φr Lr K hK; dsimp only [dstOf, kval, kfac, ancE,  ancF, getD_z, getD_s, List.getElem?_cons_zero, List.getElem?_cons_succ, List.getElem?_nil, Option.getD_some, Option.getD_none, List.nil_append, List.cons_append, Option.getD] at hK ⊢; refine stp ?_; exact hK z0
        · intro c z0 Φr Lr K hK; dsimp only [dstOf, kval, kfac, ancE,  ancF, getD_z, getD_s, List.getElem?_cons_zero, List.getElem?_cons_succ, List.getElem?_nil, Option.getD_some, Option.getD_none, List.nil_append, List.cons_append, Option.getD] at hK ⊢; refine o_idxN i rfl rfl rfl rfl rfl hi1 ?_; intro p; exact hK _
        · intro c z0 Φr Lr K hK; dsimp only [dstOf, kval, kfac, ancE,  ancF, getD_z, getD_s, List.getElem?_cons_zero, List.getElem?_cons_succ, List.getElem?_nil, Option.getD_some, Option.getD_none, List.nil_append, List.cons_append, Option.getD] at hK ⊢; refine o_loadR rfl rfl rfl rfl ?_; intro p; exact hK _
        · intro c z0 Φr Lr K hK; dsimp only [dstOf, kval, kfac, ancE,  ancF, getD_z, getD_s, List.getElem?_cons_zero, List.getElem?_cons_succ, List.getElem?_nil, Option.getD_some, Option.getD_none, List.nil_append, List.cons_append, Option.getD] at hK ⊢; refine o_callV rfl rfl rfl rfl (clashS_spec _ _ l[q] l[i] hsq hsi) (congrArg Value.bool hc) ?_; exact hK z0
      case loc_1 =>
        simp only [AllL, Nat.reduceAdd, and_true]
        refine ⟨?_, ?_, ?_, ?_, ?_, ?_, ?_, ?_, ?_⟩
        all_goals (intro c c' z h; first | exact ⟨rfl, rfl⟩ | (skip))
      intro c
      dsimp only [dstOf, kval, kfac, ancE,  ancF, getD_z, getD_s, List.getElem?_cons_zero, List.getElem?_cons_succ, List.getElem?_nil, Option.getD_some, Option.getD_none, List.nil_append, List.cons_append, List.drop_succ_cons, List.drop_zero, Option.getD]
      repeat (first | refine stp ?_ | (refine k_indexAddr ?_; first | (refine o_ixA _ rfl rfl rfl rfl rfl (h := ?_); intro _) | (refine o_ixB rfl rfl rfl rfl (h := ?_); intro _)) | (refine k_load ?_; refine o_loadF rfl rfl rfl rfl ?_) | (refine stb ?_; intro _))
      refine W.draw 12 [⟨?v0_2, fun _ z => []⟩, ⟨?v1_2, fun _ z => []⟩, ⟨?v2_2, fun _ z => []⟩, ⟨?v3_2, fun _ z => []⟩, ⟨fun _ z => z, fun _ z => [fPt z (levelsI l)[q]]⟩, ⟨?v5_2, fun _ z => []⟩, ⟨?v6_2, fun _ z => []⟩, ⟨?v7_2, fun _ z => []⟩, ⟨fun _ z => z, fun _ z => [fPt z (levelsI l)[i]]⟩, ⟨?v9_2, fun _ z => []⟩, ⟨?v10_2, fun _ z => []⟩, ⟨?v11_2, fun _ z => []⟩] [[], [0], [1], [1], [1, 2, 3], [1, 4], [1], [1], [1, 6, 7], [1, 8], [1, 5, 9], [1, 10]] [11] (by kernel_rfl) (by kernel_rfl) (by kernel_rfl) (by kernel_rfl) ?loc_2 ?ops_2 ?rest_2
      case ops_2 =>
        simp only [AllQ, Nat.reduceAdd, and_true]
        refine ⟨?_, ?_, ?_, ?_, ?_, ?_, ?_, ?_, ?_, ?_, ?_, ?_⟩
        · intro c z0 Φr Lr K hK; dsimp only [dstOf, kval, kfac, ancE,  ancF, getD_z, getD_s, List.getElem?_cons_zero, List.getElem?_cons_succ, List.getElem?_nil, Option.getD_some, Option.getD_none, List.nil_append, List.cons_append, Option.getD] at hK ⊢; refine stp ?_; exact hK z0
        · intro c z0 Φr Lr K hK; dsimp only [dstOf, kval, kfac, ancE,  ancF, getD_z, getD_s, List.getElem?_cons_zero, List.getElem?_cons_succ, List.getElem?_nil, Option.getD_some, Option.getD_none, List.nil_append, List.cons_append, Option.getD] at hK ⊢; refine stp ?_; exact hK z0
        · intro c z0 Φr Lr K hK; dsimp only [dstOf, kval, kfac, ancE,  ancF, getD_z, getD_s, List.getElem?_cons_zero, List.getElem?_cons_succ, List.getElem?_nil, Option.getD_some, Option.getD_none, List.nil_append, List.cons_append, Option.getD] at hK ⊢; refine stp ?_; exact hK z0
        · intro c z0 Φr Lr K hK; dsimp only [dstOf, kval, kfac, ancE,  ancF, getD_z, getD_s, List.getElem?_cons_zero, List.getElem?_cons_succ, List.getElem?_nil, Option.getD_some, Option.getD_none, List.nil_append, List.cons_append, Option.getD] at hK ⊢; refine stp ?_; exact hK z0
        · intro c z0 Φr Lr K hK; dsimp only [dstOf, kval, kfac, ancE,  ancF, getD_z, getD_s, List.getElem?_cons_zero, List.getElem?_cons_succ, List.getElem?_nil, Option.getD_some, Option.getD_none, List.nil_append, List.cons_append, Option.getD] at hK ⊢; refine o_idxN q rfl rfl rfl rfl rfl hqL ?_; intro p; exact hK _
        · intro c z0 Φr Lr K hK; dsimp only [dstOf, kval, kfac, ancE,  ancF, getD_z, getD_s, List.getElem?_cons_zero, List.getElem?_cons_succ, List.getElem?_nil, Option.getD_some, Option.getD_none, List.nil_append, List.cons_append, Option.getD] at hK ⊢; (first | refine stp ?_ | refine o_loadF rfl rfl rfl rfl ?_); exact hK z0
        · intro c z0 Φr Lr K hK; dsimp only [dstOf, kval, kfac, ancE,  ancF, getD_z, getD_s, List.getElem?_cons_zero, List.getElem?_cons_succ, List.getElem?_nil, Option.getD_some, Option.getD_none, List.nil_append, List.cons_append, Option.getD] at hK ⊢; refine stp ?_; exact hK z0
        · intro c z0 Φr Lr K hK; dsimp only [dstOf, kval, kfac, ancE,  ancF, getD_z, getD_s, List.getElem?_cons_zero, List.getElem?_cons_succ, List.getElem?_nil, Option.getD_some, Option.getD_none, List.nil_append, List.cons_append, Option.getD] at hK ⊢; refine stp ?_; exact hK z0
        · intro c z0 Φr Lr K hK; dsimp only [dstOf, kval, kfac, ancE,  ancF, getD_z, getD_s, List.getElem?_cons_zero, List.getElem?_cons_succ, List.getElem?_nil, Option.getD_some, Option.getD_none, List.nil_append, List.cons_append, Option.getD] at hK ⊢; refine o_idxN i rfl rfl rfl rfl rfl hiL ?_; intro p; exact hK _
        · intro c z0 Φr Lr K hK; dsimp only [dstOf, kval, kfac, ancE,  ancF, getD_z, getD_s, List.getElem?_cons_zero, List.getElem?_cons_succ, List.getElem?_nil, Option.getD_some, Option.getD_none, List.nil_append, List.cons_append, Option.getD] at hK ⊢; (first | refine stp ?_ | refine o_loadF rfl rfl rfl rfl ?_); exact hK z0
        · intro c z0 Φr Lr K hK; dsimp only [dstOf, kval, kfac, ancE,  ancF, getD_z, getD_s, List.getElem?_cons_zero, List.getElem?_cons_succ, List.getElem?_nil, Option.getD_some, Option.getD_none, List.nil_append, List.cons_append, Option.getD] at hK ⊢; refine o_int rfl rfl rfl rfl (i_geq_f (by omega)) ?_; exact hK z0
        · intro c z0 Φr Lr K hK; dsimp only [dstOf, kval, kfac, ancE,  ancF, getD_z, getD_s, List.getElem?_cons_zero, List.getElem?_cons_succ, List.getElem?_nil, Option.getD_some, Option.getD_none, List.nil_append, List.cons_append, Option.getD] at hK ⊢; refine stp ?_; exact hK z0
      case loc_2 =>
        simp only [AllL, Nat.reduceAdd, and_true]
        refine ⟨?_, ?_, ?_, ?_, ?_, ?_, ?_, ?_, ?_, ?_, ?_, ?_⟩
        all_goals (intro c c' z h; first | exact ⟨rfl, rfl⟩ | (skip))
      intro c
      dsimp only [dstOf, kval, kfac, ancE,  ancF, getD_z, getD_s, List.getElem?_cons_zero, List.getElem?_cons_succ, List.getElem?_nil, Option.getD_some, Option.getD_none, List.nil_append, List.cons_append, List.drop_succ_cons, List.drop_zero, Option.getD]
      repeat (first | refine stp ?_ | (refine k_indexAddr ?_; first | (refine o_ixA _ rfl rfl rfl rfl rfl (h := ?_); intro _) | (refine o_ixB rfl rfl rfl rfl (h := ?_); intro _)) | (refine k_load ?_; refine o_loadF rfl rfl rfl rfl ?_) | (refine stb ?_; intro _))
      cases is with
      | true =>
        refine W.draw 16 [⟨?v0_3, fun _ z => []⟩, ⟨?v1_3, fun _ z => []⟩, ⟨?v2_3, fun _ z => []⟩, ⟨?v3_3, fun _ z => []⟩, ⟨?v4_3, fun _ z => []⟩, ⟨?v5_3, fun _ z => []⟩, ⟨?v6_3, fun _ z => []⟩, ⟨?v7_3, fun _ z => []⟩, ⟨?v8_3, fun _ z => []⟩, ⟨?v9_3, fun _ z => []⟩, ⟨?v10_3, fun _ z => []⟩, ⟨?v11_3, fun _ z => []⟩, ⟨?v12_3, fun _ z => []⟩, ⟨?v13_3, fun _ z => []⟩, ⟨?v14_3, fun _ z => []⟩, ⟨?v15_3, fun _ z => []⟩] [[], [0], [1], [1, 2], [3], [3], [3, 4, 5], [3, 6], [3], [3], [3, 8, 9], [3, 10], [3, 11], [3, 7, 12], [1, 3, 13], [1, 14]] [15] (by kernel_rfl) (by kernel_rfl) (by kernel_rfl) (by kernel_rfl) ?loc_3 ?ops_3 ?rest_3
        case ops_3 =>
          simp only [AllQ, Nat.reduceAdd, and_true]
          refine ⟨?_, ?_, ?_, ?_, ?_, ?_, ?_, ?_, ?_, ?_, ?_, ?_, ?_, ?_, ?_, ?_⟩
          · intro c z0 Φr Lr K hK; dsimp only [dstOf, kval, kfac, ancE,  ancF, getD_z, getD_s, List.getElem?_cons_zero, List.getElem?_cons_succ, List.getElem?_nil, Option.getD_some, Option.getD_none, List.nil_append, List.cons_append, Option.getD] at hK ⊢; refine stp ?_; exact hK z0
          · intro c z0 Φr Lr K hK; dsimp only [dstOf, kval, kfac, ancE,  ancF, getD_z, getD_s, List.getElem?_cons_zero, List.getElem?_cons_succ, List.getElem?_nil, Option.getD_some, Option.getD_none, List.nil_append, List.cons_append, Option.getD] at hK ⊢; refine stp ?_; exact hK z0
          · intro c z0 Φr Lr K hK; dsimp only [dstOf, kval, kfac, ancE,  ancF, getD_z, getD_s, List.getElem?_cons_zero, List.getElem?_cons_succ, List.getElem?_nil, Option.getD_some, Option.getD_none, List.nil_append, List.cons_append, Option.getD] at hK ⊢; refine stp ?_; exact hK z0
          · intro c z0 Φr Lr K hK; dsimp only [dstOf, kval, kfac, ancE,  ancF, getD_z, getD_s, List.getElem?_cons_zero, List.getElem?_cons_succ, List.getElem?_nil, Option.getD_some, Option.getD_none, List.nil_append, List.cons_append, Option.getD] at hK ⊢; refine stp ?_; exact hK z0
          · intro c z0 Φr Lr K hK; dsimp only [dstOf, kval, kfac, ancE,  ancF, getD_z, getD_s, List.getElem?_cons_zero, List.getElem?_cons_succ, List.getElem?_nil, Option.getD_some, Option.getD_none, List.nil_append, List.cons_append, Option.getD] at hK ⊢; refine stp ?_; exact hK z0
          · intro c z0 Φr Lr K hK; dsimp only [dstOf, kval, kfac, ancE,  ancF, getD_z, getD_s, List.getElem?_cons_zero, List.getElem?_cons_succ, List.getElem?_nil, Option.getD_some, Option.getD_none, List.nil_append, List.cons_append, Option.getD] at hK ⊢; refine stp ?_; exact hK z0
          · intro c z0 Φr Lr K hK; dsimp only [dstOf, kval, kfac, ancE,  ancF, getD_z, getD_s, List.getElem?_cons_zero, List.getElem?_cons_succ, List.getElem?_nil, Option.getD_some, Option.getD_none, List.nil_append, List.cons_append, Option.getD] at hK ⊢; refine stp ?_; exact hK z0
          · intro c z0 Φr Lr K hK; dsimp only [dstOf, kval, kfac, ancE,  ancF, getD_z, getD_s, List.getElem?_cons_zero, List.getElem?_cons_succ, List.getElem?_nil, Option.getD_some, Option.getD_none, List.nil_append, List.cons_append, Option.getD] at hK ⊢; (first | refine stp ?_ | refine o_loadF rfl rfl rfl rfl ?_); exact hK z0
          · intro c z0 Φr Lr K hK; dsimp only [dstOf, kval, kfac, ancE,  ancF, getD_z, getD_s, List.getElem?_cons_zero, List.getElem?_cons_succ, List.getElem?_nil, Option.getD_some, Option.getD_none, List.nil_append, List.cons_append, Option.getD] at hK ⊢; refine stp ?_; exact hK z0
          · intro c z0 Φr Lr K hK; dsimp only [dstOf, kval, kfac, ancE,  ancF, getD_z, getD_s, List.getElem?_cons_zero, List.getElem?_cons_succ, List.getElem?_nil, Option.getD_some, Option.getD_none, List.nil_append, List.cons_append, Option.getD] at hK ⊢; refine stp ?_; exact hK z0
          · intro c z0 Φr Lr K hK; dsimp only [dstOf, kval, kfac, ancE,  ancF, getD_z, getD_s, List.getElem?_cons_zero, List.getElem?_cons_succ, List.getElem?_nil, Option.getD_some, Option.getD_none, List.nil_append, List.cons_append, Option.getD] at hK ⊢; refine stp ?_; exact hK z0
          · intro c z0 Φr Lr K hK; dsimp only [dstOf, kval, kfac, ancE,  ancF, getD_z, getD_s, List.getElem?_cons_zero, List.getElem?_cons_succ, List.getElem?_nil, Option.getD_some, Option.getD_none, List.nil_append, List.cons_append, Option.getD] at hK ⊢; (first | refine stp ?_ | refine o_loadF rfl rfl rfl rfl ?_); exact hK z0
          · intro c z0 Φr Lr K hK; dsimp only [dstOf, kval, kfac, ancE,  ancF, getD_z, getD_s, List.getElem?_cons_zero, List.getElem?_cons_succ, List.getElem?_nil, Option.getD_some, Option.getD_none, List.nil_append, List.cons_append, Option.getD] at hK ⊢; refine stp ?_; exact hK z0
          · intro c z0 Φr Lr K hK; dsimp only [dstOf, kval, kfac, ancE,  ancF, getD_z, getD_s, List.getElem?_cons_zero, List.getElem?_cons_succ, List.getElem?_nil, Option.getD_some, Option.getD_none, List.nil_append, List.cons_append, Option.getD] at hK ⊢; refine stp ?_; exact hK z0
          · intro c z0 Φr Lr K hK; dsimp only [dstOf, kval, kfac, ancE,  ancF, getD_z, getD_s, List.getElem?_cons_zero, List.getElem?_cons_succ, List.getElem?_nil, Option.getD_some, Option.getD_none, List.nil_append, List.cons_append, Option.getD] at hK ⊢; refine stp ?_; exact hK z0
          · intro c z0 Φr Lr K hK; dsimp only [dstOf, kval, kfac, ancE,  ancF, getD_z, getD_s, List.getElem?_cons_zero, List.getElem?_cons_succ, List.getElem?_nil, Option.getD_some, Option.getD_none, List.nil_append, List.cons_append, Option.getD] at hK ⊢; refine stp ?_; exact hK z0
        case loc_3 =>
          simp only [AllL, Nat.reduceAdd, and_true]
          refine ⟨?_, ?_, ?_, ?_, ?_, ?_, ?_, ?_, ?_, ?_, ?_, ?_, ?_, ?_, ?_, ?_⟩
          all_goals exact fun _ _ _ _ => ⟨rfl, rfl⟩
        intro c
        dsimp only [dstOf, kval, kfac, ancE,  ancF, getD_z, getD_s, List.getElem?_cons_zero, List.getElem?_cons_succ, List.getElem?_nil, Option.getD_some, Option.getD_none, List.nil_append, List.cons_append, List.drop_succ_cons, List.drop_zero, Option.getD]
        repeat (first | refine stp ?_ | (refine k_indexAddr ?_; first | (refine o_ixA _ rfl rfl rfl rfl rfl (h := ?_); intro _) | (refine o_ixB rfl rfl rfl rfl (h := ?_); intro _)) | (refine k_load ?_; refine o_loadF rfl rfl rfl rfl ?_) | (refine stb ?_; intro _))
        exact G.again (S := RiSt) ⟨q + 1, true⟩ (by dsimp only; omega) ⟨by dsimp only; omega, by rw [hbs]; rfl⟩ inferInstance (look_sub_cons rfl (look_sub_cons rfl (look_sub_cons rfl (look_sub_cons rfl (look_sub_cons rfl (look_sub_cons rfl (look_sub_cons rfl look_sub_nil))))))) (List.Sublist.refl _)
      | false =>
        have hde : decide ((levelsI l)[q] = (levelsI l)[i] - 1) = decide (levG l q + 1 = levG l i) := decide_eq_decide.2 (by omega)
        refine W.draw 16 [⟨?v0_4, fun _ z => []⟩, ⟨?v1_4, fun _ z => []⟩, ⟨?v2_4, fun _ z => []⟩, ⟨?v3_4, fun _ z => []⟩, ⟨?v4_4, fun _ z => []⟩, ⟨?v5_4, fun _ z => []⟩, ⟨fun _ z => z, fun _ z => [fPt z (levelsI l)[q]]⟩, ⟨?v7_4, fun _ z => []⟩, ⟨?v8_4, fun _ z => []⟩, ⟨?v9_4, fun _ z => []⟩, ⟨fun _ z => z, fun _ z => [fPt z (levelsI l)[i]]⟩, ⟨?v11_4, fun _ z => []⟩, ⟨?v12_4, fun _ z => []⟩, ⟨?v13_4, fun _ z => []⟩, ⟨?v14_4, fun _ z => []⟩, ⟨?v15_4, fun _ z => []⟩] [[], [0], [1], [1, 2], [3], [3], [3, 4, 5], [3, 6], [3], [3], [3, 8, 9], [3, 10], [3, 11], [3, 7, 12], [1, 3, 13], [1, 14]] [15] (by kernel_rfl) (by kernel_rfl) (by kernel_rfl) (by kernel_rfl) ?loc_4 ?ops_4 ?rest_4
        case ops_4 =>
          simp only [AllQ, Nat.reduceAdd, and_true]
          refine ⟨?_, ?_, ?_, ?_, ?_, ?_, ?_, ?_, ?_, ?_, ?_, ?_, ?_, ?_, ?_, ?_⟩
          · intro c z0 Φr Lr K hK; dsimp only [dstOf, kval, kfac, ancE,  ancF, getD_z, getD_s, List.getElem?_cons_zero, List.getElem?_cons_succ, List.getElem?_nil, Option.getD_some, Option.getD_none, List.nil_append, List.cons_append, Option.getD] at hK ⊢; refine stp ?_; exact hK z0
          · intro c z0 Φr Lr K hK; dsimp only [dstOf, kval, kfac, ancE,  ancF, getD_z, getD_s, List.getElem?_cons_zero, List.getElem?_cons_succ, List.getElem?_nil, Option.getD_some, Option.getD_none, List.nil_append, List.cons_append, Option.getD] at hK ⊢; refine stp ?_; exact hK z0
          · intro c z0 Φr Lr K hK; dsimp only [dstOf, kval, kfac, ancE,  ancF, getD_z, getD_s, List.getElem?_cons_zero, List.getElem?_cons_succ, List.getElem?_nil, Option.getD_some, Option.getD_none, List.nil_append, List.cons_append, Option.getD] at hK ⊢; refine stp ?_; exact hK z0
          · intro c z0 Φr Lr K hK; dsimp only [dstOf, kval, kfac, ancE,  ancF, getD_z, getD_s, List.getElem?_cons_zero, List.getElem?_cons_succ, List.getElem?_nil, Option.getD_some, Option.getD_none, List.nil_append, List.cons_append, Option.getD] at hK ⊢; refine stp ?_; exact hK z0
          · intro c z0 Φr Lr K hK; dsimp only [dstOf, kval, kfac, ancE,  ancF, getD_z, getD_s, List.getElem?_cons_zero, List.getElem?_cons_succ, List.getElem?_nil, Option.getD_some, Option.getD_none, List.nil_append, List.cons_append, Option.getD] at hK ⊢; refine stp ?_; exact hK z0
          · intro c z0 Φr Lr K hK; dsimp only [dstOf, kval, kfac, ancE,  ancF, getD_z, getD_s, List.getElem?_cons_zero, List.getElem?_cons_succ, List.getElem?_nil, Option.getD_some, Option.getD_none, List.nil_append, List.cons_append, Option.getD] at hK ⊢; refine stp ?_; exact hK z0
          · intro c z0 Φr Lr K hK; dsimp only [dstOf, kval, kfac, ancE,  ancF, getD_z, getD_s, List.getElem?_cons_zero, List.getElem?_cons_succ, List.getElem?_nil, Option.getD_some, Option.getD_none, List.nil_append, List.cons_append, Option.getD] at hK ⊢; refine o_idxN q rfl rfl rfl rfl rfl hqL ?_; intro p; exact hK _
          · intro c z0 Φr Lr K hK; dsimp only [dstOf, kval, kfac, ancE,  ancF, getD_z, getD_s, List.getElem?_cons_zero, List.getElem?_cons_succ, List.getElem?_nil, Option.getD_some, Option.getD_none, List.nil_append, List.cons_append, Option.getD] at hK ⊢; (first | refine stp ?_ | refine o_loadF rfl rfl rfl rfl ?_); exact hK z0
          · intro c z0 Φr Lr K hK; dsimp only [dstOf, kval, kfac, ancE,  ancF, getD_z, getD_s, List.getElem?_cons_zero, List.getElem?_cons_succ, List.getElem?_nil, Option.getD_some, Option.getD_none, List.nil_append, List.cons_append, Option.getD] at hK ⊢; refine stp ?_; exact hK z0
          · intro c z0 Φr Lr K hK; dsimp only [dstOf, kval, kfac, ancE,  ancF, getD_z, getD_s, List.getElem?_cons_zero, List.getElem?_cons_succ, List.getElem?_nil, Option.getD_some, Option.getD_none, List.nil_append, List.cons_append, Option.getD] at hK ⊢; refine stp ?_; exact hK z0
          · intro c z0 Φr Lr K hK; dsimp only [dstOf, kval, kfac, ancE,  ancF, getD_z, getD_s, List.getElem?_cons_zero, List.getElem?_cons_succ, List.getElem?_nil, Option.getD_some, Option.getD_none, List.nil_append, List.cons_append, Option.getD] at hK ⊢; refine o_idxN i rfl rfl rfl rfl rfl hiL ?_; intro p; exact hK _
          · intro c z0 Φr Lr K hK; dsimp only [dstOf, kval, kfac, ancE,  ancF, getD_z, getD_s, List.getElem?_cons_zero, List.getElem?_cons_succ, List.getElem?_nil, Option.getD_some, Option.getD_none, List.nil_append, List.cons_append, Option.getD] at hK ⊢; (first | refine stp ?_ | refine o_loadF rfl rfl rfl rfl ?_); exact hK z0
          · intro c z0 Φr Lr K hK; dsimp only [dstOf, kval, kfac, ancE,  ancF, getD_z, getD_s, List.getElem?_cons_zero, List.getElem?_cons_succ, List.getElem?_nil, Option.getD_some, Option.getD_none, List.nil_append, List.cons_append, Option.getD] at hK ⊢; refine o_int rfl rfl rfl rfl (i_sub (by omega) (by omega)) ?_; exact hK z0
          · intro c z0 Φr Lr K hK; dsimp only [dstOf, kval, kfac, ancE,  ancF, getD_z, getD_s, List.getElem?_cons_zero, List.getElem?_cons_succ, List.getElem?_nil, Option.getD_some, Option.getD_none, List.nil_append, List.cons_append, Option.getD] at hK ⊢; refine o_int rfl rfl rfl rfl i_eql_d ?_; exact hK z0
          · intro c z0 Φr Lr K hK; dsimp only [dstOf, kval, kfac, ancE,  ancF, getD_z, getD_s, List.getElem?_cons_zero, List.getElem?_cons_succ, List.getElem?_nil, Option.getD_some, Option.getD_none, List.nil_append, List.cons_append, Option.getD] at hK ⊢; refine stp ?_; exact hK z0
          · intro c z0 Φr Lr K hK; dsimp only [dstOf, kval, kfac, ancE,  ancF, getD_z, getD_s, List.getElem?_cons_zero, List.getElem?_cons_succ, List.getElem?_nil, Option.getD_some, Option.getD_none, List.nil_append, List.cons_append, Option.getD] at hK ⊢; refine stp ?_; exact hK z0
        case loc_4 =>
          simp only [AllL, Nat.reduceAdd, and_true]
          refine ⟨?_, ?_, ?_, ?_, ?_, ?_, ?_, ?_, ?_, ?_, ?_, ?_, ?_, ?_, ?_, ?_⟩
          all_goals (intro c c' z h; first | exact ⟨rfl, rfl⟩ | (skip))
        intro c
        dsimp only [dstOf, kval, kfac, ancE,  ancF, getD_z, getD_s, List.getElem?_cons_zero, List.getElem?_cons_succ, List.getElem?_nil, Option.getD_some, Option.getD_none, List.nil_append, List.cons_append, List.drop_succ_cons, List.drop_zero, Option.getD]
        repeat (first | refine stp ?_ | (refine k_indexAddr ?_; first | (refine o_ixA _ rfl rfl rfl rfl rfl (h := ?_); intro _) | (refine o_ixB rfl rfl rfl rfl (h := ?_); intro _)) | (refine k_load ?_; refine o_loadF rfl rfl rfl rfl ?_) | (refine stb ?_; intro _))
        exact G.again (S := RiSt) ⟨q + 1, decide ((levelsI l)[q] = (levelsI l)[i] - 1)⟩ (by dsimp only; omega) ⟨by dsimp only; omega, by rw [hbs, hde]; rfl⟩ inferInstance (look_sub_cons rfl (look_sub_cons rfl (look_sub_cons rfl (look_sub_cons rfl (look_sub_cons rfl (look_sub_cons rfl (look_sub_cons rfl look_sub_nil))))))) (List.Sublist.refl _)
    | false =>
      rw [hc, Bool.false_and, Bool.or_false] at hbs
      repeat (first | refine stp ?_ | (refine k_indexAddr ?_; first | (refine o_ixA _ rfl rfl rfl rfl rfl (h := ?_); intro _) | (refine o_ixB rfl rfl rfl rfl (h := ?_); intro _)) | (refine k_load ?_; refine o_loadF rfl rfl rfl rfl ?_) | (refine stb ?_; intro _))
      refine W.draw 9 [⟨?v0_5, fun _ z => []⟩, ⟨?v1_5, fun _ z => []⟩, ⟨fun _ z => z, fun _ z => [fPt z l[q]]⟩, ⟨fun _ z => z, fun _ z => [fRp z l[q]]⟩, ⟨?v4_5, fun _ z => []⟩, ⟨?v5_5, fun _ z => []⟩, ⟨fun _ z => z, fun _ z => [fPt z l[i]]⟩, ⟨fun _ z => z, fun _ z => [fRp z l[i]]⟩, ⟨?v8_5, fun _ z => []⟩] [[], [], [0, 1], [2], [], [], [4, 5], [6], [3, 7]] [8] (by kernel_rfl) (by kernel_rfl) (by kernel_rfl) (by kernel_rfl) ?loc_5 ?ops_5 ?rest_5
      case ops_5 =>
        simp only [AllQ, Nat.reduceAdd, and_true]
        refine ⟨?_, ?_, ?_, ?_, ?_, ?_, ?_, ?_, ?_⟩
        · intro c z0 Φr Lr K hK; dsimp only [dstOf, kval, kfac, ancE,  ancF, getD_z, getD_s, List.getElem?_cons_zero, List.getElem?_cons_succ, List.getElem?_nil, Option.getD_some, Option.getD_none, List.nil_append, List.cons_append, Option.getD] at hK ⊢; refine stp ?_; exact hK z0
        · intro c z0 Φr Lr K hK; dsimp only [dstOf, kval, kfac, ancE,  ancF, getD_z, getD_s, List.getElem?_cons_zero, List.getElem?_cons_succ, List.getElem?_nil, Option.getD_some, Option.getD_none, List.nil_append, List.cons_append, Option.getD] at hK ⊢; refine stp ?_; exact hK z0
        · intro c z0 Φr Lr K hK; dsimp only [dstOf, kval, kfac, ancE,  ancF, getD_z, getD_s, List.getElem?_cons_zero, List.getElem?_cons_succ, List.getElem?_nil, Option.getD_some, Option.getD_none, List.nil_append, List.cons_append, Option.getD] at hK ⊢; refine o_idxN q rfl rfl rfl rfl rfl hql ?_; intro p; exact hK _
        · intro c z0 Φr Lr K hK; dsimp only [dstOf, kval, kfac, ancE,  ancF, getD_z, getD_s, List.getElem?_cons_zero, List.getElem?_cons_succ, List.getElem?_nil, Option.getD_some, Option.getD_none, List.nil_append, List.cons_append, Option.getD] at hK ⊢; refine o_loadR rfl rfl rfl rfl ?_; intro p; exact hK _
        · intro c z0 Φr Lr K hK; dsimp only [dstOf, kval, kfac, ancE,  ancF, getD_z, getD_s, List.getElem?_cons_zero, List.getElem?_cons_succ, List.getElem?_nil, Option.getD_some, Option.getD_none, List.nil_append, List.cons_append, Option.getD] at hK ⊢; refine stp ?_; exact hK z0
        · intro c z0 Φr Lr K hK; dsimp only [dstOf, kval, kfac, ancE,  ancF, getD_z, getD_s, List.getElem?_cons_zero, List.getElem?_cons_succ, List.getElem?_nil, Option.getD_some, Option.getD_none, List.nil_append, List.cons_append, Option.getD] at hK ⊢; refine stp ?_; exact hK z0
        · intro c z0 Φr Lr K hK; dsimp only [dstOf, kval, kfac, ancE,  ancF, getD_z, getD_s, List.getElem?_cons_zero, List.getElem?_cons_succ, List.getElem?_nil, Option.getD_some, Option.getD_none, List.nil_append, List.cons_append, Option.getD] at hK ⊢; refine o_idxN i rfl rfl rfl rfl rfl hi1 ?_; intro p; exact hK _
        · intro c z0 Φr Lr K hK; dsimp only [dstOf, kval, kfac, ancE,  ancF, getD_z, getD_s, List.getElem?_cons_zero, List.getElem?_cons_succ, List.getElem?_nil, Option.getD_some, Option.getD_none, List.nil_append, List.cons_append, Option.getD] at hK ⊢; refine o_loadR rfl rfl rfl rfl ?_; intro p; exact hK _
        · intro c z0 Φr Lr K hK; dsimp only [dstOf, kval, kfac, ancE,  ancF, getD_z, getD_s, List.getElem?_cons_zero, List.getElem?_cons_succ, List.getElem?_nil, Option.getD_some, Option.getD_none, List.nil_append, List.cons_append, Option.getD] at hK ⊢; refine o_callV rfl rfl rfl rfl (clashS_spec _ _ l[q] l[i] hsq hsi) (congrArg Value.bool hc) ?_; exact hK z0
      case loc_5 =>
        simp only [AllL, Nat.reduceAdd, and_true]
        refine ⟨?_, ?_, ?_, ?_, ?_, ?_, ?_, ?_, ?_⟩
        all_goals (intro c c' z h; first | exact ⟨rfl, rfl⟩ | (skip))
      intro c
      dsimp only [dstOf, kval, kfac, ancE,  ancF, getD_z, getD_s, List.getElem?_cons_zero, List.getElem?_cons_succ, List.getElem?_nil, Option.getD_some, Option.getD_none, List.nil_append, List.cons_append, List.drop_succ_cons, List.drop_zero, Option.getD]
      repeat (first | refine stp ?_ | (refine k_indexAddr ?_; first | (refine o_ixA _ rfl rfl rfl rfl rfl (h := ?_); intro _) | (refine o_ixB rfl rfl rfl rfl (h := ?_); intro _)) | (refine k_load ?_; refine o_loadF rfl rfl rfl rfl ?_) | (refine stb ?_; intro _))
      refine W.draw 12 [⟨?v0_6, fun _ z => []⟩, ⟨?v1_6, fun _ z => []⟩, ⟨?v2_6, fun _ z => []⟩, ⟨?v3_6, fun _ z => []⟩, ⟨?v4_6, fun _ z => []⟩, ⟨?v5_6, fun _ z => []⟩, ⟨?v6_6, fun _ z => []⟩, ⟨?v7_6, fun _ z => []⟩, ⟨?v8_6, fun _ z => []⟩, ⟨?v9_6, fun _ z => []⟩, ⟨?v10_6, fun _ z => []⟩, ⟨?v11_6, fun _ z => []⟩] [[], [0], [1], [1], [1, 2, 3], [1, 4], [1], [1], [1, 6, 7], [1, 8], [1, 5, 9], [1, 10]] [11] (by kernel_rfl) (by kernel_rfl) (by kernel_rfl) (by kernel_rfl) ?loc_6 ?ops_6 ?rest_6
      case ops_6 =>
        simp only [AllQ, Nat.reduceAdd, and_true]
        refine ⟨?_, ?_, ?_, ?_, ?_, ?_, ?_, ?_, ?_, ?_, ?_, ?_⟩
        · intro c z0 Φr Lr K hK; dsimp only [dstOf, kval, kfac, ancE,  ancF, getD_z, getD_s, List.getElem?_cons_zero, List.getElem?_cons_succ, List.getElem?_nil, Option.getD_some, Option.getD_none, List.nil_append, List.cons_append, Option.getD] at hK ⊢; refine stp ?_; exact hK z0
        · intro c z0 Φr Lr K hK; dsimp only [dstOf, kval, kfac, ancE,  ancF, getD_z, getD_s, List.getElem?_cons_zero, List.getElem?_cons_succ, List.getElem?_nil, Option.getD_some, Option.getD_none, List.nil_append, List.cons_append, Option.getD] at hK ⊢; refine stp ?_; exact hK z0
        · intro c z0 Φr Lr K hK; dsimp only [dstOf, kval, kfac, ancE,  ancF, getD_z, getD_s, List.getElem?_cons_zero, List.getElem?_cons_succ, List.getElem?_nil, Option.getD_some, Option.getD_none, List.nil_append, List.cons_append, Option.getD] at hK ⊢; refine stp ?_; exact hK z0
        · intro c z0 Φr Lr K hK; dsimp only [dstOf, kval, kfac, ancE,  ancF, getD_z, getD_s, List.getElem?_cons_zero, List.getElem?_cons_succ, List.getElem?_nil, Option.getD_some, Option.getD_none, List.nil_append, List.cons_append, Option.getD] at hK ⊢; refine stp ?_; exact hK z0
        · intro c z0 Φr Lr K hK; dsimp only [dstOf, kval, kfac, ancE,  ancF, getD_z, getD_s, List.getElem?_cons_zero, List.getElem?_cons_succ, List.getElem?_nil, Option.getD_some, Option.getD_none, List.nil_append, List.cons_append, Option.getD] at hK ⊢; refine stp ?_; exact hK z0
        · intro c z0 Φr Lr K hK; dsimp only [dstOf, kval, kfac, ancE,  ancF, getD_z, getD_s, List.getElem?_cons_zero, List.getElem?_cons_succ, List.getElem?_nil, Option.getD_some, Option.getD_none, List.nil_append, List.cons_append, Option.getD] at hK ⊢; (first | refine stp ?_ | refine o_loadF rfl rfl rfl rfl ?_); exact hK z0
        · intro c z0 Φr Lr K hK; dsimp only [dstOf, kval, kfac, ancE,  ancF, getD_z, getD_s, List.getElem?_cons_zero, List.getElem?_cons_succ, List.getElem?_nil, Option.getD_some, Option.getD_none, List.nil_append, List.cons_append, Option.getD] at hK ⊢; refine stp ?_; exact hK z0
        · intro c z0 Φr Lr K hK; dsimp only [dstOf, kval, kfac, ancE,  ancF, getD_z, getD_s, List.getElem?_cons_zero, List.getElem?_cons_succ, List.getElem?_nil, Option.getD_some, Option.getD_none, List.nil_append, List.cons_append, Option.getD] at hK ⊢; refine stp ?_; exact hK z0
        · intro c z0 Φr Lr K hK; dsimp only [dstOf, kval, kfac, ancE,  ancF, getD_z, getD_s, List.getElem?_cons_zero, List.getElem?_cons_succ, List.getElem?_nil, Option.getD_some, Option.getD_none, List.nil_append, List.cons_append, Option.getD] at hK ⊢; refine stp ?_; exact hK z0
        · intro c z0 Φr Lr K hK; dsimp only [dstOf, kval, kfac, ancE,  ancF, getD_z, getD_s, List.getElem?_cons_zero, List.getElem?_cons_succ, List.getElem?_nil, Option.getD_some, Option.getD_none, List.nil_append, List.cons_append, Option.getD] at hK ⊢; (first | refine stp ?_ | refine o_loadF rfl rfl rfl rfl ?_); exact hK z0
        · intro c z0 Φr Lr K hK; dsimp only [dstOf, kval, kfac, ancE,  ancF, getD_z, getD_s, List.getElem?_cons_zero, List.getElem?_cons_succ, List.getElem?_nil, Option.getD_some, Option.getD_none, List.nil_append, List.cons_append, Option.getD] at hK ⊢; refine stp ?_; exact hK z0
        · intro c z0 Φr Lr K hK; dsimp only [dstOf, kval, kfac, ancE,  ancF, getD_z, getD_s, List.getElem?_cons_zero, List.getElem?_cons_succ, List.getElem?_nil, Option.getD_some, Option.getD_none, List.nil_append, List.cons_append, Option.getD] at hK ⊢; refine stp ?_; exact hK z0
      case loc_6 =>
        simp only [AllL, Nat.reduceAdd, and_true]
        refine ⟨?_, ?_, ?_, ?_, ?_, ?_, ?_, ?_, ?_, ?_, ?_, ?_⟩
        all_goals exact fun _ _ _ _ => ⟨rfl, rfl⟩
      intro c
      dsimp only [dstOf, kval, kfac, ancE,  ancF, getD_z, getD_s, List.getElem?_cons_zero, List.getElem?_cons_succ, List.getElem?_nil, Option.getD_some, Option.getD_none, List.nil_append, List.cons_append, List.drop_succ_cons, List.drop_zero, Option.getD]
      repeat (first | refine stp ?_ | (refine k_indexAddr ?_; first | (refine o_ixA _ rfl rfl rfl rfl rfl (h := ?_); intro _) | (refine o_ixB rfl rfl rfl rfl (h := ?_); intro _)) | (refine k_load ?_; refine o_loadF rfl rfl rfl rfl ?_) | (refine stb ?_; intro _))
      cases is with
      | true =>
        refine W.draw 16 [⟨?v0_7, fun _ z => []⟩, ⟨?v1_7, fun _ z => []⟩, ⟨?v2_7, fun _ z => []⟩, ⟨?v3_7, fun _ z => []⟩, ⟨?v4_7, fun _ z => []⟩, ⟨?v5_7, fun _ z => []⟩, ⟨?v6_7, fun _ z => []⟩, ⟨?v7_7, fun _ z => []⟩, ⟨?v8_7, fun _ z => []⟩, ⟨?v9_7, fun _ z => []⟩, ⟨?v10_7, fun _ z => []⟩, ⟨?v11_7, fun _ z => []⟩, ⟨?v12_7, fun _ z => []⟩, ⟨?v13_7, fun _ z => []⟩, ⟨?v14_7, fun _ z => []⟩, ⟨?v15_7, fun _ z => []⟩] [[], [0], [1], [1, 2], [3], [3], [3, 4, 5], [3, 6], [3], [3], [3, 8, 9], [3, 10], [3, 11], [3, 7, 12], [1, 3, 13], [1, 14]] [15] (by kernel_rfl) (by kernel_rfl) (by kernel_rfl) (by kernel_rfl) ?loc_7 ?ops_7 ?rest_7
        case ops_7 =>
          simp only [AllQ, Nat.reduceAdd, and_true]
          refine ⟨?_, ?_, ?_, ?_, ?_, ?_, ?_, ?_, ?_, ?_, ?_, ?_, ?_, ?_, ?_, ?_⟩
          · intro c z0 Φr Lr K hK; dsimp only [dstOf, kval, kfac, ancE,  ancF, getD_z, getD_s, List.getElem?_cons_zero, List.getElem?_cons_succ, List.getElem?_nil, Option.getD_some, Option.getD_none, List.nil_append, List.cons_append, Option.getD] at hK ⊢; refine stp ?_; exact hK z0
          · intro c z0 Φr Lr K hK; dsimp only [dstOf, kval, kfac, ancE,  ancF, getD_z, getD_s, List.getElem?_cons_zero, List.getElem?_cons_succ, List.getElem?_nil, Option.getD_some, Option.getD_none, List.nil_append, List.cons_append, Option.getD] at hK ⊢; refine stp ?_; exact hK z0
          · intro c z0 Φr Lr K hK; dsimp only [dstOf, kval, kfac, ancE,  ancF, getD_z, getD_s, List.getElem?_cons_zero, List.getElem?_cons_succ, List.getElem?_nil, Option.getD_some, Option.getD_none, List.nil_append, List.cons_append, Option.getD] at hK ⊢; refine stp ?_; exact hK z0
          · intro c z0 Φr Lr K hK; dsimp only [dstOf, kval, kfac, ancE,  ancF, getD_z, getD_s, List.getElem?_cons_zero, List.getElem?_cons_succ, List.getElem?_nil, Option.getD_some, Option.getD_none, List.nil_append, List.cons_append, Option.getD] at hK ⊢; refine stp ?_; exact hK z0
          · intro c z0 Φr Lr K hK; dsimp only [dstOf, kval, kfac, ancE,  ancF, getD_z, getD_s, List.getElem?_cons_zero, List.getElem?_cons_succ, List.getElem?_nil, Option.getD_some, Option.getD_none, List.nil_append, List.cons_append, Option.getD] at hK ⊢; refine stp ?_; exact hK z0
          · intro c z0 Φr Lr K hK; dsimp only [dstOf, kval, kfac, ancE,  ancF, getD_z, getD_s, List.getElem?_cons_zero, List.getElem?_cons_succ, List.getElem?_nil, Option.getD_some, Option.getD_none, List.nil_append, List.cons_append, Option.getD] at hK ⊢; refine stp ?_; exact hK z0
          · intro c z0 Φr Lr K hK; dsimp only [dstOf, kval, kfac, ancE,  ancF, getD_z, getD_s, List.getElem?_cons_zero, List.getElem?_cons_succ, List.getElem?_nil, Option.getD_some, Option.getD_none, List.nil_append, List.cons_append, Option.getD] at hK ⊢; refine stp ?_; exact hK z0
          · intro c z0 Φr Lr K hK; dsimp only [dstOf, kval, kfac, ancE,  ancF, getD_z, getD_s, List.getElem?_cons_zero, List.getElem?_cons_succ, List.getElem?_nil, Option.getD_some, Option.getD_none, List.nil_append, List.cons_append, Option.getD] at hK ⊢; (first | refine stp ?_ | refine o_loadF rfl rfl rfl rfl ?_); exact hK z0
          · intro c z0 Φr Lr K hK; dsimp only [dstOf, kval, kfac, ancE,  ancF, getD_z, getD_s, List.getElem?_cons_zero, List.getElem?_cons_succ, List.getElem?_nil, Option.getD_some, Option.getD_none, List.nil_append, List.cons_append, Option.getD] at hK ⊢; refine stp ?_; exact hK z0
          · intro c z0 Φr Lr K hK; dsimp only [dstOf, kval, kfac, ancE,  ancF, getD_z, getD_s, List.getElem?_cons_zero, List.getElem?_cons_succ, List.getElem?_nil, Option.getD_some, Option.getD_none, List.nil_append, List.cons_append, Option.getD] at hK ⊢; refine stp ?_; exact hK z0
          · intro c z0 Φr Lr K hK; dsimp only [dstOf, kval, kfac, ancE,  ancF, getD_z, getD_s, List.getElem?_cons_zero, List.getElem?_cons_succ, List.getElem?_nil, Option.getD_some, Option.getD_none, List.nil_append, List.cons_append, Option.getD] at hK ⊢; refine stp ?_; exact hK z0
          · intro c z0 Φr Lr K hK; dsimp only [dstOf, kval, kfac, ancE,  ancF, getD_z, getD_s, List.getElem?_cons_zero, List.getElem?_cons_succ, List.getElem?_nil, Option.getD_some, Option.getD_none, List.nil_append, List.cons_append, Option.getD] at hK ⊢; (first | refine stp ?_ | refine o_loadF rfl rfl rfl rfl ?_); exact hK z0
          · intro c z0 Φr Lr K hK; dsimp only [dstOf, kval, kfac, ancE,  ancF, getD_z, getD_s, List.getElem?_cons_zero, List.getElem?_cons_succ, List.getElem?_nil, Option.getD_some, Option.getD_none, List.nil_append, List.cons_append, Option.getD] at hK ⊢; refine stp ?_; exact hK z0
          · intro c z0 Φr Lr K hK; dsimp only [dstOf, kval, kfac, ancE,  ancF, getD_z, getD_s, List.getElem?_cons_zero, List.getElem?_cons_succ, List.getElem?_nil, Option.getD_some, Option.getD_none, List.nil_append, List.cons_append, Option.getD] at hK ⊢; refine stp ?_; exact hK z0
          · intro c z0 Φr Lr K hK; dsimp only [dstOf, kval, kfac, ancE,  ancF, getD_z, getD_s, List.getElem?_cons_zero, List.getElem?_cons_succ, List.getElem?_nil, Option.getD_some, Option.getD_none, List.nil_append, List.cons_append, Option.getD] at hK ⊢; refine stp ?_; exact hK z0
          · intro c z0 Φr Lr K hK; dsimp only [dstOf, kval, kfac, ancE,  ancF, getD_z, getD_s, List.getElem?_cons_zero, List.getElem?_cons_succ, List.getElem?_nil, Option.getD_some, Option.getD_none, List.nil_append, List.cons_append, Option.getD] at hK ⊢; refine stp ?_; exact hK z0
        case loc_7 =>
          simp only [AllL, Nat.reduceAdd, and_true]
          refine ⟨?_, ?_, ?_, ?_, ?_, ?_, ?_, ?_, ?_, ?_, ?_, ?_, ?_, ?_, ?_, ?_⟩
          all_goals exact fun _ _ _ _ => ⟨rfl, rfl⟩
        intro c
        dsimp only [dstOf, kval, kfac, ancE,  ancF, getD_z, getD_s, List.getElem?_cons_zero, List.getElem?_cons_succ, List.getElem?_nil, Option.getD_some, Option.getD_none, List.nil_append, List.cons_append, List.drop_succ_cons, List.drop_zero, Option.getD]
        repeat (first | refine stp ?_ | (refine k_indexAddr ?_; first | (refine o_ixA _ rfl rfl rfl rfl rfl (h := ?_); intro _) | (refine o_ixB rfl rfl rfl rfl (h := ?_); intro _)) | (refine k_load ?_; refine o_loadF rfl rfl rfl rfl ?_) | (refine stb ?_; intro _))
        exact G.again (S := RiSt) ⟨q + 1, true⟩ (by dsimp only; omega) ⟨by dsimp only; omega, by rw [hbs]⟩ inferInstance (look_sub_cons rfl (look_sub_cons rfl (look_sub_cons rfl (look_sub_cons rfl (look_sub_cons rfl (look_sub_cons rfl (look_sub_cons rfl look_sub_nil))))))) (List.Sublist.refl _)
      | false =>
        refine W.draw 16 [⟨?v0_8, fun _ z => []⟩, ⟨?v1_8, fun _ z => []⟩, ⟨?v2_8, fun _ z => []⟩, ⟨?v3_8, fun _ z => []⟩, ⟨?v4_8, fun _ z => []⟩, ⟨?v5_8, fun _ z => []⟩, ⟨?v6_8, fun _ z => []⟩, ⟨?v7_8, fun _ z => []⟩, ⟨?v8_8, fun _ z => []⟩, ⟨?v9_8, fun _ z => []⟩, ⟨?v10_8, fun _ z => []⟩, ⟨?v11_8, fun _ z => []⟩, ⟨?v12_8, fun _ z => []⟩, ⟨?v13_8, fun _ z => []⟩, ⟨?v14_8, fun _ z => []⟩, ⟨?v15_8, fun _ z => []⟩] [[], [0], [1], [1, 2], [3], [3], [3, 4, 5], [3, 6], [3], [3], [3, 8, 9], [3, 10], [3, 11], [3, 7, 12], [1, 3, 13], [1, 14]] [15] (by kernel_rfl) (by kernel_rfl) (by kernel_rfl) (by kernel_rfl) ?loc_8 ?ops_8 ?rest_8
        case ops_8 =>
          simp only [AllQ, Nat.reduceAdd, and_true]
          refine ⟨?_, ?_, ?_, ?_, ?_, ?_, ?_, ?_, ?_, ?_, ?_, ?_, ?_, ?_, ?_, ?_⟩
          · intro c z0 Φr Lr K hK; dsimp only [dstOf, kval, kfac, ancE,  ancF, getD_z, getD_s, List.getElem?_cons_zero, List.getElem?_cons_succ, List.getElem?_nil, Option.getD_some, Option.getD_none, List.nil_append, List.cons_append, Option.getD] at hK ⊢; refine stp ?_; exact hK z0
          · intro c z0 Φr Lr K hK; dsimp only [dstOf, kval, kfac, ancE,  ancF, getD_z, getD_s, List.getElem?_cons_zero, List.getElem?_cons_succ, List.getElem?_nil, Option.getD_some, Option.getD_none, List.nil_append, List.cons_append, Option.getD] at hK ⊢; refine stp ?_; exact hK z0
          · intro c z0 Φr Lr K hK; dsimp only [dstOf, kval, kfac, ancE,  ancF, getD_z, getD_s, List.getElem?_cons_zero, List.getElem?_cons_succ, List.getElem?_nil, Option.getD_some, Option.getD_none, List.nil_append, List.cons_append, Option.getD] at hK ⊢; refine stp ?_; exact hK z0
          · intro c z0 Φr Lr K hK; dsimp only [dstOf, kval, kfac, ancE,  ancF, getD_z, getD_s, List.getElem?_cons_zero, List.getElem?_cons_succ, List.getElem?_nil, Option.getD_some, Option.getD_none, List.nil_append, List.cons_append, Option.getD] at hK ⊢; refine stp ?_; exact hK z0
          · intro c z0 Φr Lr K hK; dsimp only [dstOf, kval, kfac, ancE,  ancF, getD_z, getD_s, List.getElem?_cons_zero, List.getElem?_cons_succ, List.getElem?_nil, Option.getD_some, Option.getD_none, List.nil_append, List.cons_append, Option.getD] at hK ⊢; refine stp ?_; exact hK z0
          · intro c z0 Φr Lr K hK; dsimp only [dstOf, kval, kfac, ancE,  ancF, getD_z, getD_s, List.getElem?_cons_zero, List.getElem?_cons_succ, List.getElem?_nil, Option.getD_some, Option.getD_none, List.nil_append, List.cons_append, Option.getD] at hK ⊢; refine stp ?_; exact hK z0
          · intro c z0 Φr Lr K hK; dsimp only [dstOf, kval, kfac, ancE,  ancF, getD_z, getD_s, List.getElem?_cons_zero, List.getElem?_cons_succ, List.getElem?_nil, Option.getD_some, Option.getD_none, List.nil_append, List.cons_append, Option.getD] at hK ⊢; refine stp ?_; exact hK z0
          · intro c z0 Φr Lr K hK; dsimp only [dstOf, kval, kfac, ancE,  ancF, getD_z, getD_s, List.getElem?_cons_zero, List.getElem?_cons_succ, List.getElem?_nil, Option.getD_some, Option.getD_none, List.nil_append, List.cons_append, Option.getD] at hK ⊢; (first | refine stp ?_ | refine o_loadF rfl rfl rfl rfl ?_); exact hK z0
          · intro c z0 Φr Lr K hK; dsimp only [dstOf, kval, kfac, ancE,  ancF, getD_z, getD_s, List.getElem?_cons_zero, List.getElem?_cons_succ, List.getElem?_nil, Option.getD_some, Option.getD_none, List.nil_append, List.cons_append, Option.getD] at hK ⊢; refine stp ?_; exact hK z0
          · intro c z0 Φr Lr K hK; dsimp only [dstOf, kval, kfac, ancE,  ancF, getD_z, getD_s, List.getElem?_cons_zero, List.getElem?_cons_succ, List.getElem?_nil, Option.getD_some, Option.getD_none, List.nil_append, List.cons_append, Option.getD] at hK ⊢; refine stp ?_; exact hK z0
          · intro c z0 Φr Lr K hK; dsimp only [dstOf, kval, kfac, ancE,  ancF, getD_z, getD_s, List.getElem?_cons_zero, List.getElem?_cons_succ, List.getElem?_nil, Option.getD_some, Option.getD_none, List.nil_append, List.cons_append, Option.getD] at hK ⊢; refine stp ?_; exact hK z0
          · intro c z0 Φr Lr K hK; dsimp only [dstOf, kval, kfac, ancE,  ancF, getD_z, getD_s, List.getElem?_cons_zero, List.getElem?_cons_succ, List.getElem?_nil, Option.getD_some, Option.getD_none, List.nil_append, List.cons_append, Option.getD] at hK ⊢; (first | refine stp ?_ | refine o_loadF rfl rfl rfl rfl ?_); exact hK z0
          · intro c z0 Φr Lr K hK; dsimp only [dstOf, kval, kfac, ancE,  ancF, getD_z, getD_s, List.getElem?_cons_zero, List.getElem?_cons_succ, List.getElem?_nil, Option.getD_some, Option.getD_none, List.nil_append, List.cons_append, Option.getD] at hK ⊢; refine stp ?_; exact hK z0
          · intro c z0 Φr Lr K hK; dsimp only [dstOf, kval, kfac, ancE,  ancF, getD_z, getD_s, List.getElem?_cons_zero, List.getElem?_cons_succ, List.getElem?_nil, Option.getD_some, Option.getD_none, List.nil_append, List.cons_append, Option.getD] at hK ⊢; refine stp ?_; exact hK z0
          · intro c z0 Φr Lr K hK; dsimp only [dstOf, kval, kfac, ancE,  ancF, getD_z, getD_s, List.getElem?_cons_zero, List.getElem?_cons_succ, List.getElem?_nil, Option.getD_some, Option.getD_none, List.nil_append, List.cons_append, Option.getD] at hK ⊢; refine stp ?_; exact hK z0
          · intro c z0 Φr Lr K hK; dsimp only [dstOf, kval, kfac, ancE,  ancF, getD_z, getD_s, List.getElem?_cons_zero, List.getElem?_cons_succ, List.getElem?_nil, Option.getD_some, Option.getD_none, List.nil_append, List.cons_append, Option.getD] at hK ⊢; refine stp ?_; exact hK z0
        case loc_8 =>
          simp only [AllL, Nat.reduceAdd, and_true]
          refine ⟨?_, ?_, ?_, ?_, ?_, ?_, ?_, ?_, ?_, ?_, ?_, ?_, ?_, ?_, ?_, ?_⟩
          all_goals exact fun _ _ _ _ => ⟨rfl, rfl⟩
        intro c
        dsimp only [dstOf, kval, kfac, ancE,  ancF, getD_z, getD_s, List.getElem?_cons_zero, List.getElem?_cons_succ, List.getElem?_nil, Option.getD_some, Option.getD_none, List.nil_append, List.cons_append, List.drop_succ_cons, List.drop_zero, Option.getD]
        repeat (first | refine stp ?_ | (refine k_indexAddr ?_; first | (refine o_ixA _ rfl rfl rfl rfl rfl (h := ?_); intro _) | (refine o_ixB rfl rfl rfl rfl (h := ?_); intro _)) | (refine k_load ?_; refine o_loadF rfl rfl rfl rfl ?_) | (refine stb ?_; intro _))
        exact G.again (S := RiSt) ⟨q + 1, false⟩ (by dsimp only; omega) ⟨by dsimp only; omega, by rw [hbs]⟩ inferInstance (look_sub_cons rfl (look_sub_cons rfl (look_sub_cons rfl (look_sub_cons rfl (look_sub_cons rfl (look_sub_cons rfl (look_sub_cons rfl look_sub_nil))))))) (List.Sublist.refl _)
  subst hi0
  repeat (first | refine stp ?_ | (refine k_indexAddr ?_; first | (refine o_ixA _ rfl rfl rfl rfl rfl (h := ?_); intro _) | (refine o_ixB rfl rfl rfl rfl (h := ?_); intro _)) | (refine k_load ?_; refine o_loadF rfl rfl rfl rfl ?_) | (refine stb ?_; intro _))
  refine W.loopI (fun (i : Nat) => ([fRp v4 l, fRp v7 (edgesI l)], [(3, .bool true), (4, v4), (7, v7), (13, .int .i64 ((cntP l i 0 : Nat) : Int)), (14, .int .i64 i)], [])) (fun i => i ≤ l.length) (fun i => l.length - i) 0 (Nat.zero_le _) inferInstance (look_sub_cons rfl (look_sub_cons rfl (look_sub_cons rfl (look_sub_cons (by rw [cntP_zero]; rfl) (look_sub_cons rfl look_sub_nil))))) (List.Sublist.refl _) ?_
  intro i hi'
  dsimp only
  by_cases hi0 : i = l.length
  · subst hi0
    have hce := cntP_end l
    repeat (first | refine stp ?_ | (refine k_indexAddr ?_; first | (refine o_ixA _ rfl rfl rfl rfl rfl (h := ?_); intro _) | (refine o_ixB rfl rfl rfl rfl (h := ?_); intro _)) | (refine k_load ?_; refine o_loadF rfl rfl rfl rfl ?_) | (refine stb ?_; intro _))
    refine G.ret rfl (.cons (.tmp rfl) .nil) (Φ' := []) (M' := []) inferInstance (List.nil_sublist _) ⟨?_, rfl, rfl⟩
    rfl
  have hi1 : i < l.length := by omega
  have hsi := hfit l[i] (List.getElem_mem hi1)
  repeat (first | refine stp ?_ | (refine k_indexAddr ?_; first | (refine o_ixA _ rfl rfl rfl rfl rfl (h := ?_); intro _) | (refine o_ixB rfl rfl rfl rfl (h := ?_); intro _)) | (refine k_load ?_; refine o_loadF rfl rfl rfl rfl ?_) | (refine stb ?_; intro _))
  refine W.loopI (fun (k : Nat) => ([fRp v4 l, fRp v7 (edgesI l)], [(3, .bool true), (4, v4), (7, v7), (13, .int .i64 ((cntP l i k : Nat) : Int)), (14, .int .i64 i), (15, .int .i64 k)], [])) (fun k => k ≤ i) (fun k => i - k) 0 (Nat.zero_le _) inferInstance (look_sub_cons rfl (look_sub_cons rfl (look_sub_cons rfl (look_sub_cons rfl (look_sub_cons rfl (look_sub_cons rfl look_sub_nil)))))) (List.Sublist.refl _) ?_
  intro k hk
  dsimp only
  by_cases hk0 : k = i
  · subst hk0
    rw [cntP_row]
    repeat (first | refine stp ?_ | (refine k_indexAddr ?_; first | (refine o_ixA _ rfl rfl rfl rfl rfl (h := ?_); intro _) | (refine o_ixB rfl rfl rfl rfl (h := ?_); intro _)) | (refine k_load ?_; refine o_loadF rfl rfl rfl rfl ?_) | (refine stb ?_; intro _))
    exact G.again (S := Nat) (k + 1) (by omega) (by omega) inferInstance (look_sub_cons rfl (look_sub_cons rfl (look_sub_cons rfl (look_sub_cons rfl (look_sub_cons rfl look_sub_nil))))) (List.Sublist.refl _)
  · have hk1 : k < i := by omega
    have hkl : k < l.length := by omega
    have hsk := hfit l[k] (List.getElem_mem hkl)
    have hcl := clG_eq hkl hi1
    have hst := cntP_step hk1 hi1
    have hle := cntP_le l i k
    cases hc : clashS l[k] l[i] with
    | true =>
      rw [hcl, hc, if_pos rfl] at hst
      repeat (first | refine stp ?_ | (refine k_indexAddr ?_; first | (refine o_ixA _ rfl rfl rfl rfl rfl (h := ?_); intro _) | (refine o_ixB rfl rfl rfl rfl (h := ?_); intro _)) | (refine k_load ?_; refine o_loadF rfl rfl rfl rfl ?_) | (refine stb ?_; intro _))
      refine W.draw 9 [⟨?v0_9, fun _ z => []⟩, ⟨?v1_9, fun _ z => []⟩, ⟨fun _ z => z, fun _ z => [fPt z l[k]]⟩, ⟨fun _ z => z, fun _ z => [fRp z l[k]]⟩, ⟨?v4_9, fun _ z => []⟩, ⟨?v5_9, fun _ z => []⟩, ⟨fun _ z => z, fun _ z => [fPt z l[i]]⟩, ⟨fun _ z => z, fun _ z => [fRp z l[i]]⟩, ⟨?v8_9, fun _ z => []⟩] [[], [], [0, 1], [2], [], [], [4, 5], [6], [3, 7]] [8] (by kernel_rfl) (by kernel_rfl) (by kernel_rfl) (by kernel_rfl) ?loc_9 ?ops_9 ?rest_9
      case ops_9 =>
        simp only [AllQ, Nat.reduceAdd, and_true]
        refine ⟨?_, ?_, ?_, ?_, ?_, ?_, ?_, ?_, ?_⟩
        · intro c z0 Φr Lr K hK; dsimp only [dstOf, kval, kfac, ancE,  ancF, getD_z, getD_s, List.getElem?_cons_zero, List.getElem?_cons_succ, List.getElem?_nil, Option.getD_some, Option.getD_none, List.nil_append, List.cons_append, Option.getD] at hK ⊢; refine stp ?_; exact hK z0
        · intro c z0 Φr Lr K hK; dsimp only [dstOf, kval, kfac, ancE,  ancF, getD_z, getD_s, List.getElem?_cons_zero, List.getElem?_cons_succ, List.getElem?_nil, Option.getD_some, Option.getD_none, List.nil_append, List.cons_append, Option.getD] at hK ⊢; refine stp ?_; exact hK z0
        · intro c z0 Φr Lr K hK; dsimp only [dstOf, kval, kfac, ancE,  ancF, getD_z, getD_s, List.getElem?_cons_zero, List.getElem?_cons_succ, List.getElem?_nil, Option.getD_some, Option.getD_none, List.nil_append, List.cons_append, Option.getD] at hK ⊢; refine o_idxN k rfl rfl rfl rfl rfl hkl ?_; intro p; exact hK _
        · intro c z0 Φr Lr K hK; dsimp only [dstOf, kval, kfac, ancE,  ancF, getD_z, getD_s, List.getElem?_cons_zero, List.getElem?_cons_succ, List.getElem?_nil, Option.getD_some, Option.getD_none, List.nil_append, List.cons_append, Option.getD] at hK ⊢; refine o_loadR rfl rfl rfl rfl ?_; intro p; exact hK _
        · intro c z0 Φr Lr K hK; dsimp only [dstOf, kval, kfac, ancE,  ancF, getD_z, getD_s, List.getElem?_cons_zero, List.getElem?_cons_succ, List.getElem?_nil, Option.getD_some, Option.getD_none, List.nil_append, List.cons_append, Option.getD] at hK ⊢; refine stp ?_; exact hK z0
        · intro c z0 Φr Lr K hK; dsimp only [dstOf, kval, kfac, ancE,  ancF, getD_z, getD_s, List.getElem?_cons_zero, List.getElem?_cons_succ, List.getElem?_nil, Option.getD_some, Option.getD_none, List.nil_append, List.cons_append, Option.getD] at hK ⊢; refine stp ?_; exact hK z0
        · intro c z0 Φr Lr K hK; dsimp only [dstOf, kval, kfac, ancE,  ancF, getD_z, getD_s, List.getElem?_cons_zero, List.getElem?_cons_succ, List.getElem?_nil, Option.getD_some, Option.getD_none, List.nil_append, List.cons_append, Option.getD] at hK ⊢; refine o_idxN i rfl rfl rfl rfl rfl hi1 ?_; intro p; exact hK _
        · intro c z0 Φr Lr K hK; dsimp only [dstOf, kval, kfac, ancE,  ancF, getD_z, getD_s, List.getElem?_cons_zero, List.getElem?_cons_succ, List.getElem?_nil, Option.getD_some, Option.getD_none, List.nil_append, List.cons_append, Option.getD] at hK ⊢; refine o_loadR rfl rfl rfl rfl ?_; intro p; exact hK _
        · intro c z0 Φr Lr K hK; dsimp only [dstOf, kval, kfac, ancE,  ancF, getD_z, getD_s, List.getElem?_cons_zero, List.getElem?_cons_succ, List.getElem?_nil, Option.getD_some, Option.getD_none, List.nil_append, List.cons_append, Option.getD] at hK ⊢; refine o_callV rfl rfl rfl rfl (clashS_spec _ _ l[k] l[i] hsk hsi) (congrArg Value.bool hc) ?_; exact hK z0
      case loc_9 =>
        simp only [AllL, Nat.reduceAdd, and_true]
        refine ⟨?_, ?_, ?_, ?_, ?_, ?_, ?_, ?_, ?_⟩
        all_goals (intro c c' z h; first | exact ⟨rfl, rfl⟩ | (skip))
      intro c
      dsimp only [dstOf, kval, kfac, ancE,  ancF, getD_z, getD_s, List.getElem?_cons_zero, List.getElem?_cons_succ, List.getElem?_nil, Option.getD_some, Option.getD_none, List.nil_append, List.cons_append, List.drop_succ_cons, List.drop_zero, Option.getD]
      repeat (first | refine stp ?_ | (refine k_indexAddr ?_; first | (refine o_ixA _ rfl rfl rfl rfl rfl (h := ?_); intro _) | (refine o_ixB rfl rfl rfl rfl (h := ?_); intro _)) | (refine k_load ?_; refine o_loadF rfl rfl rfl rfl ?_) | (refine stb ?_; intro _))
      rw [show ((cntP l i k : Nat) : Int) + 1 = ((cntP l i (k + 1) : Nat) : Int) from by rw [hst]; rfl]
      exact G.again (S := Nat) (k + 1) (by omega) (by omega) inferInstance (look_sub_cons rfl (look_sub_cons rfl (look_sub_cons rfl (look_sub_cons rfl (look_sub_cons rfl (look_sub_cons rfl look_sub_nil)))))) (List.Sublist.refl _)
    | false =>
      rw [hcl, hc, if_neg (by simp)] at hst
      have hst : cntP l i (k + 1) = cntP l i k := hst
      repeat (first | refine stp ?_ | (refine k_indexAddr ?_; first | (refine o_ixA _ rfl rfl rfl rfl rfl (h := ?_); intro _) | (refine o_ixB rfl rfl rfl rfl (h := ?_); intro _)) | (refine k_load ?_; refine o_loadF rfl rfl rfl rfl ?_) | (refine stb ?_; intro _))
      refine W.draw 9 [⟨?v0_10, fun _ z => []⟩, ⟨?v1_10, fun _ z => []⟩, ⟨fun _ z => z, fun _ z => [fPt z l[k]]⟩, ⟨fun _ z => z, fun _ z => [fRp z l[k]]⟩, ⟨?v4_10, fun _ z => []⟩, ⟨?v5_10, fun _ z => []⟩, ⟨fun _ z => z, fun _ z => [fPt z l[i]]⟩, ⟨fun _ z => z, fun _ z => [fRp z l[i]]⟩, ⟨?v8_10, fun _ z => []⟩] [[], [], [0, 1], [2], [], [], [4, 5], [6], [3, 7]] [8] (by kernel_rfl) (by kernel_rfl) (by kernel_rfl) (by kernel_rfl) ?loc_10 ?ops_10 ?rest_10
      case ops_10 =>
        simp only [AllQ, Nat.reduceAdd, and_true]
        refine ⟨?_, ?_, ?_, ?_, ?_, ?_, ?_, ?_, ?_⟩
        · intro c z0 Φr Lr K hK; dsimp only [dstOf, kval, kfac, ancE,  ancF, getD_z, getD_s, List.getElem?_cons_zero, List.getElem?_cons_succ, List.getElem?_nil, Option.getD_some, Option.getD_none, List.nil_append, List.cons_append, Option.getD] at hK ⊢; refine stp ?_; exact hK z0
        · intro c z0 Φr Lr K hK; dsimp only [dstOf, kval, kfac, ancE,  ancF, getD_z, getD_s, List.getElem?_cons_zero, List.getElem?_cons_succ, List.getElem?_nil, Option.getD_some, Option.getD_none, List.nil_append, List.cons_append, Option.getD] at hK ⊢; refine stp ?_; exact hK z0
        · intro c z0 Φr Lr K hK; dsimp only [dstOf, kval, kfac, ancE,  ancF, getD_z, getD_s, List.getElem?_cons_zero, List.getElem?_cons_succ, List.getElem?_nil, Option.getD_some, Option.getD_none, List.nil_append, List.cons_append, Option.getD] at hK ⊢; refine o_idxN k rfl rfl rfl rfl rfl hkl ?_; intro p; exact hK _
        · intro c z0 Φr Lr K hK; dsimp only [dstOf, kval, kfac, ancE,  ancF, getD_z, getD_s, List.getElem?_cons_zero, List.getElem?_cons_succ, List.getElem?_nil, Option.getD_some, Option.getD_none, List.nil_append, List.cons_append, Option.getD] at hK ⊢; refine o_loadR rfl rfl rfl rfl ?_; intro p; exact hK _
        · intro c z0 Φr Lr K hK; dsimp only [dstOf, kval, kfac, ancE,  ancF, getD_z, getD_s, List.getElem?_cons_zero, List.getElem?_cons_succ, List.getElem?_nil, Option.getD_some, Option.getD_none, List.nil_append, List.cons_append, Option.getD] at hK ⊢; refine stp ?_; exact hK z0
        · intro c z0 Φr Lr K hK; dsimp only [dstOf, kval, kfac, ancE,  ancF, getD_z, getD_s, List.getElem?_cons_zero, List.getElem?_cons_succ, List.getElem?_nil, Option.getD_some, Option.getD_none, List.nil_append, List.cons_append, Option.getD] at hK ⊢; refine stp ?_; exact hK z0
        · intro c z0 Φr Lr K hK; dsimp only [dstOf, kval, kfac, ancE,  ancF, getD_z, getD_s, List.getElem?_cons_zero, List.getElem?_cons_succ, List.getElem?_nil, Option.getD_some, Option.getD_none, List.nil_append, List.cons_append, Option.getD] at hK ⊢; refine o_idxN i rfl rfl rfl rfl rfl hi1 ?_; intro p; exact hK _
        · intro c z0 Φr Lr K hK; dsimp only [dstOf, kval, kfac, ancE,  ancF, getD_z, getD_s, List.getElem?_cons_zero, List.getElem?_cons_succ, List.getElem?_nil, Option.getD_some, Option.getD_none, List.nil_append, List.cons_append, Option.getD] at hK ⊢; refine o_loadR rfl rfl rfl rfl ?_; intro p; exact hK _
        · intro c z0 Φr Lr K hK; dsimp only [dstOf, kval, kfac, ancE,  ancF, getD_z, getD_s, List.getElem?_cons_zero, List.getElem?_cons_succ, List.getElem?_nil, Option.getD_some, Option.getD_none, List.nil_append, List.cons_append, Option.getD] at hK ⊢; refine o_callV rfl rfl rfl rfl (clashS_spec _ _ l[k] l[i] hsk hsi) (congrArg Value.bool hc) ?_; exact hK z0
      case loc_10 =>
        simp only [AllL, Nat.reduceAdd, and_true]
        refine ⟨?_, ?_, ?_, ?_, ?_, ?_, ?_, ?_, ?_⟩
        all_goals (intro c c' z h; first | exact ⟨rfl, rfl⟩ | (skip))
      intro c
      dsimp only [dstOf, kval, kfac, ancE,  ancF, getD_z, getD_s, List.getElem?_cons_zero, List.getElem?_cons_succ, List.getElem?_nil, Option.getD_some, Option.getD_none, List.nil_append, List.cons_append, List.drop_succ_cons, List.drop_zero, Option.getD]
      repeat (first | refine stp ?_ | (refine k_indexAddr ?_; first | (refine o_ixA _ rfl rfl rfl rfl rfl (h := ?_); intro _) | (refine o_ixB rfl rfl rfl rfl (h := ?_); intro _)) | (refine k_load ?_; refine o_loadF rfl rfl rfl rfl ?_) | (refine stb ?_; intro _))
      rw [← hst]
      exact G.again (S := Nat) (k + 1) (by omega) (by omega) inferInstance (look_sub_cons rfl (look_sub_cons rfl (look_sub_cons rfl (look_sub_cons rfl (look_sub_cons rfl (look_sub_cons rfl look_sub_nil)))))) (List.Sublist.refl _)
end Go.Rail
