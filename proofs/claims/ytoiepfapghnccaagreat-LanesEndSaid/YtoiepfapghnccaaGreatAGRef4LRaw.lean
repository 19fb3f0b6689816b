/- The document's answer to whether an order keeps what is in one another's way in its own. -/
import Derived.Test.YtoiepfapghnccaaGreatAGRef2GEdges
import Derived.Test.YtoiepfapghnccaaGreatRailD
import Derived.Test.YtoiepfapghnccaaGreatAClashGMay
namespace Go.Rail
open Go Go.Proofs
set_option linter.unusedSimpArgs false
set_option linter.unusedVariables false
set_option maxHeartbeats 400000
set_option maxRecDepth 4000
attribute [local irreducible] OpK G W LW wpListIn Exit.then Exit.inBlock Post rounds opRun bodyPostM intOp
attribute [local irreducible] lexN cmpW cmpA cmpK makeS setK commonL common clashS rightS rowG restG edgesG clG readyP waitB atP permB ordG posO
def fillP (n i : Nat) : List Int := (List.range n).map fun k => if k < i then (-1 : Int) else 0
theorem fillP_length (n i : Nat) : (fillP n i).length = n := by simp [fillP]
theorem fillP_zero (n : Nat) : fillP n 0 = List.replicate n 0 := by
  unfold fillP
  rw [show (fun k : Nat => if k < 0 then (-1 : Int) else 0) = fun _ => 0 from by funext k; simp, List.map_const', List.length_range]
theorem fillP_end (n : Nat) : fillP n n = List.replicate n (-1) := by
  apply List.ext_getElem
  · simp [fillP]
  · intro k h1 h2
    rw [List.getElem_replicate]
    simp [fillP] at h1 ⊢
    omega
theorem fillP_succ {n i : Nat} (h : i < n) : (fillP n i).set i (-1) = fillP n (i + 1) := by
  apply List.ext_getElem
  · simp [fillP]
  · intro k h1 h2
    rw [List.getElem_set]
    simp only [fillP, List.getElem_map, List.getElem_range]
    by_cases e : i = k
    · rw [if_pos e, if_pos (by omega)]
    · rw [if_neg e]
      by_cases e2 : k < i
      · rw [if_pos e2, if_pos (by omega)]
      · rw [if_neg e2, if_neg (by omega)]
theorem rorders_spec (v vo : Value) (xs : List Sets) (o : List Int) (hx : xs.length ≤ 1000000) (hs : ∀ s ∈ xs, fit6 s) (ho : o.length ≤ 4611686018427387904) :
    FnV Tryz.prog 14 [v, vo] [fRp v xs, fRp vo o] (.bool (ordG xs o)) := by
  have sp := (redges_spec v xs hx hs).givenT
  refine Fn.enter Tryz.func14 rfl Tryz.ntmps14 (by simp) (fun I0 w0 => ?_)
  cases hm : mayG xs with
  | false =>
    have e2 : errG xs = 1 := by rw [errG, hm]; rfl
    rw [e2] at sp
    rw [ordG_may hm]
    repeat (first | refine stp ?_ | (refine sti ?_; intro _) | refine stf ?_ | (refine stb ?_; intro _))
    refine o_callT (mk := tupE 1) (ψ := fun sv => fRp sv (edgesR xs)) rfl rfl rfl rfl sp ?_
    intro v13
    unfold tupE
    repeat (first | refine stp ?_ | (refine sti ?_; intro _) | refine stf ?_ | (refine stb ?_; intro _))
    refine G.ret rfl (.cons (.tmp rfl) .nil) (Φ' := []) (M' := []) inferInstance (List.nil_sublist _) ⟨?_, rfl, rfl⟩
    rfl
  | true =>
    have e2 : errG xs = 0 := by rw [errG, hm]; rfl
    have e3 : edgesR xs = edgesI xs := by rw [edgesR, hm]; rfl
    have h64 := may_len hm
    have hcap := edges_few hm
    have hlen := edgesI_length xs
    rw [e2, e3] at sp
    by_cases hol : o.length = xs.length
    case neg =>
      rw [ordG_perm (by unfold permB; rw [decide_eq_false hol]; rfl)]
      repeat (first | refine stp ?_ | (refine sti ?_; intro _) | refine stf ?_ | (refine stb ?_; intro _))
      refine o_callT (mk := tupE 0) (ψ := fun sv => fRp sv (edgesI xs)) rfl rfl rfl rfl sp ?_
      intro v13
      unfold tupE
      repeat (first | refine stp ?_ | (refine sti ?_; intro _) | refine stf ?_ | (refine stb ?_; intro _))
      refine G.ret rfl (.cons (.tmp rfl) .nil) (Φ' := []) (M' := []) inferInstance (List.nil_sublist _) ⟨?_, rfl, rfl⟩
      rfl
    repeat (first | refine stp ?_ | (refine sti ?_; intro _) | refine stf ?_ | (refine stb ?_; intro _))
    refine o_callT (mk := tupE 0) (ψ := fun sv => fRp sv (edgesI xs)) rfl rfl rfl rfl sp ?_
    intro v13
    unfold tupE
    repeat (first | refine stp ?_ | (refine sti ?_; intro _) | refine stf ?_ | (refine stb ?_; intro _))
    refine o_makeI xs.length rfl rfl rfl rfl rfl rfl hx ?_
    intro b
    rw [← fillP_zero]
    repeat (first | refine stp ?_ | (refine sti ?_; intro _) | refine stf ?_ | (refine stb ?_; intro _))
    refine W.loopI (fun (i : Nat) => ([fRp v xs, fRp vo o, fRp v13 (edgesI xs)], [(0, v), (1, vo), (5, v13), (7, .slice (some ⟨b, 0, none⟩) xs.length xs.length), (8, .int .i64 i)], [(b, Ob (cI (fillP xs.length i)) 3)])) (fun i => i ≤ xs.length) (fun i => xs.length - i) 0 (Nat.zero_le _) inferInstance (look_sub_cons rfl (look_sub_cons rfl (look_sub_cons rfl (look_sub_cons rfl (look_sub_cons rfl look_sub_nil))))) (List.Sublist.refl _) ?_
    intro i hi
    dsimp only
    by_cases hi0 : i = xs.length
    case neg =>
      have hi1 : i < xs.length := by omega
      repeat (first | refine stp ?_ | (refine sti ?_; intro _) | refine stf ?_ | (refine stb ?_; intro _))
      refine o_idxO rfl rfl rfl rfl (by omega) (by omega) (o' := i) (by omega) ?_
      repeat (first | refine stp ?_ | (refine sti ?_; intro _) | refine stf ?_ | (refine stb ?_; intro _))
      refine o_storeI i (-1) (by rw [fillP_length]; exact hi1) rfl rfl rfl rfl ?_
      rw [fillP_succ hi1]
      repeat (first | refine stp ?_ | (refine sti ?_; intro _) | refine stf ?_ | (refine stb ?_; intro _))
      exact G.again (S := Nat) (i + 1) (by omega) (by omega) inferInstance (look_sub_cons rfl (look_sub_cons rfl (look_sub_cons rfl (look_sub_cons rfl (look_sub_cons rfl look_sub_nil))))) (List.Sublist.refl _)
    subst hi0
    rw [fillP_end, ← atP_zero xs.length o]
    repeat (first | refine stp ?_ | (refine sti ?_; intro _) | refine stf ?_ | (refine stb ?_; intro _))
    refine W.loopI (fun (q : Nat) => ([fRp v xs, fRp vo o, fRp v13 (edgesI xs)], [(0, v), (1, vo), (5, v13), (7, .slice (some ⟨b, 0, none⟩) xs.length xs.length), (9, .int .i64 q)], [(b, Ob (cI (atP xs.length o q)) 3)])) (fun q => q ≤ o.length ∧ fineP xs.length o q) (fun q => o.length - q) 0 ⟨Nat.zero_le _, fineP_zero _ _⟩ inferInstance (look_sub_cons rfl (look_sub_cons rfl (look_sub_cons rfl (look_sub_cons rfl (look_sub_cons rfl look_sub_nil))))) (List.Sublist.refl _) ?_
    rintro q ⟨hq, hfin⟩
    dsimp only
    by_cases hq0 : q = o.length
    case neg =>
      have hq1 : q < o.length := by omega
      have hal := atP_length xs.length o q
      by_cases hneg : o[q] < 0
      · rw [ordG_perm (permB_out hq1 (.inl hneg))]
        repeat (first | refine stp ?_ | (refine sti ?_; intro _) | refine stf ?_ | (refine stb ?_; intro _))
        refine G.ret rfl (.cons (.tmp rfl) .nil) (Φ' := []) (M' := []) inferInstance (List.nil_sublist _) ⟨?_, rfl, rfl⟩
        rfl
      by_cases hbig : (xs.length : Int) ≤ o[q]
      · rw [ordG_perm (permB_out hq1 (.inr hbig))]
        repeat (first | refine stp ?_ | (refine sti ?_; intro _) | refine stf ?_ | (refine stb ?_; intro _))
        refine G.ret rfl (.cons (.tmp rfl) .nil) (Φ' := []) (M' := []) inferInstance (List.nil_sublist _) ⟨?_, rfl, rfl⟩
        rfl
      obtain ⟨k, hk⟩ : ∃ k : Nat, o[q] = (k : Int) := ⟨o[q].toNat, by omega⟩
      have hkn : k < (atP xs.length o q).length := by omega
      have hat := atP_get xs.length o q hkn
      by_cases hdup : o[q] ∈ o.take q
      · rw [ordG_perm (permB_dup hq1 hdup)]
        rw [if_pos (by rw [← hk]; exact hdup)] at hat
        repeat (first | refine stp ?_ | (refine sti ?_; intro _) | refine stf ?_ | (refine stb ?_; intro _))
        refine o_idxO rfl rfl rfl rfl (by omega) (by omega) (o' := k) (by omega) ?_
        repeat (first | refine stp ?_ | (refine sti ?_; intro _) | refine stf ?_ | (refine stb ?_; intro _))
        refine o_loadI k hkn rfl rfl rfl rfl ?_
        repeat (first | refine stp ?_ | (refine sti ?_; intro _) | refine stf ?_ | (refine stb ?_; intro _))
        refine G.ret rfl (.cons (.tmp rfl) .nil) (Φ' := []) (M' := []) inferInstance (List.nil_sublist _) ⟨?_, rfl, rfl⟩
        rfl
      · rw [if_neg (by rw [← hk]; exact hdup)] at hat
        repeat (first | refine stp ?_ | (refine sti ?_; intro _) | refine stf ?_ | (refine stb ?_; intro _))
        refine o_idxO rfl rfl rfl rfl (by omega) (by omega) (o' := k) (by omega) ?_
        repeat (first | refine stp ?_ | (refine sti ?_; intro _) | refine stf ?_ | (refine stb ?_; intro _))
        refine o_loadI k hkn rfl rfl rfl rfl ?_
        repeat (first | refine stp ?_ | (refine sti ?_; intro _) | refine stf ?_ | (refine stb ?_; intro _))
        refine o_idxO rfl rfl rfl rfl (by omega) (by omega) (o' := k) (by omega) ?_
        repeat (first | refine stp ?_ | (refine sti ?_; intro _) | refine stf ?_ | (refine stb ?_; intro _))
        refine o_storeI k (q : Int) hkn rfl rfl rfl rfl ?_
        rw [← atP_succ hq1 hk hdup]
        repeat (first | refine stp ?_ | (refine sti ?_; intro _) | refine stf ?_ | (refine stb ?_; intro _))
        exact G.again (S := Nat) (q + 1) (by omega) ⟨by omega, fineP_succ hq1 hfin hdup ⟨by omega, by omega⟩⟩ inferInstance (look_sub_cons rfl (look_sub_cons rfl (look_sub_cons rfl (look_sub_cons rfl (look_sub_cons rfl look_sub_nil))))) (List.Sublist.refl _)
    subst hq0
    have hperm := fineP_end hol hfin
    have hall : ∀ (k : Nat) (hk : k < (atP xs.length o o.length).length), (atP xs.length o o.length)[k] = (posO o k : Int) := fun k hk => by
      rw [atP_get, if_pos]
      · with_unfolding_all rfl
      · rw [List.take_length]; exact permB_mem hperm (by rw [atP_length] at hk; exact hk)
    have hal := atP_length xs.length o o.length
    generalize atP xs.length o o.length = A at hall hal
    repeat (first | refine stp ?_ | (refine sti ?_; intro _) | refine stf ?_ | (refine stb ?_; intro _))
    refine W.loopI (fun (q : Nat) => ([fRp v xs, fRp vo o, fRp v13 (edgesI xs)], [(0, v), (1, vo), (5, v13), (7, .slice (some ⟨b, 0, none⟩) xs.length xs.length), (10, .int .i64 q)], [(b, Ob (cI A) 3)])) (fun q => q ≤ (edgesG xs).length ∧ keepE xs o q = true) (fun q => (edgesG xs).length - q) 0 ⟨Nat.zero_le _, rfl⟩ inferInstance (look_sub_cons rfl (look_sub_cons rfl (look_sub_cons rfl (look_sub_cons rfl (look_sub_cons rfl look_sub_nil))))) (List.Sublist.refl _) ?_
    rintro q ⟨hq, hkeep⟩
    dsimp only
    by_cases hq0 : q = (edgesG xs).length
    · subst hq0
      rw [ordG_end hm hperm hkeep]
      repeat (first | refine stp ?_ | (refine sti ?_; intro _) | refine stf ?_ | (refine stb ?_; intro _))
      refine G.ret rfl (.cons (.tmp rfl) .nil) (Φ' := []) (M' := []) inferInstance (List.nil_sublist _) ⟨?_, rfl, rfl⟩
      rfl
    · have hq1 : q < (edgesG xs).length := by omega
      have hq2 : q < (edgesI xs).length := by omega
      have hE := edges_at hq1
      have hg := edgesI_get xs hq2
      have hg1 : (edgesI xs)[q].1 = ((edgesG xs)[q].1 : Int) := by rw [hg]; rfl
      have hg2 : (edgesI xs)[q].2 = ((edgesG xs)[q].2 : Int) := by rw [hg]; rfl
      have hn1 : (edgesG xs)[q].1 < A.length := by omega
      have hn2 : (edgesG xs)[q].2 < A.length := by omega
      have hv1 := hall _ hn1
      have hv2 := hall _ hn2
      have hks := keepE_succ (o := o) hq1
      rw [hkeep, Bool.true_and] at hks
      by_cases hgt : posO o (edgesG xs)[q].2 < posO o (edgesG xs)[q].1
      · rw [ordG_bad hq1 hgt]
        repeat (first | refine stp ?_ | (refine sti ?_; intro _) | refine stf ?_ | (refine stb ?_; intro _))
        refine W.draw 17 [⟨?v0_1, fun _ z => []⟩, ⟨?v1_1, fun _ z => []⟩, ⟨?v2_1, fun _ z => []⟩, ⟨fun _ z => z, fun _ z => [fPt z (edgesI xs)[q]]⟩, ⟨fun _ z => z, fun _ z => [fPt z (edgesI xs)[q].1]⟩, ⟨?v5_1, fun _ z => []⟩, ⟨?v6_1, fun _ z => []⟩, ⟨?v7_1, fun _ z => []⟩, ⟨?v8_1, fun _ z => []⟩, ⟨?v9_1, fun _ z => []⟩, ⟨?v10_1, fun _ z => []⟩, ⟨fun _ z => z, fun _ z => [fPt z (edgesI xs)[q]]⟩, ⟨fun _ z => z, fun _ z => [fPt z (edgesI xs)[q].2]⟩, ⟨?v13_1, fun _ z => []⟩, ⟨?v14_1, fun _ z => []⟩, ⟨?v15_1, fun _ z => []⟩, ⟨?v16_1, fun _ z => []⟩] [[], [], [], [1, 2], [3], [4], [0, 5], [6], [], [], [], [9, 10], [11], [12], [8, 13], [14], [7, 15]] [16] (by kernel_rfl) (by kernel_rfl) (by kernel_rfl) (by kernel_rfl) ?loc_1 ?ops_1 ?rest_1
        case ops_1 =>
          simp only [AllQ, Nat.reduceAdd, and_true]
          refine ⟨?_, ?_, ?_, ?_, ?_, ?_, ?_, ?_, ?_, ?_, ?_, ?_, ?_, ?_, ?_, ?_, ?_⟩
          all_goals (intro c z0 Φr Lr K hK; dsimp only [dstOf, kval, kfac, ancE, ancF, getD_z, getD_s, List.getElem?_cons_zero, List.getElem?_cons_succ, List.getElem?_nil, Option.getD_some, Option.getD_none, List.nil_append, List.cons_append, Option.getD] at hK ⊢)
          iterate 3 (refine stp ?_; exact hK z0)
          · refine o_idxN q rfl rfl rfl rfl rfl hq2 ?_; intro p; exact hK _
          · refine o_indexP (α := Int × Int) (β := Int) (off := 0) Prod.fst rfl rfl rfl rfl (by decide) (by decide) rfl ?_; intro p; exact hK _
          · (first | refine stp ?_ | refine stf ?_); exact hK z0
          · refine o_idxO rfl rfl rfl rfl (by omega) (by omega) (o' := (edgesG xs)[q].1) (by omega) ?_; exact hK z0
          · refine o_loadI (edgesG xs)[q].1 hn1 rfl rfl rfl rfl ?_; exact hK z0
          iterate 3 (refine stp ?_; exact hK z0)
          · refine o_idxN q rfl rfl rfl rfl rfl hq2 ?_; intro p; exact hK _
          · refine o_indexP (α := Int × Int) (β := Int) (off := 1) Prod.snd rfl rfl rfl rfl (by decide) (by decide) rfl ?_; intro p; exact hK _
          · (first | refine stp ?_ | refine stf ?_); exact hK z0
          · refine o_idxO rfl rfl rfl rfl (by omega) (by omega) (o' := (edgesG xs)[q].2) (by omega) ?_; exact hK z0
          · refine o_loadI (edgesG xs)[q].2 hn2 rfl rfl rfl rfl ?_; exact hK z0
          · refine o_int rfl rfl rfl rfl (i_gtr_t (by omega)) ?_; exact hK z0
        case loc_1 =>
          simp only [AllL, Nat.reduceAdd, and_true]
          refine ⟨?_, ?_, ?_, ?_, ?_, ?_, ?_, ?_, ?_, ?_, ?_, ?_, ?_, ?_, ?_, ?_, ?_⟩
          all_goals (intro c c' z h; first | exact ⟨rfl, rfl⟩ | (skip))
        intro c
        dsimp only [dstOf, kval, kfac, ancE,  ancF, getD_z, getD_s, List.getElem?_cons_zero, List.getElem?_cons_succ, List.getElem?_nil, Option.getD_some, Option.getD_none, List.nil_append, List.cons_append, List.drop_succ_cons, List.drop_zero, Option.getD]
        repeat (first | refine stp ?_ | (refine sti ?_; intro _) | refine stf ?_ | (refine stb ?_; intro _))
        refine G.ret rfl (.cons (.tmp rfl) .nil) (Φ' := []) (M' := []) inferInstance (List.nil_sublist _) ⟨?_, rfl, rfl⟩
        rfl
      · repeat (first | refine stp ?_ | (refine sti ?_; intro _) | refine stf ?_ | (refine stb ?_; intro _))
        refine W.draw 17 [⟨?v0_2, fun _ z => []⟩, ⟨?v1_2, fun _ z => []⟩, ⟨?v2_2, fun _ z => []⟩, ⟨fun _ z => z, fun _ z => [fPt z (edgesI xs)[q]]⟩, ⟨fun _ z => z, fun _ z => [fPt z (edgesI xs)[q].1]⟩, ⟨?v5_2, fun _ z => []⟩, ⟨?v6_2, fun _ z => []⟩, ⟨?v7_2, fun _ z => []⟩, ⟨?v8_2, fun _ z => []⟩, ⟨?v9_2, fun _ z => []⟩, ⟨?v10_2, fun _ z => []⟩, ⟨fun _ z => z, fun _ z => [fPt z (edgesI xs)[q]]⟩, ⟨fun _ z => z, fun _ z => [fPt z (edgesI xs)[q].2]⟩, ⟨?v13_2, fun _ z => []⟩, ⟨?v14_2, fun _ z => []⟩, ⟨?v15_2, fun _ z => []⟩, ⟨?v16_2, fun _ z => []⟩] [[], [], [], [1, 2], [3], [4], [0, 5], [6], [], [], [], [9, 10], [11], [12], [8, 13], [14], [7, 15]] [16] (by kernel_rfl) (by kernel_rfl) (by kernel_rfl) (by kernel_rfl) ?loc_2 ?ops_2 ?rest_2
        case ops_2 =>
          simp only [AllQ, Nat.reduceAdd, and_true]
          refine ⟨?_, ?_, ?_, ?_, ?_, ?_, ?_, ?_, ?_, ?_, ?_, ?_, ?_, ?_, ?_, ?_, ?_⟩
          all_goals (intro c z0 Φr Lr K hK; dsimp only [dstOf, kval, kfac, ancE, ancF, getD_z, getD_s, List.getElem?_cons_zero, List.getElem?_cons_succ, List.getElem?_nil, Option.getD_some, Option.getD_none, List.nil_append, List.cons_append, Option.getD] at hK ⊢)
          iterate 3 (refine stp ?_; exact hK z0)
          · refine o_idxN q rfl rfl rfl rfl rfl hq2 ?_; intro p; exact hK _
          · refine o_indexP (α := Int × Int) (β := Int) (off := 0) Prod.fst rfl rfl rfl rfl (by decide) (by decide) rfl ?_; intro p; exact hK _
          · (first | refine stp ?_ | refine stf ?_); exact hK z0
          · refine o_idxO rfl rfl rfl rfl (by omega) (by omega) (o' := (edgesG xs)[q].1) (by omega) ?_; exact hK z0
          · refine o_loadI (edgesG xs)[q].1 hn1 rfl rfl rfl rfl ?_; exact hK z0
          iterate 3 (refine stp ?_; exact hK z0)
          · refine o_idxN q rfl rfl rfl rfl rfl hq2 ?_; intro p; exact hK _
          · refine o_indexP (α := Int × Int) (β := Int) (off := 1) Prod.snd rfl rfl rfl rfl (by decide) (by decide) rfl ?_; intro p; exact hK _
          · (first | refine stp ?_ | refine stf ?_); exact hK z0
          · refine o_idxO rfl rfl rfl rfl (by omega) (by omega) (o' := (edgesG xs)[q].2) (by omega) ?_; exact hK z0
          · refine o_loadI (edgesG xs)[q].2 hn2 rfl rfl rfl rfl ?_; exact hK z0
          · refine o_int rfl rfl rfl rfl (i_gtr_f (by omega)) ?_; exact hK z0
        case loc_2 =>
          simp only [AllL, Nat.reduceAdd, and_true]
          refine ⟨?_, ?_, ?_, ?_, ?_, ?_, ?_, ?_, ?_, ?_, ?_, ?_, ?_, ?_, ?_, ?_, ?_⟩
          all_goals (intro c c' z h; first | exact ⟨rfl, rfl⟩ | (skip))
        intro c
        dsimp only [dstOf, kval, kfac, ancE,  ancF, getD_z, getD_s, List.getElem?_cons_zero, List.getElem?_cons_succ, List.getElem?_nil, Option.getD_some, Option.getD_none, List.nil_append, List.cons_append, List.drop_succ_cons, List.drop_zero, Option.getD]
        repeat (first | refine stp ?_ | (refine sti ?_; intro _) | refine stf ?_ | (refine stb ?_; intro _))
        exact G.again (S := Nat) (q + 1) (by omega) ⟨by omega, by rw [hks]; exact decide_eq_true (by omega)⟩ inferInstance (look_sub_cons rfl (look_sub_cons rfl (look_sub_cons rfl (look_sub_cons rfl (look_sub_cons rfl look_sub_nil))))) (List.Sublist.refl _)
end Go.Rail
namespace Go.Rail
open Go Go.Proofs
set_option linter.unusedSimpArgs false
set_option linter.unusedVariables false
set_option maxHeartbeats 400000
set_option maxRecDepth 4000
attribute [local irreducible] OpK G W LW wpListIn Exit.then Exit.inBlock Post rounds opRun bodyPostM intOp
theorem keysOf_may (a : List (Int × Int)) : ∀ k ∈ keysOf a, mayK k = true := by
  intro k hk
  simp only [keysOf, List.mem_map] at hk
  obtain ⟨p, _, rfl⟩ := hk
  exact mayK_of _ _
theorem setsOf_eq (a b : List (Int × Int)) : makeS (keysOf a) (keysOf b) = (⟨setK (keysOf a), setK (keysOf b)⟩, 0) := by
  have h1 := keysOf_length a
  have h2 := keysOf_length b
  rw [makeS_eq, if_neg (fun h => h ⟨keysOf_may a, keysOf_may b⟩), if_pos (right_setK (keysOf_may a) (keysOf_may b) (by omega) (by omega))]
theorem setsOf_right (a b : List (Int × Int)) : rightS (setsOf a b) = true := by
  have h1 := keysOf_length a
  have h2 := keysOf_length b
  rw [setsOf, setsOf_eq]
  exact right_setK (keysOf_may a) (keysOf_may b) (by omega) (by omega)
theorem setsOf_small (a b : List (Int × Int)) : small 15 (setsOf a b) := by
  have h1 := keysOf_length a
  have h2 := keysOf_length b
  have h3 := setK_length (keysOf a)
  have h4 := setK_length (keysOf b)
  rw [setsOf, setsOf_eq]
  exact ⟨by dsimp only; omega, by dsimp only; omega⟩
def In64 (p : Int × Int) : Prop := (-9223372036854775808 ≤ p.1 ∧ p.1 ≤ 9223372036854775807) ∧ (-9223372036854775808 ≤ p.2 ∧ p.2 ≤ 9223372036854775807)
def okRaw (xs : List (Int × Int)) : Prop := xs.length ≤ reachBytes ∧ ∀ p ∈ xs, In64 p
theorem okRaw_in {xs : List (Int × Int)} (h : okRaw xs) : ∀ p ∈ xs, InI p := fun p hp => ⟨(h.2 p hp).1.1, (h.2 p hp).2.1⟩
theorem okRaw_len {xs : List (Int × Int)} (h : okRaw xs) : xs.length ≤ 4611686018427387904 := Nat.le_trans h.1 (by decide)
theorem rawSets (v u : Value) (a b : List (Int × Int)) (ha : okRaw a) (hb : okRaw b) : FnD Tryz.prog 42 [v, u] [fRp v a, fRp u b] (fun r => [fRp r (setsOf a b)]) := sets_spec v u a b (okRaw_len ha) (okRaw_len hb) (okRaw_in ha) (okRaw_in hb)
end Go.Rail
