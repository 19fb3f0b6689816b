/- graph.Edges and graph.Levels answer as the document does. -/
import Derived.Test.YtoiepfapghnccaaAGPairs
import Derived.Test.YtoiepfapghnccaaAGRef2
namespace Go.Rail
open Go Go.Proofs
set_option linter.unusedSimpArgs false
set_option linter.unusedVariables false
set_option maxHeartbeats 400000
set_option maxRecDepth 4000
attribute [local irreducible] OpK G W LW wpListIn Exit.then Exit.inBlock Post rounds opRun bodyPostM intOp

attribute [local irreducible] lexN cmpW cmpA cmpK cmpI makeS setK commonL common clashS rightS rowG restG edgesG clG valAt rlP lvP

theorem enc_len (xs : List Sets) : ∀ vs ∈ (edgesG xs).map encP, vs.length = 2 := by
  intro vs h
  obtain ⟨p, _, rfl⟩ := List.mem_map.1 h
  rfl
theorem edges_spec (v : Value) (xs : List Sets) (hx : xs.length ≤ 1000000) (hs : ∀ s ∈ xs, fit6 s) : Fn Try.prog 37 [v] [fRp v xs] [] (RTup (tupE (errG xs)) 52 (edgesR xs)) := by
  refine Fn.enter Try.func37 rfl Try.ntmps37 (by simp) (fun I0 w0 => ?_)
  refine W.bare (G.slice v xs ?_)
  intro a cap x zx
  subst x
  cases hm : mayG xs with
  | false =>
    have e1 : edgesR xs = [] := by rw [edgesR, hm]; rfl
    have e2 : errG xs = 1 := by rw [errG, hm]; rfl
    rw [e1, e2]
    repeat (first | refine stp ?_ | (refine k_indexAddr ?_; first | (refine o_ixA _ rfl rfl rfl rfl rfl (h := ?_); intro _) | (refine o_ixB rfl rfl rfl rfl (h := ?_); intro _)) | (refine k_load ?_; refine o_loadF rfl rfl rfl rfl ?_) | (refine stb ?_; intro _))
    refine o_callV rfl rfl rfl rfl (mayG_spec _ xs hx hs) (congrArg Value.bool hm) ?_
    repeat (first | refine stp ?_ | (refine k_indexAddr ?_; first | (refine o_ixA _ rfl rfl rfl rfl rfl (h := ?_); intro _) | (refine o_ixB rfl rfl rfl rfl (h := ?_); intro _)) | (refine k_load ?_; refine o_loadF rfl rfl rfl rfl ?_) | (refine stb ?_; intro _))
    exact G.ret rfl (.cons (.tmp rfl) (.cons (.tmp rfl) .nil)) (Φ' := [fRow ([] : List Value) ([] : List (Int × Int))]) (M' := []) inferInstance (List.nil_sublist _) ⟨_, none, rfl, ⟨rfl, rfl⟩, rfl, rfl⟩
  | true =>
    have e1 : edgesR xs = edgesI xs := by rw [edgesR, hm]; rfl
    have e2 : errG xs = 0 := by rw [errG, hm]; rfl
    have h64 := may_len hm
    have hcap := edges_few hm
    have hlen := edgesI_length xs
    rw [e1, e2]
    repeat (first | refine stp ?_ | (refine k_indexAddr ?_; first | (refine o_ixA _ rfl rfl rfl rfl rfl (h := ?_); intro _) | (refine o_ixB rfl rfl rfl rfl (h := ?_); intro _)) | (refine k_load ?_; refine o_loadF rfl rfl rfl rfl ?_) | (refine stb ?_; intro _))
    refine o_callV rfl rfl rfl rfl (mayG_spec _ xs hx hs) (congrArg Value.bool hm) ?_
    repeat (first | refine stp ?_ | (refine k_indexAddr ?_; first | (refine o_ixA _ rfl rfl rfl rfl rfl (h := ?_); intro _) | (refine o_ixB rfl rfl rfl rfl (h := ?_); intro _)) | (refine k_load ?_; refine o_loadF rfl rfl rfl rfl ?_) | (refine stb ?_; intro _))
    rename_i b4
    refine OpK.call rfl rfl rfl rfl (pairs_spec a xs.length cap) inferInstance (Mr := _) (List.Perm.refl _) ?_
    rintro u Φ' Mc' ⟨b, rfl, rfl, rfl⟩
    dsimp only [List.cons_append, List.nil_append]
    repeat (first | refine stp ?_ | (refine k_indexAddr ?_; first | (refine o_ixA _ rfl rfl rfl rfl rfl (h := ?_); intro _) | (refine o_ixB rfl rfl rfl rfl (h := ?_); intro _)) | (refine k_load ?_; refine o_loadF rfl rfl rfl rfl ?_) | (refine stb ?_; intro _))
    refine W.rangeFuncR (enc := (edgesG xs).map encP) (ps := [12, 13]) (Φi := [fBlk b [.slice a xs.length cap] 45, fRp (.slice a xs.length cap) xs]) (Mr := []) (fun k s => ∃ w o, IsOwn 2 w ((edgesI xs).take k).length o ∧ s = ([fRow (ocells o) ((edgesI xs).take k)], (b4, Ob [w] 32) :: ownM 52 o)) (fun _ _ => False) rfl (pairs1_spec b a cap xs hx hs) (by decide) (enc_len xs) inferInstance ([fRow ([] : List Value) ([] : List (Int × Int))], [(b4, Ob [.slice none 0 0] 32)]) ⟨.slice none 0 0, none, ⟨rfl, rfl⟩, rfl⟩ inferInstance (List.Perm.refl _) ?_ ?_ ?_
    · rintro l rec I0' w0' k hk _ ⟨w, o, hown, rfl⟩
      have hk1 : k < (edgesG xs).length := by simpa using hk
      have hk2 : k < (edgesI xs).length := by omega
      have htk : (edgesI xs).take k ++ [toI (edgesG xs)[k]] = (edgesI xs).take (k + 1) := by rw [List.take_succ_eq_append_getElem hk2, edgesI_get]
      have htl : ((edgesI xs).take k).length = k := by rw [List.length_take]; omega
      dsimp only
      rw [List.getElem_map]
      show W _ _ _ _ ((13, Value.int .i64 ((edgesG xs)[k].2 : Nat)) :: (12, Value.int .i64 ((edgesG xs)[k].1 : Nat)) :: _) _
      repeat (first | refine stp ?_ | (refine k_indexAddr ?_; first | (refine o_ixA _ rfl rfl rfl rfl rfl (h := ?_); intro _) | (refine o_ixB rfl rfl rfl rfl (h := ?_); intro _)) | (refine k_load ?_; refine o_loadF rfl rfl rfl rfl ?_) | (refine stb ?_; intro _))
      refine G.begin (by rfl) ?_
      repeat (first | refine stp ?_ | (refine k_indexAddr ?_; first | (refine o_ixA _ rfl rfl rfl rfl rfl (h := ?_); intro _) | (refine o_ixB rfl rfl rfl rfl (h := ?_); intro _)) | (refine k_load ?_; refine o_loadF rfl rfl rfl rfl ?_) | (refine stb ?_; intro _))
      refine o_lit (xs := [toI (edgesG xs)[k]]) ⟨by decide, rfl, by decide⟩ rfl rfl rfl ⟨fun _ _ => Rp.flat.2 rfl, trivial⟩ rfl ?_
      intro p1
      repeat (first | refine stp ?_ | (refine k_indexAddr ?_; first | (refine o_ixA _ rfl rfl rfl rfl rfl (h := ?_); intro _) | (refine o_ixB rfl rfl rfl rfl (h := ?_); intro _)) | (refine k_load ?_; refine o_loadF rfl rfl rfl rfl ?_) | (refine stb ?_; intro _))
      refine o_app2 (Mr := [_, _]) o (xs := (edgesI xs).take k) (ys := [toI (edgesG xs)[k]]) hown ⟨by simp; omega, by simp; omega, rfl⟩ rfl rfl rfl rfl inferInstance inferInstance (List.Perm.refl _) ?_
      intro w' o' hown'
      rw [htk] at hown' ⊢
      dsimp only [List.cons_append, List.nil_append]
      repeat (first | refine stp ?_ | (refine k_indexAddr ?_; first | (refine o_ixA _ rfl rfl rfl rfl rfl (h := ?_); intro _) | (refine o_ixB rfl rfl rfl rfl (h := ?_); intro _)) | (refine k_load ?_; refine o_loadF rfl rfl rfl rfl ?_) | (refine stb ?_; intro _))
      refine o_store (vs := [w']) (cs' := [w']) rfl rfl rfl (own_cell hown').1 rfl (Nat.le_of_ble_eq_true rfl) (own_cell hown').2 rfl ?_
      repeat (first | refine stp ?_ | (refine k_indexAddr ?_; first | (refine o_ixA _ rfl rfl rfl rfl rfl (h := ?_); intro _) | (refine o_ixB rfl rfl rfl rfl (h := ?_); intro _)) | (refine k_load ?_; refine o_loadF rfl rfl rfl rfl ?_) | (refine stb ?_; intro _))
      refine G.roundEnd inferInstance (Φ' := [fRow (ocells o') ((edgesI xs).take (k + 1))]) (M'' := (b4, Ob [w'] 32) :: ownM 52 o') ?_ inferInstance (List.Sublist.refl _)
      exact Or.inl ⟨rfl, ([fRow (ocells o') ((edgesI xs).take (k + 1))], (b4, Ob [w'] 32) :: ownM 52 o'), ⟨w', o', hown', rfl⟩, rfl⟩
    · rintro D _ ⟨w, o, hown, rfl⟩
      rw [List.length_map, ← hlen, List.take_length] at hown ⊢
      refine G.perm ?_ List.perm_append_comm
      dsimp only [List.cons_append, List.nil_append]
      repeat (first | refine stp ?_ | (refine k_indexAddr ?_; first | (refine o_ixA _ rfl rfl rfl rfl rfl (h := ?_); intro _) | (refine o_ixB rfl rfl rfl rfl (h := ?_); intro _)) | (refine k_load ?_; refine o_loadF rfl rfl rfl rfl ?_) | (refine stb ?_; intro _))
      refine G.unmark inferInstance ?_
      exact G.ret rfl (.cons (.tmp rfl) (.cons (.tmp rfl) .nil)) (Φ' := [fRow (ocells o) (edgesI xs)]) (M' := ownM 52 o) inferInstance (List.sublist_cons_self _ _) ⟨_, o, rfl, hown, rfl, rfl⟩
    · intro D c s h
      exact h.elim
theorem raise_spec (b off e : Nat) (A : List Int) (u : Int) (h : off < A.length) : Fn Try.prog 79 [.pointer (some ⟨b, off, none⟩), .int .i64 u] [] [(b, Ob (cI A) e)] (fun r Φ' M' => r = tup [] ∧ Φ' = [] ∧ M' = [(b, Ob (cI (A.set off (if A[off] < u then u else A[off]))) e)]) := by
  refine Fn.enter Try.func79 rfl Try.ntmps79 (by simp) (fun I0 w0 => ?_)
  repeat (first | refine stp ?_ | (refine k_indexAddr ?_; first | (refine o_ixA _ rfl rfl rfl rfl rfl (h := ?_); intro _) | (refine o_ixB rfl rfl rfl rfl (h := ?_); intro _)) | (refine k_load ?_; refine o_loadF rfl rfl rfl rfl ?_) | (refine stb ?_; intro _))
  refine o_nilCheck rfl rfl rfl ?_
  repeat (first | refine stp ?_ | (refine k_indexAddr ?_; first | (refine o_ixA _ rfl rfl rfl rfl rfl (h := ?_); intro _) | (refine o_ixB rfl rfl rfl rfl (h := ?_); intro _)) | (refine k_load ?_; refine o_loadF rfl rfl rfl rfl ?_) | (refine stb ?_; intro _))
  refine o_loadI off h rfl rfl rfl rfl ?_
  repeat (first | refine stp ?_ | (refine k_indexAddr ?_; first | (refine o_ixA _ rfl rfl rfl rfl rfl (h := ?_); intro _) | (refine o_ixB rfl rfl rfl rfl (h := ?_); intro _)) | (refine k_load ?_; refine o_loadF rfl rfl rfl rfl ?_) | (refine stb ?_; intro _))
  refine o_max rfl rfl rfl rfl rfl ?_
  repeat (first | refine stp ?_ | (refine k_indexAddr ?_; first | (refine o_ixA _ rfl rfl rfl rfl rfl (h := ?_); intro _) | (refine o_ixB rfl rfl rfl rfl (h := ?_); intro _)) | (refine k_load ?_; refine o_loadF rfl rfl rfl rfl ?_) | (refine stb ?_; intro _))
  refine o_nilCheck rfl rfl rfl ?_
  repeat (first | refine stp ?_ | (refine k_indexAddr ?_; first | (refine o_ixA _ rfl rfl rfl rfl rfl (h := ?_); intro _) | (refine o_ixB rfl rfl rfl rfl (h := ?_); intro _)) | (refine k_load ?_; refine o_loadF rfl rfl rfl rfl ?_) | (refine stb ?_; intro _))
  refine o_storeI off (if A[off] < u then u else A[off]) h rfl rfl ?_ rfl ?_
  · show some _ = some _
    split <;> rfl
  repeat (first | refine stp ?_ | (refine k_indexAddr ?_; first | (refine o_ixA _ rfl rfl rfl rfl rfl (h := ?_); intro _) | (refine o_ixB rfl rfl rfl rfl (h := ?_); intro _)) | (refine k_load ?_; refine o_loadF rfl rfl rfl rfl ?_) | (refine stb ?_; intro _))
  exact G.fin rfl .nil (Φ' := []) (M' := [(b, Ob (cI (A.set off (if A[off] < u then u else A[off]))) e)]) inferInstance (List.Sublist.refl _) ⟨rfl, rfl, rfl⟩
theorem levels_spec (v : Value) (xs : List Sets) (hx : xs.length ≤ 1000000) (hs : ∀ s ∈ xs, fit6 s) : Fn Try.prog 39 [v] [fRp v xs] [] (RTup (tupE (errG xs)) 3 (levelsR xs)) := by
  refine Fn.enter Try.func39 rfl Try.ntmps39 (by simp) (fun I0 w0 => ?_)
  refine W.bare (G.slice v xs ?_)
  intro a cap x zx
  subst x
  cases hm : mayG xs with
  | false =>
    have e1 : levelsR xs = [] := by rw [levelsR, hm]; rfl
    have e2 : errG xs = 1 := by rw [errG, hm]; rfl
    rw [e1, e2]
    repeat (first | refine stp ?_ | (refine k_indexAddr ?_; first | (refine o_ixA _ rfl rfl rfl rfl rfl (h := ?_); intro _) | (refine o_ixB rfl rfl rfl rfl (h := ?_); intro _)) | (refine k_load ?_; refine o_loadF rfl rfl rfl rfl ?_) | (refine stb ?_; intro _))
    refine o_callV rfl rfl rfl rfl (mayG_spec _ xs hx hs) (congrArg Value.bool hm) ?_
    repeat (first | refine stp ?_ | (refine k_indexAddr ?_; first | (refine o_ixA _ rfl rfl rfl rfl rfl (h := ?_); intro _) | (refine o_ixB rfl rfl rfl rfl (h := ?_); intro _)) | (refine k_load ?_; refine o_loadF rfl rfl rfl rfl ?_) | (refine stb ?_; intro _))
    exact G.ret rfl (.cons (.tmp rfl) (.cons (.tmp rfl) .nil)) (Φ' := [fRow ([] : List Value) ([] : List Int)]) (M' := []) inferInstance (List.nil_sublist _) ⟨_, none, rfl, ⟨rfl, rfl⟩, rfl, rfl⟩
  | true =>
    have e1 : levelsR xs = levelsI xs := by rw [levelsR, hm]; rfl
    have e2 : errG xs = 0 := by rw [errG, hm]; rfl
    have h64 := may_len hm
    have hcap := edges_few hm
    rw [e1, e2]
    repeat (first | refine stp ?_ | (refine k_indexAddr ?_; first | (refine o_ixA _ rfl rfl rfl rfl rfl (h := ?_); intro _) | (refine o_ixB rfl rfl rfl rfl (h := ?_); intro _)) | (refine k_load ?_; refine o_loadF rfl rfl rfl rfl ?_) | (refine stb ?_; intro _))
    refine o_callV rfl rfl rfl rfl (mayG_spec _ xs hx hs) (congrArg Value.bool hm) ?_
    repeat (first | refine stp ?_ | (refine k_indexAddr ?_; first | (refine o_ixA _ rfl rfl rfl rfl rfl (h := ?_); intro _) | (refine o_ixB rfl rfl rfl rfl (h := ?_); intro _)) | (refine k_load ?_; refine o_loadF rfl rfl rfl rfl ?_) | (refine stb ?_; intro _))
    refine o_makeI xs.length rfl rfl rfl rfl rfl rfl hx ?_
    intro bo
    rw [← lvP_zero]
    repeat (first | refine stp ?_ | (refine k_indexAddr ?_; first | (refine o_ixA _ rfl rfl rfl rfl rfl (h := ?_); intro _) | (refine o_ixB rfl rfl rfl rfl (h := ?_); intro _)) | (refine k_load ?_; refine o_loadF rfl rfl rfl rfl ?_) | (refine stb ?_; intro _))
    rename_i b4
    refine OpK.call rfl rfl rfl rfl (pairs_spec a xs.length cap) inferInstance (Mr := _) (List.Perm.refl _) ?_
    rintro u Φ' Mc' ⟨b, rfl, rfl, rfl⟩
    dsimp only [List.cons_append, List.nil_append]
    repeat (first | refine stp ?_ | (refine k_indexAddr ?_; first | (refine o_ixA _ rfl rfl rfl rfl rfl (h := ?_); intro _) | (refine o_ixB rfl rfl rfl rfl (h := ?_); intro _)) | (refine k_load ?_; refine o_loadF rfl rfl rfl rfl ?_) | (refine stb ?_; intro _))
    refine W.rangeFunc (enc := (edgesG xs).map encP) (ps := [15, 16]) (Φi := [fBlk b [.slice a xs.length cap] 45, fRp (.slice a xs.length cap) xs]) (Mr := []) (fun k => ([], [(b4, Ob [.slice (some ⟨bo, 0, none⟩) xs.length xs.length] 59), (bo, Ob (cI (lvP xs k)) 3)])) (fun _ _ => False) rfl (pairs1_spec b a cap xs hx hs).plain (by decide) (enc_len xs) inferInstance inferInstance (List.Perm.refl _) ?_ ?_ ?_
    · intro l rec I0' w0' k hk
      have hk1 : k < (edgesG xs).length := by simpa using hk
      have hE := edges_at hk1
      have hll := lvP_length xs k
      have hn1 : (edgesG xs)[k].1 < (lvP xs k).length := by omega
      have hn2 : (edgesG xs)[k].2 < (lvP xs k).length := by omega
      have hv1 : (lvP xs k)[(edgesG xs)[k].1] = (levG xs (edgesG xs)[k].1 : Int) := by rw [lvP_get, valAt_first hk1]
      have hv2 : (lvP xs k)[(edgesG xs)[k].2] = (valAt xs (edgesG xs) k (edgesG xs)[k].2 : Int) := by rw [lvP_get]
      have hll2 := lev_le xs (edgesG xs)[k].1
      have hset : (lvP xs k).set (edgesG xs)[k].2 (if (lvP xs k)[(edgesG xs)[k].2] < (lvP xs k)[(edgesG xs)[k].1] + 1 then (lvP xs k)[(edgesG xs)[k].1] + 1 else (lvP xs k)[(edgesG xs)[k].2]) = lvP xs (k + 1) := by
        rw [lvP_succ hk1, hv1, hv2]
        congr 1
        split <;> omega
      dsimp only
      rw [List.getElem_map]
      show W _ _ _ _ ((16, Value.int .i64 ((edgesG xs)[k].2 : Nat)) :: (15, Value.int .i64 ((edgesG xs)[k].1 : Nat)) :: _) _
      repeat (first | refine stp ?_ | (refine k_indexAddr ?_; first | (refine o_ixA _ rfl rfl rfl rfl rfl (h := ?_); intro _) | (refine o_ixB rfl rfl rfl rfl (h := ?_); intro _)) | (refine k_load ?_; refine o_loadF rfl rfl rfl rfl ?_) | (refine stb ?_; intro _))
      refine G.begin (by rfl) ?_
      repeat (first | refine stp ?_ | (refine k_indexAddr ?_; first | (refine o_ixA _ rfl rfl rfl rfl rfl (h := ?_); intro _) | (refine o_ixB rfl rfl rfl rfl (h := ?_); intro _)) | (refine k_load ?_; refine o_loadF rfl rfl rfl rfl ?_) | (refine stb ?_; intro _))
      refine W.draw 8 [⟨?v0_1, fun _ z => []⟩, ⟨?v1_1, fun _ z => []⟩, ⟨?v2_1, fun _ z => []⟩, ⟨?v3_1, fun _ z => []⟩, ⟨?v4_1, fun _ z => []⟩, ⟨?v5_1, fun _ z => []⟩, ⟨?v6_1, fun _ z => []⟩, ⟨?v7_1, fun _ z => []⟩] [[], [], [0, 1], [], [], [3, 4], [5], [6]] [2, 7] (by kernel_rfl) (by kernel_rfl) (by kernel_rfl) (by kernel_rfl) ?loc_1 ?ops_1 ?rest_1
      case ops_1 =>
        simp only [AllQ, Nat.reduceAdd, and_true]
        refine ⟨?_, ?_, ?_, ?_, ?_, ?_, ?_, ?_⟩
        · intro c z0 Φr Lr K hK; dsimp only [dstOf, kval, kfac, ancE,  ancF, getD_z, getD_s, List.getElem?_cons_zero, List.getElem?_cons_succ, List.getElem?_nil, Option.getD_some, Option.getD_none, List.nil_append, List.cons_append, Option.getD] at hK ⊢; (first | refine stp ?_ | refine o_loadF rfl rfl rfl rfl ?_); exact hK z0
        · intro c z0 Φr Lr K hK; dsimp only [dstOf, kval, kfac, ancE,  ancF, getD_z, getD_s, List.getElem?_cons_zero, List.getElem?_cons_succ, List.getElem?_nil, Option.getD_some, Option.getD_none, List.nil_append, List.cons_append, Option.getD] at hK ⊢; refine stp ?_; exact hK z0
        · intro c z0 Φr Lr K hK; dsimp only [dstOf, kval, kfac, ancE,  ancF, getD_z, getD_s, List.getElem?_cons_zero, List.getElem?_cons_succ, List.getElem?_nil, Option.getD_some, Option.getD_none, List.nil_append, List.cons_append, Option.getD] at hK ⊢; refine o_idxO rfl rfl rfl rfl (by omega) (by omega) (o' := (edgesG xs)[k].2) (by omega) ?_; exact hK z0
        · intro c z0 Φr Lr K hK; dsimp only [dstOf, kval, kfac, ancE,  ancF, getD_z, getD_s, List.getElem?_cons_zero, List.getElem?_cons_succ, List.getElem?_nil, Option.getD_some, Option.getD_none, List.nil_append, List.cons_append, Option.getD] at hK ⊢; (first | refine stp ?_ | refine o_loadF rfl rfl rfl rfl ?_); exact hK z0
        · intro c z0 Φr Lr K hK; dsimp only [dstOf, kval, kfac, ancE,  ancF, getD_z, getD_s, List.getElem?_cons_zero, List.getElem?_cons_succ, List.getElem?_nil, Option.getD_some, Option.getD_none, List.nil_append, List.cons_append, Option.getD] at hK ⊢; refine stp ?_; exact hK z0
        · intro c z0 Φr Lr K hK; dsimp only [dstOf, kval, kfac, ancE,  ancF, getD_z, getD_s, List.getElem?_cons_zero, List.getElem?_cons_succ, List.getElem?_nil, Option.getD_some, Option.getD_none, List.nil_append, List.cons_append, Option.getD] at hK ⊢; refine o_idxO rfl rfl rfl rfl (by omega) (by omega) (o' := (edgesG xs)[k].1) (by omega) ?_; exact hK z0
        · intro c z0 Φr Lr K hK; dsimp only [dstOf, kval, kfac, ancE,  ancF, getD_z, getD_s, List.getElem?_cons_zero, List.getElem?_cons_succ, List.getElem?_nil, Option.getD_some, Option.getD_none, List.nil_append, List.cons_append, Option.getD] at hK ⊢; refine o_loadI (edgesG xs)[k].1 hn1 rfl rfl rfl rfl ?_; exact hK z0
        · intro c z0 Φr Lr K hK; dsimp only [dstOf, kval, kfac, ancE,  ancF, getD_z, getD_s, List.getElem?_cons_zero, List.getElem?_cons_succ, List.getElem?_nil, Option.getD_some, Option.getD_none, List.nil_append, List.cons_append, Option.getD] at hK ⊢; refine o_int rfl rfl rfl rfl (i_add (by omega) (by omega)) ?_; exact hK z0
      case loc_1 =>
        simp only [AllL, Nat.reduceAdd, and_true]
        refine ⟨?_, ?_, ?_, ?_, ?_, ?_, ?_, ?_⟩
        all_goals exact fun _ _ _ _ => ⟨rfl, rfl⟩
      intro c
      dsimp only [dstOf, kval, kfac, ancE,  ancF, getD_z, getD_s, List.getElem?_cons_zero, List.getElem?_cons_succ, List.getElem?_nil, Option.getD_some, Option.getD_none, List.nil_append, List.cons_append, List.drop_succ_cons, List.drop_zero, Option.getD]
      repeat (first | refine stp ?_ | (refine k_indexAddr ?_; first | (refine o_ixA _ rfl rfl rfl rfl rfl (h := ?_); intro _) | (refine o_ixB rfl rfl rfl rfl (h := ?_); intro _)) | (refine k_load ?_; refine o_loadF rfl rfl rfl rfl ?_) | (refine stb ?_; intro _))
      refine OpK.call rfl rfl rfl rfl (raise_spec bo (edgesG xs)[k].2 3 (lvP xs k) ((lvP xs k)[(edgesG xs)[k].1] + 1) hn2) inferInstance (Mr := [_, _]) (List.perm_append_comm (l₁ := [_, _]) (l₂ := [_])) ?_
      rintro u Φ' Mc' ⟨rfl, rfl, rfl⟩
      rw [hset]
      refine G.perm ?_ (List.perm_append_comm (l₁ := [_]) (l₂ := [_, _]))
      dsimp only [List.cons_append, List.nil_append]
      repeat (first | refine stp ?_ | (refine k_indexAddr ?_; first | (refine o_ixA _ rfl rfl rfl rfl rfl (h := ?_); intro _) | (refine o_ixB rfl rfl rfl rfl (h := ?_); intro _)) | (refine k_load ?_; refine o_loadF rfl rfl rfl rfl ?_) | (refine stb ?_; intro _))
      exact G.roundEnd inferInstance (Φ' := []) (M'' := [(b4, Ob [.slice (some ⟨bo, 0, none⟩) xs.length xs.length] 59), (bo, Ob (cI (lvP xs (k + 1))) 3)]) (.inl ⟨rfl, rfl, rfl⟩) inferInstance (List.Sublist.refl _)
    · intro D
      rw [List.length_map, lvP_end]
      dsimp only [List.cons_append, List.nil_append]
      repeat (first | refine stp ?_ | (refine k_indexAddr ?_; first | (refine o_ixA _ rfl rfl rfl rfl rfl (h := ?_); intro _) | (refine o_ixB rfl rfl rfl rfl (h := ?_); intro _)) | (refine k_load ?_; refine o_loadF rfl rfl rfl rfl ?_) | (refine stb ?_; intro _))
      refine G.unmark inferInstance ?_
      exact G.ret rfl (.cons (.tmp rfl) (.cons (.tmp rfl) .nil)) (Φ' := [fRow (cI (levelsI xs)) (levelsI xs)]) (M' := [(bo, Ob (cI (levelsI xs)) 3)]) inferInstance (List.sublist_cons_self _ _) ⟨_, some (bo, cI (levelsI xs)), rfl, own_cI bo (levelsI xs) (by simp [levelsI]), rfl, rfl⟩
    · intro D c s h
      exact h.elim
end Go.Rail
