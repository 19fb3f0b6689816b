/- The law of orders, walked. -/
import Derived.Test.YtoiepfapghnccaaAGLaw
namespace Go.Rail
open Go Go.Proofs
set_option linter.unusedSimpArgs false
set_option linter.unusedVariables false
set_option maxHeartbeats 400000
set_option maxRecDepth 4000
attribute [local irreducible] OpK G W LW wpListIn Exit.then Exit.inBlock Post rounds opRun bodyPostM intOp

attribute [local irreducible] lexN cmpW cmpA cmpK cmpI makeS setK joinS clashS mayS rightS errG edgesR levelsR errR readyR ordG setsOf clG edgesG mayG rawG sgO pickN

theorem sgO_succ (i : Nat) : sgO i id ++ [(i : Int)] = sgO (i + 1) id := by
  unfold sgO; rw [List.range_succ, List.map_append]; rfl
theorem gorders_walk (v : Value) (raws : List RawS) (at_ : Int) (hr : okRaws raws) (hat : -9223372036854775808 ≤ at_ ∧ at_ ≤ 9223372036854775807) : FnV Try.prog 12 [v, .int .i64 at_] [fRp v raws] (.bool true) := by
  have hS := gsets_spec v raws hr
  have hm := rawG_may raws
  have hfit := rawG_fit raws
  have hlen := rawG_len raws
  generalize rawG raws = l at hS hm hfit hlen
  have hlx : l.length ≤ 1000000 := by omega
  refine Fn.enter Try.func12 rfl Try.ntmps12 (by simp) (fun I0 w0 => ?_)
  repeat (first | refine stp ?_ | (refine k_indexAddr ?_; first | (refine o_ixA _ rfl rfl rfl rfl rfl (h := ?_); intro _) | (refine o_ixB rfl rfl rfl rfl (h := ?_); intro _)) | (refine k_load ?_; refine o_loadF rfl rfl rfl rfl ?_) | (refine stb ?_; intro _))
  refine o_callV rfl rfl rfl rfl gawake_spec rfl ?_
  repeat (first | refine stp ?_ | (refine k_indexAddr ?_; first | (refine o_ixA _ rfl rfl rfl rfl rfl (h := ?_); intro _) | (refine o_ixB rfl rfl rfl rfl (h := ?_); intro _)) | (refine k_load ?_; refine o_loadF rfl rfl rfl rfl ?_) | (refine stb ?_; intro _))
  refine o_callD rfl rfl rfl rfl hS ?_
  intro v6
  repeat (first | refine stp ?_ | (refine k_indexAddr ?_; first | (refine o_ixA _ rfl rfl rfl rfl rfl (h := ?_); intro _) | (refine o_ixB rfl rfl rfl rfl (h := ?_); intro _)) | (refine k_load ?_; refine o_loadF rfl rfl rfl rfl ?_) | (refine stb ?_; intro _))
  refine W.loopI (fun (s : SgSt) => ([fRp v6 l, fRow (ocells s.o) (sgO s.i id)], [(1, .int .i64 at_), (5, .bool true), (6, v6), (7, s.v), (8, .int .i64 s.i)], ownM 3 s.o)) (fun s => s.i ≤ l.length ∧ IsOwn 1 s.v (sgO s.i id).length s.o) (fun s => l.length - s.i) ⟨0, .slice none 0 0, none⟩ ⟨Nat.zero_le _, by rw [sgO_length]; exact ⟨rfl, rfl⟩⟩ (by
    show Ents _ [fRp v6 l, fRow ([] : List Value) (sgO 0 id)]
    rw [show sgO 0 id = [] from by with_unfolding_all rfl]
    infer_instance) (look_sub_cons rfl (look_sub_cons rfl (look_sub_cons rfl (look_sub_cons rfl (look_sub_cons rfl look_sub_nil))))) (List.Sublist.refl _) ?_
  rintro ⟨i, v7, o⟩ ⟨hi, hown⟩
  dsimp only at hi hown ⊢
  by_cases hi0 : i = l.length
  case neg =>
    have hi1 : i < l.length := by omega
    have hsl := sgO_length i id
    repeat (first | refine stp ?_ | (refine k_indexAddr ?_; first | (refine o_ixA _ rfl rfl rfl rfl rfl (h := ?_); intro _) | (refine o_ixB rfl rfl rfl rfl (h := ?_); intro _)) | (refine k_load ?_; refine o_loadF rfl rfl rfl rfl ?_) | (refine stb ?_; intro _))
    refine o_lit (xs := [(i : Int)]) ⟨by decide, rfl, by decide⟩ rfl rfl rfl ⟨fun _ _ => Rp.flat.2 rfl, trivial⟩ rfl ?_
    intro p1
    repeat (first | refine stp ?_ | (refine k_indexAddr ?_; first | (refine o_ixA _ rfl rfl rfl rfl rfl (h := ?_); intro _) | (refine o_ixB rfl rfl rfl rfl (h := ?_); intro _)) | (refine k_load ?_; refine o_loadF rfl rfl rfl rfl ?_) | (refine stb ?_; intro _))
    refine o_app2 (Mr := []) o (xs := sgO i id) (ys := [(i : Int)]) hown ⟨by simp; omega, by simp; omega, rfl⟩ rfl rfl rfl rfl inferInstance inferInstance (List.Perm.refl _) ?_
    intro v' o' hown'
    rw [sgO_succ] at hown' ⊢
    repeat (first | refine stp ?_ | (refine k_indexAddr ?_; first | (refine o_ixA _ rfl rfl rfl rfl rfl (h := ?_); intro _) | (refine o_ixB rfl rfl rfl rfl (h := ?_); intro _)) | (refine k_load ?_; refine o_loadF rfl rfl rfl rfl ?_) | (refine stb ?_; intro _))
    exact G.again (S := SgSt) ⟨i + 1, v', o'⟩ (by dsimp only; omega) ⟨by dsimp only; omega, hown'⟩ inferInstance (look_sub_cons rfl (look_sub_cons rfl (look_sub_cons rfl (look_sub_cons rfl (look_sub_cons rfl look_sub_nil))))) (List.Sublist.refl _)
  subst hi0
  have hsl := sgO_length l.length id
  repeat (first | refine stp ?_ | (refine k_indexAddr ?_; first | (refine o_ixA _ rfl rfl rfl rfl rfl (h := ?_); intro _) | (refine o_ixB rfl rfl rfl rfl (h := ?_); intro _)) | (refine k_load ?_; refine o_loadF rfl rfl rfl rfl ?_) | (refine stb ?_; intro _))
  refine o_lendV rfl rfl rfl rfl (orders_spec v6 v7 l (sgO l.length id) hlx hfit (by omega)) (congrArg Value.bool (ordG_id hm)) (LEnts.cons (a := LEnt.of) (b := LEnts.cons (a := LEnt.own o 3 hown inferInstance (fun p hp => hp)) (b := LEnts.nil))) ?_
  by_cases h2 : l.length < 2
  · repeat (first | refine stp ?_ | (refine k_indexAddr ?_; first | (refine o_ixA _ rfl rfl rfl rfl rfl (h := ?_); intro _) | (refine o_ixB rfl rfl rfl rfl (h := ?_); intro _)) | (refine k_load ?_; refine o_loadF rfl rfl rfl rfl ?_) | (refine stb ?_; intro _))
    refine G.ret rfl (.cons (.tmp rfl) .nil) (Φ' := []) (M' := []) inferInstance (List.nil_sublist _) ⟨?_, rfl, rfl⟩
    rfl
  have hk := pickN_lt at_ (n := l.length - 1) (by omega)
  have hpk := pick_spec at_ (l.length - 1) (by omega) (by omega) hat
  rw [show ((l.length - 1 : Nat) : Int) = (l.length : Int) - 1 from by omega] at hpk
  generalize pickN at_ (l.length - 1) = k at hk hpk
  have hk1 : k + 1 < l.length := by omega
  have hk0 : k < l.length := by omega
  cases o with
  | none => exact absurd hown.2 (by omega)
  | some q =>
  obtain ⟨b, cs⟩ := q
  obtain ⟨cap, rfl, hcs, hcap⟩ := hown
  show G _ (fRp v6 l :: fRow cs (sgO l.length id) :: _) _ [(b, Ob cs 3)] _
  repeat (first | refine stp ?_ | (refine k_indexAddr ?_; first | (refine o_ixA _ rfl rfl rfl rfl rfl (h := ?_); intro _) | (refine o_ixB rfl rfl rfl rfl (h := ?_); intro _)) | (refine k_load ?_; refine o_loadF rfl rfl rfl rfl ?_) | (refine stb ?_; intro _))
  refine o_callV rfl rfl rfl rfl hpk rfl ?_
  repeat (first | refine stp ?_ | (refine k_indexAddr ?_; first | (refine o_ixA _ rfl rfl rfl rfl rfl (h := ?_); intro _) | (refine o_ixB rfl rfl rfl rfl (h := ?_); intro _)) | (refine k_load ?_; refine o_loadF rfl rfl rfl rfl ?_) | (refine stb ?_; intro _))
  refine o_idxO rfl rfl rfl rfl (by omega) (by omega) (o' := k) (by omega) ?_
  refine G.cons ?_
  refine o_storeO (α := Int) ((k : Int) + 1) k (by omega) rfl rfl rfl ⟨fun _ _ => Rp.flat.2 rfl⟩ (Nat.mul_one _).symm ?_
  intro cs1 hc1
  repeat (first | refine stp ?_ | (refine k_indexAddr ?_; first | (refine o_ixA _ rfl rfl rfl rfl rfl (h := ?_); intro _) | (refine o_ixB rfl rfl rfl rfl (h := ?_); intro _)) | (refine k_load ?_; refine o_loadF rfl rfl rfl rfl ?_) | (refine stb ?_; intro _))
  refine o_idxO rfl rfl rfl rfl (by omega) (by omega) (o' := k + 1) (by omega) ?_
  refine G.cons ?_
  refine o_storeO (α := Int) (k : Int) (k + 1) (by rw [List.length_set]; omega) rfl rfl rfl ⟨fun _ _ => Rp.flat.2 rfl⟩ (Nat.mul_one _).symm ?_
  intro cs2 hc2
  rw [show ((sgO l.length id).set k ((k : Int) + 1)).set (k + 1) (k : Int) = sgO l.length (swapS k) from sgO_set hk1]
  have hsw := sgO_length l.length (swapS k)
  have hown2 : IsOwn 1 (.slice (some ⟨b, 0, none⟩) (sgO l.length id).length cap) (sgO l.length (swapS k)).length (some (b, cs2)) := ⟨cap, by rw [hsl, hsw], by rw [hc2, hc1, hcs], by omega⟩
  have hcl := clG_eq hk0 hk1
  repeat (first | refine stp ?_ | (refine k_indexAddr ?_; first | (refine o_ixA _ rfl rfl rfl rfl rfl (h := ?_); intro _) | (refine o_ixB rfl rfl rfl rfl (h := ?_); intro _)) | (refine k_load ?_; refine o_loadF rfl rfl rfl rfl ?_) | (refine stb ?_; intro _))
  refine W.draw 18 [⟨?v0_1, fun _ z => []⟩, ⟨?v1_1, fun _ z => []⟩, ⟨?v2_1, fun _ z => []⟩, ⟨?v3_1, fun _ z => []⟩, ⟨?v4_1, fun _ z => []⟩, ⟨?v5_1, fun _ z => []⟩, ⟨?v6_1, fun _ z => []⟩, ⟨fun _ z => z, fun _ z => [fPt z l[k]]⟩, ⟨fun _ z => z, fun _ z => [fRp z l[k]]⟩, ⟨?v9_1, fun _ z => []⟩, ⟨?v10_1, fun _ z => []⟩, ⟨?v11_1, fun _ z => []⟩, ⟨fun _ z => z, fun _ z => [fPt z l[k + 1]]⟩, ⟨fun _ z => z, fun _ z => [fRp z l[k + 1]]⟩, ⟨?v14_1, fun _ z => []⟩, ⟨?v15_1, fun _ z => []⟩, ⟨?v16_1, fun _ z => []⟩, ⟨?v17_1, fun _ z => []⟩] [[], [0], [1], [1], [1, 2, 3], [1], [1], [1, 5, 6], [1, 7], [1], [1], [1, 10], [1, 9, 11], [1, 12], [1, 8, 13], [1, 14], [1, 4, 15], [1, 16]] [17] (by kernel_rfl) (by kernel_rfl) (by kernel_rfl) (by kernel_rfl) ?loc_1 ?ops_1 ?rest_1
  case ops_1 =>
    simp only [AllQ, Nat.reduceAdd, and_true]
    refine ⟨?_, ?_, ?_, ?_, ?_, ?_, ?_, ?_, ?_, ?_, ?_, ?_, ?_, ?_, ?_, ?_, ?_, ?_⟩
    · intro c z0 Φr Lr K hK; dsimp only [dstOf, kval, kfac, ancE,  ancF, getD_z, getD_s, List.getElem?_cons_zero, List.getElem?_cons_succ, List.getElem?_nil, Option.getD_some, Option.getD_none, List.nil_append, List.cons_append, Option.getD] at hK ⊢; refine stp ?_; exact hK z0
    · intro c z0 Φr Lr K hK; dsimp only [dstOf, kval, kfac, ancE,  ancF, getD_z, getD_s, List.getElem?_cons_zero, List.getElem?_cons_succ, List.getElem?_nil, Option.getD_some, Option.getD_none, List.nil_append, List.cons_append, Option.getD] at hK ⊢; refine stp ?_; exact hK z0
    · intro c z0 Φr Lr K hK; dsimp only [dstOf, kval, kfac, ancE,  ancF, getD_z, getD_s, List.getElem?_cons_zero, List.getElem?_cons_succ, List.getElem?_nil, Option.getD_some, Option.getD_none, List.nil_append, List.cons_append, Option.getD] at hK ⊢; refine stp ?_; exact hK z0
    · intro c z0 Φr Lr K hK; dsimp only [dstOf, kval, kfac, ancE,  ancF, getD_z, getD_s, List.getElem?_cons_zero, List.getElem?_cons_succ, List.getElem?_nil, Option.getD_some, Option.getD_none, List.nil_append, List.cons_append, Option.getD] at hK ⊢; refine stp ?_; exact hK z0
    · intro c z0 Φr Lr K hK; dsimp only [dstOf, kval, kfac, ancE,  ancF, getD_z, getD_s, List.getElem?_cons_zero, List.getElem?_cons_succ, List.getElem?_nil, Option.getD_some, Option.getD_none, List.nil_append, List.cons_append, Option.getD] at hK ⊢; refine o_lendV rfl rfl rfl rfl (orders_spec v6 _ l (sgO l.length (swapS k)) hlx hfit (by omega)) (congrArg Value.bool (ordG_swap hm hk1)) (LEnts.cons (a := LEnt.of) (b := LEnts.cons (a := LEnt.own (some (b, cs2)) _ hown2 ⟨fun I hp => Ent'.h (φ := fRow cs2 (sgO l.length (swapS k))) I hp⟩ (fun p hp => hp)) (b := LEnts.nil))) ?_; exact hK z0
    · intro c z0 Φr Lr K hK; dsimp only [dstOf, kval, kfac, ancE,  ancF, getD_z, getD_s, List.getElem?_cons_zero, List.getElem?_cons_succ, List.getElem?_nil, Option.getD_some, Option.getD_none, List.nil_append, List.cons_append, Option.getD] at hK ⊢; refine stp ?_; exact hK z0
    · intro c z0 Φr Lr K hK; dsimp only [dstOf, kval, kfac, ancE,  ancF, getD_z, getD_s, List.getElem?_cons_zero, List.getElem?_cons_succ, List.getElem?_nil, Option.getD_some, Option.getD_none, List.nil_append, List.cons_append, Option.getD] at hK ⊢; refine stp ?_; exact hK z0
    · intro c z0 Φr Lr K hK; dsimp only [dstOf, kval, kfac, ancE,  ancF, getD_z, getD_s, List.getElem?_cons_zero, List.getElem?_cons_succ, List.getElem?_nil, Option.getD_some, Option.getD_none, List.nil_append, List.cons_append, Option.getD] at hK ⊢; refine o_idxN k rfl rfl rfl rfl rfl hk0 ?_; intro p; exact hK _
    · intro c z0 Φr Lr K hK; dsimp only [dstOf, kval, kfac, ancE,  ancF, getD_z, getD_s, List.getElem?_cons_zero, List.getElem?_cons_succ, List.getElem?_nil, Option.getD_some, Option.getD_none, List.nil_append, List.cons_append, Option.getD] at hK ⊢; refine o_loadR rfl rfl rfl rfl ?_; intro p; exact hK _
    · intro c z0 Φr Lr K hK; dsimp only [dstOf, kval, kfac, ancE,  ancF, getD_z, getD_s, List.getElem?_cons_zero, List.getElem?_cons_succ, List.getElem?_nil, Option.getD_some, Option.getD_none, List.nil_append, List.cons_append, Option.getD] at hK ⊢; refine stp ?_; exact hK z0
    · intro c z0 Φr Lr K hK; dsimp only [dstOf, kval, kfac, ancE,  ancF, getD_z, getD_s, List.getElem?_cons_zero, List.getElem?_cons_succ, List.getElem?_nil, Option.getD_some, Option.getD_none, List.nil_append, List.cons_append, Option.getD] at hK ⊢; refine stp ?_; exact hK z0
    · intro c z0 Φr Lr K hK; dsimp only [dstOf, kval, kfac, ancE,  ancF, getD_z, getD_s, List.getElem?_cons_zero, List.getElem?_cons_succ, List.getElem?_nil, Option.getD_some, Option.getD_none, List.nil_append, List.cons_append, Option.getD] at hK ⊢; refine stp ?_; exact hK z0
    · intro c z0 Φr Lr K hK; dsimp only [dstOf, kval, kfac, ancE,  ancF, getD_z, getD_s, List.getElem?_cons_zero, List.getElem?_cons_succ, List.getElem?_nil, Option.getD_some, Option.getD_none, List.nil_append, List.cons_append, Option.getD] at hK ⊢; refine o_idxN (k + 1) rfl rfl rfl rfl rfl hk1 ?_; intro p; exact hK _
    · intro c z0 Φr Lr K hK; dsimp only [dstOf, kval, kfac, ancE,  ancF, getD_z, getD_s, List.getElem?_cons_zero, List.getElem?_cons_succ, List.getElem?_nil, Option.getD_some, Option.getD_none, List.nil_append, List.cons_append, Option.getD] at hK ⊢; refine o_loadR rfl rfl rfl rfl ?_; intro p; exact hK _
    · intro c z0 Φr Lr K hK; dsimp only [dstOf, kval, kfac, ancE,  ancF, getD_z, getD_s, List.getElem?_cons_zero, List.getElem?_cons_succ, List.getElem?_nil, Option.getD_some, Option.getD_none, List.nil_append, List.cons_append, Option.getD] at hK ⊢; refine o_callV rfl rfl rfl rfl (clashS_spec _ _ l[k] l[k + 1] (hfit _ (List.getElem_mem hk0)) (hfit _ (List.getElem_mem hk1))) (congrArg Value.bool hcl.symm) ?_; exact hK z0
    · intro c z0 Φr Lr K hK; dsimp only [dstOf, kval, kfac, ancE,  ancF, getD_z, getD_s, List.getElem?_cons_zero, List.getElem?_cons_succ, List.getElem?_nil, Option.getD_some, Option.getD_none, List.nil_append, List.cons_append, Option.getD] at hK ⊢; refine stp ?_; exact hK z0
    · intro c z0 Φr Lr K hK; dsimp only [dstOf, kval, kfac, ancE,  ancF, getD_z, getD_s, List.getElem?_cons_zero, List.getElem?_cons_succ, List.getElem?_nil, Option.getD_some, Option.getD_none, List.nil_append, List.cons_append, Option.getD] at hK ⊢; refine o_eql rfl rfl rfl rfl (r := true) (by simp) ?_; exact hK z0
    · intro c z0 Φr Lr K hK; dsimp only [dstOf, kval, kfac, ancE,  ancF, getD_z, getD_s, List.getElem?_cons_zero, List.getElem?_cons_succ, List.getElem?_nil, Option.getD_some, Option.getD_none, List.nil_append, List.cons_append, Option.getD] at hK ⊢; refine stp ?_; exact hK z0
  case loc_1 =>
    simp only [AllL, Nat.reduceAdd, and_true]
    refine ⟨?_, ?_, ?_, ?_, ?_, ?_, ?_, ?_, ?_, ?_, ?_, ?_, ?_, ?_, ?_, ?_, ?_, ?_⟩
    all_goals (intro c c' z h; first | exact ⟨rfl, rfl⟩ | (skip))
  intro c
  dsimp only [dstOf, kval, kfac, ancE,  ancF, getD_z, getD_s, List.getElem?_cons_zero, List.getElem?_cons_succ, List.getElem?_nil, Option.getD_some, Option.getD_none, List.nil_append, List.cons_append, List.drop_succ_cons, List.drop_zero, Option.getD]
  repeat (first | refine stp ?_ | (refine k_indexAddr ?_; first | (refine o_ixA _ rfl rfl rfl rfl rfl (h := ?_); intro _) | (refine o_ixB rfl rfl rfl rfl (h := ?_); intro _)) | (refine k_load ?_; refine o_loadF rfl rfl rfl rfl ?_) | (refine stb ?_; intro _))
  refine G.ret rfl (.cons (.tmp rfl) .nil) (Φ' := []) (M' := []) inferInstance (List.nil_sublist _) ⟨?_, rfl, rfl⟩
  rfl
end Go.Rail
