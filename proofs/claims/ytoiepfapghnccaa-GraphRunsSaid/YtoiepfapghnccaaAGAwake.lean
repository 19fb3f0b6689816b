/- The first calls of layer 19. -/
import Derived.Test.YtoiepfapghnccaaAGReady
import Derived.Test.YtoiepfapghnccaaAGOrders
import Derived.Test.YtoiepfapghnccaaAAwake
import Derived.Test.YtoiepfapghnccaaRailD
namespace Go.Rail
open Go Go.Proofs
set_option linter.unusedSimpArgs false
set_option linter.unusedVariables false
set_option maxHeartbeats 400000
set_option maxRecDepth 4000
attribute [local irreducible] OpK G W LW wpListIn Exit.then Exit.inBlock Post rounds opRun bodyPostM intOp

attribute [local irreducible] lexN cmpW cmpA cmpK cmpI makeS setK joinS clashS mayS rightS errG edgesR levelsR errR readyR ordG
theorem cells_m : (mK.cells : List Value) = [.int .u8 2, .int .u8 0, .int .u8 0, .int .u8 0, .int .u8 0, .int .u8 0, .int .u8 0, .int .u8 0, .int .u8 0, .int .u8 0, .int .u8 0, .int .u8 0, .int .u8 0, .int .u8 0, .int .u8 0, .int .u8 0, .int .u8 0, .int .u8 0, .int .u8 0, .int .u8 0, .bool false, .int .u64 0, .int .u64 0, .int .u64 0, .int .u64 0] := by with_unfolding_all rfl
theorem gL_fit : ∀ s ∈ gL, fit6 s := by
  intro s hs
  simp only [gL, List.mem_cons, List.not_mem_nil, or_false] at hs
  rcases hs with rfl | rfl | rfl <;> exact ⟨by decide, by decide⟩
theorem gawake_spec : FnV Try.prog 33 [] [] (.bool true) := by
  refine Fn.enter Try.func33 rfl Try.ntmps33 (by simp) (fun I0 w0 => ?_)
  repeat (first | refine stp ?_ | (refine k_indexAddr ?_; first | (refine o_ixA _ rfl rfl rfl rfl rfl (h := ?_); intro _) | (refine o_ixB rfl rfl rfl rfl (h := ?_); intro _)) | (refine k_load ?_; refine o_loadF rfl rfl rfl rfl ?_) | (refine stb ?_; intro _))
  show OpK _ _ _ _ _ ((15, lK.v) :: _) _ _
  refine o_lit (xs := [lK]) ⟨by decide, rfl, by decide⟩ rfl rfl rfl ⟨litK, trivial⟩ rfl ?_
  intro lv1
  refine G.slice lv1 [lK] ?_
  intro a1 c1 x1 _
  subst x1
  repeat (first | refine stp ?_ | (refine k_indexAddr ?_; first | (refine o_ixA _ rfl rfl rfl rfl rfl (h := ?_); intro _) | (refine o_ixB rfl rfl rfl rfl (h := ?_); intro _)) | (refine k_load ?_; refine o_loadF rfl rfl rfl rfl ?_) | (refine stb ?_; intro _))
  show OpK _ _ _ _ _ ((19, mK.v) :: _) _ _
  refine o_lit (xs := [mK]) ⟨by decide, rfl, by decide⟩ rfl rfl rfl ⟨litK, trivial⟩ rfl ?_
  intro lv2
  refine G.slice lv2 [mK] ?_
  intro a2 c2 x2 _
  subst x2
  repeat (first | refine stp ?_ | (refine k_indexAddr ?_; first | (refine o_ixA _ rfl rfl rfl rfl rfl (h := ?_); intro _) | (refine o_ixB rfl rfl rfl rfl (h := ?_); intro _)) | (refine k_load ?_; refine o_loadF rfl rfl rfl rfl ?_) | (refine stb ?_; intro _))
  refine o_lit (xs := gL) ⟨by decide, rfl, by decide⟩ rfl rfl rfl ⟨fun I hp => Rp.mkSets (s := gA) (Rp.nil none 0) (Ent'.h (φ := fRp (.slice a1 [lK].length c1) [lK]) I hp), fun I hp => Rp.mkSets (s := gA) (Rp.nil none 0) (Ent'.h (φ := fRp (.slice a1 [lK].length c1) [lK]) I hp), fun I hp => Rp.mkSets (s := gB) (Rp.nil none 0) (Ent'.h (φ := fRp (.slice a2 [mK].length c2) [mK]) I hp), trivial⟩ rfl ?_
  intro v3
  repeat (first | refine stp ?_ | (refine k_indexAddr ?_; first | (refine o_ixA _ rfl rfl rfl rfl rfl (h := ?_); intro _) | (refine o_ixB rfl rfl rfl rfl (h := ?_); intro _)) | (refine k_load ?_; refine o_loadF rfl rfl rfl rfl ?_) | (refine stb ?_; intro _))
  have se := (edges_spec v3 gL (by decide) gL_fit).givenT
  rw [ga3, ga4] at se
  refine o_callT (mk := tupE 0) (ψ := fun sv => fRp sv [((0 : Int), (1 : Int))]) rfl rfl rfl rfl se ?_
  intro v4
  unfold tupE
  repeat (first | refine stp ?_ | (refine k_indexAddr ?_; first | (refine o_ixA _ rfl rfl rfl rfl rfl (h := ?_); intro _) | (refine o_ixB rfl rfl rfl rfl (h := ?_); intro _)) | (refine k_load ?_; refine o_loadF rfl rfl rfl rfl ?_) | (refine stb ?_; intro _))
  have sl := (levels_spec v3 gL (by decide) gL_fit).givenT
  rw [ga3, ga5] at sl
  refine o_callT (mk := tupE 0) (ψ := fun sv => fRp sv [(0 : Int), 1, 0]) rfl rfl rfl rfl sl ?_
  intro v6
  unfold tupE
  repeat (first | refine stp ?_ | (refine k_indexAddr ?_; first | (refine o_ixA _ rfl rfl rfl rfl rfl (h := ?_); intro _) | (refine o_ixB rfl rfl rfl rfl (h := ?_); intro _)) | (refine k_load ?_; refine o_loadF rfl rfl rfl rfl ?_) | (refine stb ?_; intro _))
  have sr : ∀ c : Nat → Value, Fn Try.prog 43 [v3, c 1, c 2] [fRp v3 gL, fRp (c 1) [false, false, false], fRp (c 2) [false, false, false]] [] (fun u Φ' M' => ∃ sv, u = tupE 0 sv ∧ Φ' = [fRp sv [(0 : Int), 2]] ∧ M' = []) := fun c => by
    have sr := (ready_spec v3 (c 1) (c 2) gL [false, false, false] [false, false, false] (by decide) gL_fit (by decide) (by decide)).givenT
    rw [ga6, ga7] at sr
    exact sr
  refine W.draw 8 [⟨?v0_1, fun _ z => []⟩, ⟨fun _ z => z, fun _ z => [fRp z [false, false, false]]⟩, ⟨fun _ z => z, fun _ z => [fRp z [false, false, false]]⟩, ⟨fun _ z => .tuple #[z, .int .i64 0], fun _ z => [fRp z [(0 : Int), 2]]⟩, ⟨?v4_1, fun _ z => []⟩, ⟨?v5_1, fun _ z => []⟩, ⟨?v6_1, fun _ z => []⟩, ⟨?v7_1, fun _ z => []⟩] [[], [], [], [0, 1, 2], [3], [3, 4], [4], [3, 4, 5]] [3, 6, 7] (by kernel_rfl) (by kernel_rfl) (by kernel_rfl) (by kernel_rfl) ?loc_1 ?ops_1 ?rest_1
  case ops_1 =>
    simp only [AllQ, Nat.reduceAdd, and_true]
    refine ⟨?_, ?_, ?_, ?_, ?_, ?_, ?_, ?_⟩
    · intro c z0 Φr Lr K hK; dsimp only [dstOf, kval, kfac, ancE,  ancF, getD_z, getD_s, List.getElem?_cons_zero, List.getElem?_cons_succ, List.getElem?_nil, Option.getD_some, Option.getD_none, List.nil_append, List.cons_append, Option.getD] at hK ⊢; refine stp ?_; exact hK z0
    · intro c z0 Φr Lr K hK; dsimp only [dstOf, kval, kfac, ancE,  ancF, getD_z, getD_s, List.getElem?_cons_zero, List.getElem?_cons_succ, List.getElem?_nil, Option.getD_some, Option.getD_none, List.nil_append, List.cons_append, Option.getD] at hK ⊢; refine o_makeG 3 false rfl rfl rfl rfl rfl rfl ⟨by decide, by decide, by decide⟩ rfl (fun _ => rfl) ?_; intro z; exact hK _
    · intro c z0 Φr Lr K hK; dsimp only [dstOf, kval, kfac, ancE,  ancF, getD_z, getD_s, List.getElem?_cons_zero, List.getElem?_cons_succ, List.getElem?_nil, Option.getD_some, Option.getD_none, List.nil_append, List.cons_append, Option.getD] at hK ⊢; refine o_makeG 3 false rfl rfl rfl rfl rfl rfl ⟨by decide, by decide, by decide⟩ rfl (fun _ => rfl) ?_; intro z; exact hK _
    · intro c z0 Φr Lr K hK; dsimp only [dstOf, kval, kfac, ancE,  ancF, getD_z, getD_s, List.getElem?_cons_zero, List.getElem?_cons_succ, List.getElem?_nil, Option.getD_some, Option.getD_none, List.nil_append, List.cons_append, Option.getD] at hK ⊢; refine o_callT (mk := tupE 0) (ψ := fun sv => fRp sv [(0 : Int), 2]) rfl rfl rfl rfl (sr c) ?_; intro z; exact hK _
    · intro c z0 Φr Lr K hK; dsimp only [dstOf, kval, kfac, ancE,  ancF, getD_z, getD_s, List.getElem?_cons_zero, List.getElem?_cons_succ, List.getElem?_nil, Option.getD_some, Option.getD_none, List.nil_append, List.cons_append, Option.getD] at hK ⊢; refine stp ?_; exact hK z0
    · intro c z0 Φr Lr K hK; dsimp only [dstOf, kval, kfac, ancE,  ancF, getD_z, getD_s, List.getElem?_cons_zero, List.getElem?_cons_succ, List.getElem?_nil, Option.getD_some, Option.getD_none, List.nil_append, List.cons_append, Option.getD] at hK ⊢; refine stp ?_; exact hK z0
    · intro c z0 Φr Lr K hK; dsimp only [dstOf, kval, kfac, ancE,  ancF, getD_z, getD_s, List.getElem?_cons_zero, List.getElem?_cons_succ, List.getElem?_nil, Option.getD_some, Option.getD_none, List.nil_append, List.cons_append, Option.getD] at hK ⊢; refine stp ?_; exact hK z0
    · intro c z0 Φr Lr K hK; dsimp only [dstOf, kval, kfac, ancE,  ancF, getD_z, getD_s, List.getElem?_cons_zero, List.getElem?_cons_succ, List.getElem?_nil, Option.getD_some, Option.getD_none, List.nil_append, List.cons_append, Option.getD] at hK ⊢; refine stp ?_; exact hK z0
  case loc_1 =>
    simp only [AllL, Nat.reduceAdd, and_true]
    refine ⟨?_, ?_, ?_, ?_, ?_, ?_, ?_, ?_⟩
    · exact fun _ _ _ _ => ⟨rfl, rfl⟩
    · exact fun _ _ _ _ => ⟨rfl, rfl⟩
    · exact fun _ _ _ _ => ⟨rfl, rfl⟩
    · exact fun _ _ _ _ => ⟨rfl, rfl⟩
    · intro c c' z h; simp only [getD_s, getD_z, h 3 (by kernel_rfl), and_self]
    · intro c c' z h; simp only [getD_s, getD_z, h 3 (by kernel_rfl), and_self]
    · exact fun _ _ _ _ => ⟨rfl, rfl⟩
    · intro c c' z h; simp only [getD_s, getD_z, h 3 (by kernel_rfl), and_self]
  intro c
  dsimp only [dstOf, kval, kfac, ancE,  ancF, getD_z, getD_s, List.getElem?_cons_zero, List.getElem?_cons_succ, List.getElem?_nil, Option.getD_some, Option.getD_none, List.nil_append, List.cons_append, List.drop_succ_cons, List.drop_zero, Option.getD]
  generalize c 3 = v8
  repeat (first | refine stp ?_ | (refine k_indexAddr ?_; first | (refine o_ixA _ rfl rfl rfl rfl rfl (h := ?_); intro _) | (refine o_ixB rfl rfl rfl rfl (h := ?_); intro _)) | (refine k_load ?_; refine o_loadF rfl rfl rfl rfl ?_) | (refine stb ?_; intro _))
  refine o_makeG 3 false rfl rfl rfl rfl rfl rfl ⟨by decide, by decide, by decide⟩ rfl (fun _ => rfl) ?_
  intro v45
  rw [show List.replicate 3 false = [false, false, false] from rfl]
  repeat (first | refine stp ?_ | (refine k_indexAddr ?_; first | (refine o_ixA _ rfl rfl rfl rfl rfl (h := ?_); intro _) | (refine o_ixB rfl rfl rfl rfl (h := ?_); intro _)) | (refine k_load ?_; refine o_loadF rfl rfl rfl rfl ?_) | (refine stb ?_; intro _))
  refine o_lit (xs := [true, false, false]) ⟨by decide, rfl, by decide⟩ rfl rfl rfl ⟨fun _ _ => Rp.flat.2 rfl, fun _ _ => Rp.flat.2 rfl, fun _ _ => Rp.flat.2 rfl, trivial⟩ rfl ?_
  intro v46
  repeat (first | refine stp ?_ | (refine k_indexAddr ?_; first | (refine o_ixA _ rfl rfl rfl rfl rfl (h := ?_); intro _) | (refine o_ixB rfl rfl rfl rfl (h := ?_); intro _)) | (refine k_load ?_; refine o_loadF rfl rfl rfl rfl ?_) | (refine stb ?_; intro _))
  have sq := (ready_spec v3 v45 v46 gL [false, false, false] [true, false, false] (by decide) gL_fit (by decide) (by decide)).givenT
  rw [ga8] at sq
  refine o_callT (mk := tupE 1) (ψ := fun sv => fRp sv (readyR gL [false, false, false] [true, false, false])) rfl rfl rfl rfl sq ?_
  intro v10
  unfold tupE
  repeat (first | refine stp ?_ | (refine k_indexAddr ?_; first | (refine o_ixA _ rfl rfl rfl rfl rfl (h := ?_); intro _) | (refine o_ixB rfl rfl rfl rfl (h := ?_); intro _)) | (refine k_load ?_; refine o_loadF rfl rfl rfl rfl ?_) | (refine stb ?_; intro _))
  refine o_makeG 65 (⟨[], []⟩ : Sets) rfl rfl rfl rfl rfl rfl ⟨by decide, by decide, by decide⟩ rfl ?_ ?_
  · exact fun I => ⟨_, _, rfl, Rp.nil none 0, Rp.nil none 0⟩
  intro v51
  repeat (first | refine stp ?_ | (refine k_indexAddr ?_; first | (refine o_ixA _ rfl rfl rfl rfl rfl (h := ?_); intro _) | (refine o_ixB rfl rfl rfl rfl (h := ?_); intro _)) | (refine k_load ?_; refine o_loadF rfl rfl rfl rfl ?_) | (refine stb ?_; intro _))
  have s5 := (edges_spec v51 (List.replicate 65 ⟨[], []⟩) (by rw [List.length_replicate]; decide) (fun s hs => by rw [List.eq_of_mem_replicate hs]; exact ⟨by decide, by decide⟩)).givenT
  rw [ga12] at s5
  refine o_callT (mk := tupE 1) (ψ := fun sv => fRp sv (edgesR (List.replicate 65 ⟨[], []⟩))) rfl rfl rfl rfl s5 ?_
  intro v12
  unfold tupE
  repeat (first | refine stp ?_ | (refine k_indexAddr ?_; first | (refine o_ixA _ rfl rfl rfl rfl rfl (h := ?_); intro _) | (refine o_ixB rfl rfl rfl rfl (h := ?_); intro _)) | (refine k_load ?_; refine o_loadF rfl rfl rfl rfl ?_) | (refine stb ?_; intro _))
  refine o_lit (xs := [((0 : Int), (1 : Int))]) ⟨by decide, rfl, by decide⟩ rfl rfl rfl ⟨fun _ _ => Rp.flat.2 rfl, trivial⟩ rfl ?_
  intro v60
  repeat (first | refine stp ?_ | (refine k_indexAddr ?_; first | (refine o_ixA _ rfl rfl rfl rfl rfl (h := ?_); intro _) | (refine o_ixB rfl rfl rfl rfl (h := ?_); intro _)) | (refine k_load ?_; refine o_loadF rfl rfl rfl rfl ?_) | (refine stb ?_; intro _))
  refine o_callV rfl rfl rfl rfl (pairsEq_spec v4 v60 [((0 : Int), (1 : Int))] [((0 : Int), (1 : Int))] (by decide) (by decide)) (v' := .bool true) rfl ?_
  repeat (first | refine stp ?_ | (refine k_indexAddr ?_; first | (refine o_ixA _ rfl rfl rfl rfl rfl (h := ?_); intro _) | (refine o_ixB rfl rfl rfl rfl (h := ?_); intro _)) | (refine k_load ?_; refine o_loadF rfl rfl rfl rfl ?_) | (refine stb ?_; intro _))
  refine o_lit (xs := [(0 : Int), 1, 0]) ⟨by decide, rfl, by decide⟩ rfl rfl rfl ⟨fun _ _ => Rp.flat.2 rfl, fun _ _ => Rp.flat.2 rfl, fun _ _ => Rp.flat.2 rfl, trivial⟩ rfl ?_
  intro v69
  repeat (first | refine stp ?_ | (refine k_indexAddr ?_; first | (refine o_ixA _ rfl rfl rfl rfl rfl (h := ?_); intro _) | (refine o_ixB rfl rfl rfl rfl (h := ?_); intro _)) | (refine k_load ?_; refine o_loadF rfl rfl rfl rfl ?_) | (refine stb ?_; intro _))
  refine o_callV rfl rfl rfl rfl (intsEq_spec v6 v69 [(0 : Int), 1, 0] [(0 : Int), 1, 0] (by decide) (by decide)) (v' := .bool true) rfl ?_
  repeat (first | refine stp ?_ | (refine k_indexAddr ?_; first | (refine o_ixA _ rfl rfl rfl rfl rfl (h := ?_); intro _) | (refine o_ixB rfl rfl rfl rfl (h := ?_); intro _)) | (refine k_load ?_; refine o_loadF rfl rfl rfl rfl ?_) | (refine stb ?_; intro _))
  refine o_lit (xs := [(0 : Int), 2]) ⟨by decide, rfl, by decide⟩ rfl rfl rfl ⟨fun _ _ => Rp.flat.2 rfl, fun _ _ => Rp.flat.2 rfl, trivial⟩ rfl ?_
  intro v78
  repeat (first | refine stp ?_ | (refine k_indexAddr ?_; first | (refine o_ixA _ rfl rfl rfl rfl rfl (h := ?_); intro _) | (refine o_ixB rfl rfl rfl rfl (h := ?_); intro _)) | (refine k_load ?_; refine o_loadF rfl rfl rfl rfl ?_) | (refine stb ?_; intro _))
  refine o_callV rfl rfl rfl rfl (intsEq_spec v8 v78 [(0 : Int), 2] [(0 : Int), 2] (by decide) (by decide)) (v' := .bool true) rfl ?_
  repeat (first | refine stp ?_ | (refine k_indexAddr ?_; first | (refine o_ixA _ rfl rfl rfl rfl rfl (h := ?_); intro _) | (refine o_ixB rfl rfl rfl rfl (h := ?_); intro _)) | (refine k_load ?_; refine o_loadF rfl rfl rfl rfl ?_) | (refine stb ?_; intro _))
  refine o_lit (xs := [(2 : Int), 0, 1]) ⟨by decide, rfl, by decide⟩ rfl rfl rfl ⟨fun _ _ => Rp.flat.2 rfl, fun _ _ => Rp.flat.2 rfl, fun _ _ => Rp.flat.2 rfl, trivial⟩ rfl ?_
  intro v91
  repeat (first | refine stp ?_ | (refine k_indexAddr ?_; first | (refine o_ixA _ rfl rfl rfl rfl rfl (h := ?_); intro _) | (refine o_ixB rfl rfl rfl rfl (h := ?_); intro _)) | (refine k_load ?_; refine o_loadF rfl rfl rfl rfl ?_) | (refine stb ?_; intro _))
  refine o_callV rfl rfl rfl rfl (orders_spec v3 v91 gL [2, 0, 1] (by decide) gL_fit (by decide)) (congrArg Value.bool ga9) ?_
  repeat (first | refine stp ?_ | (refine k_indexAddr ?_; first | (refine o_ixA _ rfl rfl rfl rfl rfl (h := ?_); intro _) | (refine o_ixB rfl rfl rfl rfl (h := ?_); intro _)) | (refine k_load ?_; refine o_loadF rfl rfl rfl rfl ?_) | (refine stb ?_; intro _))
  refine o_lit (xs := [(1 : Int), 0, 2]) ⟨by decide, rfl, by decide⟩ rfl rfl rfl ⟨fun _ _ => Rp.flat.2 rfl, fun _ _ => Rp.flat.2 rfl, fun _ _ => Rp.flat.2 rfl, trivial⟩ rfl ?_
  intro v96
  repeat (first | refine stp ?_ | (refine k_indexAddr ?_; first | (refine o_ixA _ rfl rfl rfl rfl rfl (h := ?_); intro _) | (refine o_ixB rfl rfl rfl rfl (h := ?_); intro _)) | (refine k_load ?_; refine o_loadF rfl rfl rfl rfl ?_) | (refine stb ?_; intro _))
  refine o_callV rfl rfl rfl rfl (orders_spec v3 v96 gL [1, 0, 2] (by decide) gL_fit (by decide)) (congrArg Value.bool ga10) ?_
  repeat (first | refine stp ?_ | (refine k_indexAddr ?_; first | (refine o_ixA _ rfl rfl rfl rfl rfl (h := ?_); intro _) | (refine o_ixB rfl rfl rfl rfl (h := ?_); intro _)) | (refine k_load ?_; refine o_loadF rfl rfl rfl rfl ?_) | (refine stb ?_; intro _))
  refine o_lit (xs := [(0 : Int), 1]) ⟨by decide, rfl, by decide⟩ rfl rfl rfl ⟨fun _ _ => Rp.flat.2 rfl, fun _ _ => Rp.flat.2 rfl, trivial⟩ rfl ?_
  intro v102
  repeat (first | refine stp ?_ | (refine k_indexAddr ?_; first | (refine o_ixA _ rfl rfl rfl rfl rfl (h := ?_); intro _) | (refine o_ixB rfl rfl rfl rfl (h := ?_); intro _)) | (refine k_load ?_; refine o_loadF rfl rfl rfl rfl ?_) | (refine stb ?_; intro _))
  refine o_callV rfl rfl rfl rfl (orders_spec v3 v102 gL [0, 1] (by decide) gL_fit (by decide)) (congrArg Value.bool ga11) ?_
  repeat (first | refine stp ?_ | (refine k_indexAddr ?_; first | (refine o_ixA _ rfl rfl rfl rfl rfl (h := ?_); intro _) | (refine o_ixB rfl rfl rfl rfl (h := ?_); intro _)) | (refine k_load ?_; refine o_loadF rfl rfl rfl rfl ?_) | (refine stb ?_; intro _))
  refine G.ret rfl (.cons (.tmp rfl) .nil) (Φ' := []) (M' := []) inferInstance (List.nil_sublist _) ⟨?_, rfl, rfl⟩
  rfl
end Go.Rail
