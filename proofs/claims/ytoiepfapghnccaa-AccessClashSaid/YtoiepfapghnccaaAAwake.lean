/- The first calls of layer 10. -/
import Derived.Test.YtoiepfapghnccaaAClash
import Derived.Test.YtoiepfapghnccaaRailD
namespace Go.Rail
open Go Go.Proofs
set_option linter.unusedSimpArgs false
set_option linter.unusedVariables false
set_option maxHeartbeats 400000
set_option maxRecDepth 4000
attribute [local irreducible] OpK G W LW wpListIn Exit.then Exit.inBlock Post rounds opRun bodyPostM intOp

attribute [local irreducible] lexN cmpW cmpA cmpK cmpI makeS setK joinS clashS mayS rightS

theorem litK {Φ : List Fa} {k : Key} : ∀ I, (∀ ψ ∈ Φ, ψ.p I) → Rp I k.v k := fun _ _ => ⟨_, rfl, rfl⟩
theorem cells_k : (kK.cells : List Value) = [.int .u8 1, .int .u8 0, .int .u8 0, .int .u8 0, .int .u8 0, .int .u8 0, .int .u8 0, .int .u8 0, .int .u8 0, .int .u8 0, .int .u8 0, .int .u8 0, .int .u8 0, .int .u8 0, .int .u8 0, .int .u8 0, .int .u8 0, .int .u8 0, .int .u8 0, .int .u8 0, .bool true, .int .u64 0, .int .u64 0, .int .u64 0, .int .u64 0] := by with_unfolding_all rfl
theorem cells_l : (lK.cells : List Value) = [.int .u8 1, .int .u8 0, .int .u8 0, .int .u8 0, .int .u8 0, .int .u8 0, .int .u8 0, .int .u8 0, .int .u8 0, .int .u8 0, .int .u8 0, .int .u8 0, .int .u8 0, .int .u8 0, .int .u8 0, .int .u8 0, .int .u8 0, .int .u8 0, .int .u8 0, .int .u8 0, .bool false, .int .u64 0, .int .u64 0, .int .u64 0, .int .u64 0] := by with_unfolding_all rfl
theorem awake_spec : FnV Try.prog 14 [] [] (.bool true) := by
  refine Fn.enter Try.func14 rfl Try.ntmps14 (by simp) (fun I0 w0 => ?_)
  repeat (first | refine stp ?_ | (refine k_indexAddr ?_; first | (refine o_ixA _ rfl rfl rfl rfl rfl (h := ?_); intro _) | (refine o_ixB rfl rfl rfl rfl (h := ?_); intro _)) | (refine k_load ?_; refine o_loadF rfl rfl rfl rfl ?_) | (refine stb ?_; intro _))
  rename_i b1 b2
  show OpK _ _ _ _ _ ((18, kK.v) :: (17, lK.v) :: (16, kK.v) :: _) [(b2, Ob lK.cells 31), (b1, Ob kK.cells 31)] _
  refine o_lit (xs := [kK, lK, kK]) ⟨by decide, rfl, by decide⟩ rfl rfl rfl ⟨litK, litK, litK, trivial⟩ rfl ?_
  intro lv
  repeat (first | refine stp ?_ | (refine k_indexAddr ?_; first | (refine o_ixA _ rfl rfl rfl rfl rfl (h := ?_); intro _) | (refine o_ixB rfl rfl rfl rfl (h := ?_); intro _)) | (refine k_load ?_; refine o_loadF rfl rfl rfl rfl ?_) | (refine stb ?_; intro _))
  have s1 := amake_spec (.slice none 0 0) lv [] [kK, lK, kK] (by simp) (by simp)
  rw [aw1] at s1
  refine o_callT rfl rfl rfl rfl s1 ?_
  intro sa
  refine G.sets sa ⟨[], [lK, kK]⟩ ?_
  intro ra wa ha
  refine G.slice ra ([] : List Key) ?_
  intro a1 c1 hr1 _
  refine G.slice wa [lK, kK] ?_
  intro a2 c2 hw1 _
  subst hr1 hw1
  subst ha
  repeat (first | refine stp ?_ | (refine k_indexAddr ?_; first | (refine o_ixA _ rfl rfl rfl rfl rfl (h := ?_); intro _) | (refine o_ixB rfl rfl rfl rfl (h := ?_); intro _)) | (refine k_load ?_; refine o_loadF rfl rfl rfl rfl ?_) | (refine stb ?_; intro _))
  rename_i b3
  show OpK _ _ _ _ _ ((24, kK.v) :: _) _ _
  refine o_lit (xs := [kK]) ⟨by decide, rfl, by decide⟩ rfl rfl rfl ⟨litK, trivial⟩ rfl ?_
  intro lv2
  repeat (first | refine stp ?_ | (refine k_indexAddr ?_; first | (refine o_ixA _ rfl rfl rfl rfl rfl (h := ?_); intro _) | (refine o_ixB rfl rfl rfl rfl (h := ?_); intro _)) | (refine k_load ?_; refine o_loadF rfl rfl rfl rfl ?_) | (refine stb ?_; intro _))
  have s2 := amake_spec lv2 (.slice none 0 0) [kK] [] (by simp) (by simp)
  rw [aw2] at s2
  refine o_callT rfl rfl rfl rfl s2 ?_
  intro sb
  refine G.sets sb (⟨[kK], []⟩ : Sets) ?_
  intro rb wb hb
  refine G.slice rb [kK] ?_
  intro a3 c3 hr2 _
  refine G.slice wb ([] : List Key) ?_
  intro a4 c4 hw2 _
  subst hr2 hw2
  subst hb
  repeat (first | refine stp ?_ | (refine k_indexAddr ?_; first | (refine o_ixA _ rfl rfl rfl rfl rfl (h := ?_); intro _) | (refine o_ixB rfl rfl rfl rfl (h := ?_); intro _)) | (refine k_load ?_; refine o_loadF rfl rfl rfl rfl ?_) | (refine stb ?_; intro _))
  refine o_callV rfl rfl rfl rfl (of_spec 1) rfl ?_
  repeat (first | refine stp ?_ | (refine k_indexAddr ?_; first | (refine o_ixA _ rfl rfl rfl rfl rfl (h := ?_); intro _) | (refine o_ixB rfl rfl rfl rfl (h := ?_); intro _)) | (refine k_load ?_; refine o_loadF rfl rfl rfl rfl ?_) | (refine stb ?_; intro _))
  rename_i b4
  show OpK _ _ _ _ _ ((31, oK.v) :: _) _ _
  refine o_lit (xs := [oK]) ⟨by decide, rfl, by decide⟩ rfl rfl rfl ⟨litK, trivial⟩ rfl ?_
  intro lv3
  repeat (first | refine stp ?_ | (refine k_indexAddr ?_; first | (refine o_ixA _ rfl rfl rfl rfl rfl (h := ?_); intro _) | (refine o_ixB rfl rfl rfl rfl (h := ?_); intro _)) | (refine k_load ?_; refine o_loadF rfl rfl rfl rfl ?_) | (refine stb ?_; intro _))
  have s3 := amake_spec (.slice none 0 0) lv3 [] [oK] (by simp) (by simp)
  rw [aw3] at s3
  change Fn _ _ _ _ _ (RSets ((⟨[], []⟩ : Sets), 1)) at s3
  refine o_callT rfl rfl rfl rfl s3 ?_
  intro sc
  refine G.sets sc (⟨[], []⟩ : Sets) ?_
  intro rc wc hc
  refine G.slice rc ([] : List Key) ?_
  intro a7 c7 hr3 _
  refine G.slice wc ([] : List Key) ?_
  intro a8 c8 hw3 _
  subst hr3 hw3
  subst hc
  repeat (first | refine stp ?_ | (refine k_indexAddr ?_; first | (refine o_ixA _ rfl rfl rfl rfl rfl (h := ?_); intro _) | (refine o_ixB rfl rfl rfl rfl (h := ?_); intro _)) | (refine k_load ?_; refine o_loadF rfl rfl rfl rfl ?_) | (refine stb ?_; intro _))
  have s4 := ajoin_spec (.agg #[.slice a1 ([] : List Key).length c1, .slice a2 [lK, kK].length c2]) (.agg #[.slice a3 [kK].length c3, .slice a4 ([] : List Key).length c4]) (⟨[], [lK, kK]⟩ : Sets) (⟨[kK], []⟩ : Sets) (by simp) (by simp)
  rw [aw4] at s4
  refine o_callT rfl rfl rfl rfl s4 ?_
  intro sd
  refine G.sets sd (⟨[kK], [lK, kK]⟩ : Sets) ?_
  intro rd wd hd
  refine G.slice rd [kK] ?_
  intro a5 c5 hr4 _
  refine G.slice wd [lK, kK] ?_
  intro a6 c6 hw4 _
  subst hr4 hw4
  subst hd
  repeat (first | refine stp ?_ | (refine k_indexAddr ?_; first | (refine o_ixA _ rfl rfl rfl rfl rfl (h := ?_); intro _) | (refine o_ixB rfl rfl rfl rfl (h := ?_); intro _)) | (refine k_load ?_; refine o_loadF rfl rfl rfl rfl ?_) | (refine stb ?_; intro _))
  show OpK _ _ _ _ _ ((47, kK.v) :: (46, lK.v) :: _) _ _
  refine o_lit (xs := [lK, kK]) ⟨by decide, rfl, by decide⟩ rfl rfl rfl ⟨litK, litK, trivial⟩ rfl ?_
  intro lv4
  refine G.slice lv4 [lK, kK] ?_
  intro a9 c9 hl4 _
  subst hl4
  repeat (first | refine stp ?_ | (refine k_indexAddr ?_; first | (refine o_ixA _ rfl rfl rfl rfl rfl (h := ?_); intro _) | (refine o_ixB rfl rfl rfl rfl (h := ?_); intro _)) | (refine k_load ?_; refine o_loadF rfl rfl rfl rfl ?_) | (refine stb ?_; intro _))
  have hs := same2_spec (.agg #[.slice a1 ([] : List Key).length c1, .slice a2 [lK, kK].length c2]) (.agg #[.slice none 0 0, .slice a9 [lK, kK].length c9]) (⟨[], [lK, kK]⟩ : Sets) (⟨[], [lK, kK]⟩ : Sets) (by simp) (by simp)
  refine o_callV rfl rfl rfl rfl hs (congrArg Value.bool (decide_eq_true ⟨rfl, rfl⟩)) ?_
  repeat (first | refine stp ?_ | (refine k_indexAddr ?_; first | (refine o_ixA _ rfl rfl rfl rfl rfl (h := ?_); intro _) | (refine o_ixB rfl rfl rfl rfl (h := ?_); intro _)) | (refine k_load ?_; refine o_loadF rfl rfl rfl rfl ?_) | (refine stb ?_; intro _))
  refine o_callV rfl rfl rfl rfl (aclash_spec (.agg #[.slice a1 ([] : List Key).length c1, .slice a2 [lK, kK].length c2]) (.agg #[.slice a3 [kK].length c3, .slice a4 ([] : List Key).length c4]) (⟨[], [lK, kK]⟩ : Sets) (⟨[kK], []⟩ : Sets) (by simp) (by simp)) (congrArg Value.bool aw5) ?_
  repeat (first | refine stp ?_ | (refine k_indexAddr ?_; first | (refine o_ixA _ rfl rfl rfl rfl rfl (h := ?_); intro _) | (refine o_ixB rfl rfl rfl rfl (h := ?_); intro _)) | (refine k_load ?_; refine o_loadF rfl rfl rfl rfl ?_) | (refine stb ?_; intro _))
  refine o_callV rfl rfl rfl rfl (aclash_spec (.agg #[.slice a3 [kK].length c3, .slice a4 ([] : List Key).length c4]) (.agg #[.slice a1 ([] : List Key).length c1, .slice a2 [lK, kK].length c2]) (⟨[kK], []⟩ : Sets) (⟨[], [lK, kK]⟩ : Sets) (by simp) (by simp)) (congrArg Value.bool aw6) ?_
  repeat (first | refine stp ?_ | (refine k_indexAddr ?_; first | (refine o_ixA _ rfl rfl rfl rfl rfl (h := ?_); intro _) | (refine o_ixB rfl rfl rfl rfl (h := ?_); intro _)) | (refine k_load ?_; refine o_loadF rfl rfl rfl rfl ?_) | (refine stb ?_; intro _))
  refine o_callV rfl rfl rfl rfl (aclash_spec (.agg #[.slice a3 [kK].length c3, .slice a4 ([] : List Key).length c4]) (.agg #[.slice a3 [kK].length c3, .slice a4 ([] : List Key).length c4]) (⟨[kK], []⟩ : Sets) (⟨[kK], []⟩ : Sets) (by simp) (by simp)) (congrArg Value.bool aw7) ?_
  repeat (first | refine stp ?_ | (refine k_indexAddr ?_; first | (refine o_ixA _ rfl rfl rfl rfl rfl (h := ?_); intro _) | (refine o_ixB rfl rfl rfl rfl (h := ?_); intro _)) | (refine k_load ?_; refine o_loadF rfl rfl rfl rfl ?_) | (refine stb ?_; intro _))
  refine o_callV rfl rfl rfl rfl (aorder_spec lK kK) (congrArg (Value.int .i64) aw8) ?_
  repeat (first | refine stp ?_ | (refine k_indexAddr ?_; first | (refine o_ixA _ rfl rfl rfl rfl rfl (h := ?_); intro _) | (refine o_ixB rfl rfl rfl rfl (h := ?_); intro _)) | (refine k_load ?_; refine o_loadF rfl rfl rfl rfl ?_) | (refine stb ?_; intro _))
  refine o_callV rfl rfl rfl rfl (amay_spec (.agg #[.slice a1 ([] : List Key).length c1, .slice a2 [lK, kK].length c2]) (⟨[], [lK, kK]⟩ : Sets) kK true (by simp)) (congrArg Value.bool aw9) ?_
  repeat (first | refine stp ?_ | (refine k_indexAddr ?_; first | (refine o_ixA _ rfl rfl rfl rfl rfl (h := ?_); intro _) | (refine o_ixB rfl rfl rfl rfl (h := ?_); intro _)) | (refine k_load ?_; refine o_loadF rfl rfl rfl rfl ?_) | (refine stb ?_; intro _))
  refine o_callV rfl rfl rfl rfl (amay_spec (.agg #[.slice a3 [kK].length c3, .slice a4 ([] : List Key).length c4]) (⟨[kK], []⟩ : Sets) kK false (by simp)) (congrArg Value.bool aw10) ?_
  repeat (first | refine stp ?_ | (refine k_indexAddr ?_; first | (refine o_ixA _ rfl rfl rfl rfl rfl (h := ?_); intro _) | (refine o_ixB rfl rfl rfl rfl (h := ?_); intro _)) | (refine k_load ?_; refine o_loadF rfl rfl rfl rfl ?_) | (refine stb ?_; intro _))
  refine o_callV rfl rfl rfl rfl (amay_spec (.agg #[.slice a3 [kK].length c3, .slice a4 ([] : List Key).length c4]) (⟨[kK], []⟩ : Sets) kK true (by simp)) (congrArg Value.bool aw11) ?_
  repeat (first | refine stp ?_ | (refine k_indexAddr ?_; first | (refine o_ixA _ rfl rfl rfl rfl rfl (h := ?_); intro _) | (refine o_ixB rfl rfl rfl rfl (h := ?_); intro _)) | (refine k_load ?_; refine o_loadF rfl rfl rfl rfl ?_) | (refine stb ?_; intro _))
  refine o_callV rfl rfl rfl rfl (arightS_spec (.agg #[.slice a5 [kK].length c5, .slice a6 [lK, kK].length c6]) (⟨[kK], [lK, kK]⟩ : Sets) (by simp)) (congrArg Value.bool aw12) ?_
  repeat (first | refine stp ?_ | (refine k_indexAddr ?_; first | (refine o_ixA _ rfl rfl rfl rfl rfl (h := ?_); intro _) | (refine o_ixB rfl rfl rfl rfl (h := ?_); intro _)) | (refine k_load ?_; refine o_loadF rfl rfl rfl rfl ?_) | (refine stb ?_; intro _))
  refine G.ret rfl (.cons (.tmp rfl) .nil) (Φ' := []) (M' := []) inferInstance (List.nil_sublist _) ⟨?_, rfl, rfl⟩
  rfl
end Go.Rail
