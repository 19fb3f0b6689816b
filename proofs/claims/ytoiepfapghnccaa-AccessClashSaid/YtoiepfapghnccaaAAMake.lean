/- Sets made, and joined, as the program has it. -/
import Derived.Test.YtoiepfapghnccaaAIter
namespace Go.Rail
open Go Go.Proofs
set_option linter.unusedSimpArgs false
set_option linter.unusedVariables false
set_option maxHeartbeats 400000
set_option maxRecDepth 4000
attribute [local irreducible] OpK G W LW wpListIn Exit.then Exit.inBlock Post rounds opRun bodyPostM intOp

attribute [local irreducible] lexN cmpW cmpA cmpK cmpI makeS

theorem any_odd {xs : List Key} : (xs.any fun k => !mayK k) = false ↔ ∀ k ∈ xs, mayK k = true := by
  rw [List.any_eq_false]
  exact ⟨fun h k hk => by simpa using h k hk, fun h k hk => by simpa using h k hk⟩
theorem amake_spec (v u : Value) (r w : List Key) (hr : r.length ≤ 1000000) (hw : w.length ≤ 1000000) : Fn Try.prog 21 [v, u] [fRp v r, fRp u w] [] (RSets (makeS r w)) := by
  refine Fn.enter Try.func21 rfl Try.ntmps21 (by simp) (fun I0 w0 => ?_)
  have l1 := setK_length r
  have l2 := setK_length w
  cases ho1 : r.any fun k => !mayK k with
  | true =>
    repeat (first | refine stp ?_ | (refine k_indexAddr ?_; first | (refine o_ixA _ rfl rfl rfl rfl rfl (h := ?_); intro _) | (refine o_ixB rfl rfl rfl rfl (h := ?_); intro _)) | (refine k_load ?_; refine o_loadF rfl rfl rfl rfl ?_) | (refine stb ?_; intro _))
    refine o_callV rfl rfl rfl rfl (anyOdd_spec v r (by omega)) (congrArg Value.bool ho1) ?_
    repeat (first | refine stp ?_ | (refine k_indexAddr ?_; first | (refine o_ixA _ rfl rfl rfl rfl rfl (h := ?_); intro _) | (refine o_ixB rfl rfl rfl rfl (h := ?_); intro _)) | (refine k_load ?_; refine o_loadF rfl rfl rfl rfl ?_) | (refine stb ?_; intro _))
    refine G.ret rfl (.cons (.cellA rfl rfl) (.cons (.tmp rfl) .nil)) (M' := []) ent_noSets (List.nil_sublist _) (RSets.mk ?_)
    rw [makeS_eq, if_pos (fun h => by rw [any_odd.2 h.1] at ho1; cases ho1)]
  | false =>
    cases ho2 : w.any fun k => !mayK k with
    | true =>
      repeat (first | refine stp ?_ | (refine k_indexAddr ?_; first | (refine o_ixA _ rfl rfl rfl rfl rfl (h := ?_); intro _) | (refine o_ixB rfl rfl rfl rfl (h := ?_); intro _)) | (refine k_load ?_; refine o_loadF rfl rfl rfl rfl ?_) | (refine stb ?_; intro _))
      refine o_callV rfl rfl rfl rfl (anyOdd_spec v r (by omega)) (congrArg Value.bool ho1) ?_
      repeat (first | refine stp ?_ | (refine k_indexAddr ?_; first | (refine o_ixA _ rfl rfl rfl rfl rfl (h := ?_); intro _) | (refine o_ixB rfl rfl rfl rfl (h := ?_); intro _)) | (refine k_load ?_; refine o_loadF rfl rfl rfl rfl ?_) | (refine stb ?_; intro _))
      refine o_callV rfl rfl rfl rfl (anyOdd_spec u w (by omega)) (congrArg Value.bool ho2) ?_
      repeat (first | refine stp ?_ | (refine k_indexAddr ?_; first | (refine o_ixA _ rfl rfl rfl rfl rfl (h := ?_); intro _) | (refine o_ixB rfl rfl rfl rfl (h := ?_); intro _)) | (refine k_load ?_; refine o_loadF rfl rfl rfl rfl ?_) | (refine stb ?_; intro _))
      refine G.ret rfl (.cons (.cellA rfl rfl) (.cons (.tmp rfl) .nil)) (M' := []) ent_noSets (List.nil_sublist _) (RSets.mk ?_)
      rw [makeS_eq, if_pos (fun h => by rw [any_odd.2 h.2] at ho2; cases ho2)]
    | false =>
      have hmay : ¬ ¬ ((∀ k ∈ r, mayK k = true) ∧ (∀ k ∈ w, mayK k = true)) := fun h => h ⟨any_odd.1 ho1, any_odd.1 ho2⟩
      repeat (first | refine stp ?_ | (refine k_indexAddr ?_; first | (refine o_ixA _ rfl rfl rfl rfl rfl (h := ?_); intro _) | (refine o_ixB rfl rfl rfl rfl (h := ?_); intro _)) | (refine k_load ?_; refine o_loadF rfl rfl rfl rfl ?_) | (refine stb ?_; intro _))
      refine o_callV rfl rfl rfl rfl (anyOdd_spec v r (by omega)) (congrArg Value.bool ho1) ?_
      repeat (first | refine stp ?_ | (refine k_indexAddr ?_; first | (refine o_ixA _ rfl rfl rfl rfl rfl (h := ?_); intro _) | (refine o_ixB rfl rfl rfl rfl (h := ?_); intro _)) | (refine k_load ?_; refine o_loadF rfl rfl rfl rfl ?_) | (refine stb ?_; intro _))
      refine o_callV rfl rfl rfl rfl (anyOdd_spec u w (by omega)) (congrArg Value.bool ho2) ?_
      repeat (first | refine stp ?_ | (refine k_indexAddr ?_; first | (refine o_ixA _ rfl rfl rfl rfl rfl (h := ?_); intro _) | (refine o_ixB rfl rfl rfl rfl (h := ?_); intro _)) | (refine k_load ?_; refine o_loadF rfl rfl rfl rfl ?_) | (refine stb ?_; intro _))
      refine o_callO rfl rfl rfl rfl (set2_spec v r hr) ?_
      intro v1 o1 h1
      refine G.giveOwn2 (Mr := [_]) v1 (setK r) o1 31 h1 inferInstance (List.Perm.refl _) ?_
      refine G.slice v1 (setK r) ?_
      intro a1 c1 hv1 hc1
      subst hv1
      repeat (first | refine stp ?_ | (refine k_indexAddr ?_; first | (refine o_ixA _ rfl rfl rfl rfl rfl (h := ?_); intro _) | (refine o_ixB rfl rfl rfl rfl (h := ?_); intro _)) | (refine k_load ?_; refine o_loadF rfl rfl rfl rfl ?_) | (refine stb ?_; intro _))
      refine o_callO rfl rfl rfl rfl (set2_spec u w hw) ?_
      intro v2 o2 h2
      refine G.giveOwn2 (Mr := [_]) v2 (setK w) o2 31 h2 inferInstance (List.Perm.refl _) ?_
      refine G.slice v2 (setK w) ?_
      intro a2 c2 hv2 hc2
      subst hv2
      repeat (first | refine stp ?_ | (refine k_indexAddr ?_; first | (refine o_ixA _ rfl rfl rfl rfl rfl (h := ?_); intro _) | (refine o_ixB rfl rfl rfl rfl (h := ?_); intro _)) | (refine k_load ?_; refine o_loadF rfl rfl rfl rfl ?_) | (refine stb ?_; intro _))
      have hrs : ∀ {Φ : List Fa} [Ent' Φ (fRp (.slice a1 (setK r).length c1) (setK r))] [Ent' Φ (fRp (.slice a2 (setK w).length c2) (setK w))], Ents Φ [fRp (.agg #[.slice a1 (setK r).length c1, .slice a2 (setK w).length c2]) (⟨setK r, setK w⟩ : Sets)] := ent_sets inferInstance inferInstance
      cases hrg : rightS ⟨setK r, setK w⟩ with
      | false =>
        refine o_callV rfl rfl rfl rfl (arightS_spec (.agg #[.slice a1 (setK r).length c1, .slice a2 (setK w).length c2]) ⟨setK r, setK w⟩ ⟨by dsimp only; omega, by dsimp only; omega⟩) (congrArg Value.bool hrg) (hΦ := hrs) ?_
        repeat (first | refine stp ?_ | (refine k_indexAddr ?_; first | (refine o_ixA _ rfl rfl rfl rfl rfl (h := ?_); intro _) | (refine o_ixB rfl rfl rfl rfl (h := ?_); intro _)) | (refine k_load ?_; refine o_loadF rfl rfl rfl rfl ?_) | (refine stb ?_; intro _))
        refine G.ret rfl (.cons (.cellA rfl rfl) (.cons (.tmp rfl) .nil)) (M' := []) ent_noSets (List.nil_sublist _) (RSets.mk ?_)
        rw [makeS_eq, if_neg hmay, hrg]; rfl
      | true =>
        refine o_callV rfl rfl rfl rfl (arightS_spec (.agg #[.slice a1 (setK r).length c1, .slice a2 (setK w).length c2]) ⟨setK r, setK w⟩ ⟨by dsimp only; omega, by dsimp only; omega⟩) (congrArg Value.bool hrg) (hΦ := hrs) ?_
        repeat (first | refine stp ?_ | (refine k_indexAddr ?_; first | (refine o_ixA _ rfl rfl rfl rfl rfl (h := ?_); intro _) | (refine o_ixB rfl rfl rfl rfl (h := ?_); intro _)) | (refine k_load ?_; refine o_loadF rfl rfl rfl rfl ?_) | (refine stb ?_; intro _))
        refine G.ret rfl (.cons (.cellA rfl rfl) (.cons (.tmp rfl) .nil)) (M' := []) (ent_sets (rs := setK r) (ws := setK w) inferInstance inferInstance) (List.nil_sublist _) (RSets.mk ?_)
        rw [makeS_eq, if_neg hmay, hrg]; rfl

theorem concat2_spec (v : Value) (a b : List Key) (ha : a.length ≤ 1000) (hb : b.length ≤ 1000) : FnD Try.prog 72 [v] [fRp v [a, b]] (fun v => [fRp v (a ++ b)]) := by
  have h := Fn.given (concat_spec v [a, b] (by simp) (by simp; omega))
  simpa using h
theorem ajoin_spec (v u : Value) (a b : Sets) (h1 : a.reads.length ≤ 1000 ∧ a.writes.length ≤ 1000) (h2 : b.reads.length ≤ 1000 ∧ b.writes.length ≤ 1000) : Fn Try.prog 28 [v, u] [fRp v a, fRp u b] [] (RSets (joinS a b)) := by
  refine Fn.enter Try.func28 rfl Try.ntmps28 (by simp) (fun I0 w0 => ?_)
  refine W.bare (G.sets v a ?_)
  intro r w hv
  refine G.sets u b ?_
  intro r' w' hu
  subst hv hu
  cases hr : rightS a with
  | false =>
    repeat (first | refine stp ?_ | (refine k_indexAddr ?_; first | (refine o_ixA _ rfl rfl rfl rfl rfl (h := ?_); intro _) | (refine o_ixB rfl rfl rfl rfl (h := ?_); intro _)) | (refine k_load ?_; refine o_loadF rfl rfl rfl rfl ?_) | (refine stb ?_; intro _))
    refine o_callV rfl rfl rfl rfl (arightS_spec (.agg #[r, w]) a (by omega)) (congrArg Value.bool hr) ?_
    repeat (first | refine stp ?_ | (refine k_indexAddr ?_; first | (refine o_ixA _ rfl rfl rfl rfl rfl (h := ?_); intro _) | (refine o_ixB rfl rfl rfl rfl (h := ?_); intro _)) | (refine k_load ?_; refine o_loadF rfl rfl rfl rfl ?_) | (refine stb ?_; intro _))
    refine G.ret rfl (.cons (.cellA rfl rfl) (.cons (.tmp rfl) .nil)) (M' := []) ent_noSets (List.nil_sublist _) (RSets.mk ?_)
    rw [joinS, hr]; rfl
  | true =>
    cases hr2 : rightS b with
    | false =>
      repeat (first | refine stp ?_ | (refine k_indexAddr ?_; first | (refine o_ixA _ rfl rfl rfl rfl rfl (h := ?_); intro _) | (refine o_ixB rfl rfl rfl rfl (h := ?_); intro _)) | (refine k_load ?_; refine o_loadF rfl rfl rfl rfl ?_) | (refine stb ?_; intro _))
      refine o_callV rfl rfl rfl rfl (arightS_spec (.agg #[r, w]) a (by omega)) (congrArg Value.bool hr) ?_
      repeat (first | refine stp ?_ | (refine k_indexAddr ?_; first | (refine o_ixA _ rfl rfl rfl rfl rfl (h := ?_); intro _) | (refine o_ixB rfl rfl rfl rfl (h := ?_); intro _)) | (refine k_load ?_; refine o_loadF rfl rfl rfl rfl ?_) | (refine stb ?_; intro _))
      refine o_callV rfl rfl rfl rfl (arightS_spec (.agg #[r', w']) b (by omega)) (congrArg Value.bool hr2) ?_
      repeat (first | refine stp ?_ | (refine k_indexAddr ?_; first | (refine o_ixA _ rfl rfl rfl rfl rfl (h := ?_); intro _) | (refine o_ixB rfl rfl rfl rfl (h := ?_); intro _)) | (refine k_load ?_; refine o_loadF rfl rfl rfl rfl ?_) | (refine stb ?_; intro _))
      refine G.ret rfl (.cons (.cellA rfl rfl) (.cons (.tmp rfl) .nil)) (M' := []) ent_noSets (List.nil_sublist _) (RSets.mk ?_)
      rw [joinS, hr, hr2]; rfl
    | true =>
      repeat (first | refine stp ?_ | (refine k_indexAddr ?_; first | (refine o_ixA _ rfl rfl rfl rfl rfl (h := ?_); intro _) | (refine o_ixB rfl rfl rfl rfl (h := ?_); intro _)) | (refine k_load ?_; refine o_loadF rfl rfl rfl rfl ?_) | (refine stb ?_; intro _))
      refine o_callV rfl rfl rfl rfl (arightS_spec (.agg #[r, w]) a (by omega)) (congrArg Value.bool hr) ?_
      repeat (first | refine stp ?_ | (refine k_indexAddr ?_; first | (refine o_ixA _ rfl rfl rfl rfl rfl (h := ?_); intro _) | (refine o_ixB rfl rfl rfl rfl (h := ?_); intro _)) | (refine k_load ?_; refine o_loadF rfl rfl rfl rfl ?_) | (refine stb ?_; intro _))
      refine o_callV rfl rfl rfl rfl (arightS_spec (.agg #[r', w']) b (by omega)) (congrArg Value.bool hr2) ?_
      repeat (first | refine stp ?_ | (refine k_indexAddr ?_; first | (refine o_ixA _ rfl rfl rfl rfl rfl (h := ?_); intro _) | (refine o_ixB rfl rfl rfl rfl (h := ?_); intro _)) | (refine k_load ?_; refine o_loadF rfl rfl rfl rfl ?_) | (refine stb ?_; intro _))
      refine W.draw 15 [⟨?v0_1, fun _ z => []⟩, ⟨?v1_1, fun _ z => []⟩, ⟨?v2_1, fun _ z => []⟩, ⟨?v3_1, fun _ z => []⟩, ⟨fun _ z => z, fun _ z => [fRp z [a.reads, b.reads]]⟩, ⟨fun _ z => z, fun _ z => [fRp z (a.reads ++ b.reads)]⟩, ⟨?v6_1, fun _ z => []⟩, ⟨?v7_1, fun _ z => []⟩, ⟨?v8_1, fun _ z => []⟩, ⟨?v9_1, fun _ z => []⟩, ⟨fun _ z => z, fun _ z => [fRp z [a.writes, b.writes]]⟩, ⟨fun _ z => z, fun _ z => [fRp z (a.writes ++ b.writes)]⟩, ⟨fun _ z => .tuple #[z, .int .i64 (makeS (a.reads ++ b.reads) (a.writes ++ b.writes)).2], fun _ z => [fRp z (makeS (a.reads ++ b.reads) (a.writes ++ b.writes)).1]⟩, ⟨?v13_1, fun _ z => []⟩, ⟨?v14_1, fun _ z => []⟩] [[], [0], [], [2], [1, 3], [4], [], [6], [], [8], [7, 9], [10], [5, 11], [12], [12]] [12, 13, 14] (by kernel_rfl) (by kernel_rfl) (by kernel_rfl) (by kernel_rfl) ?loc_1 ?ops_1 ?rest_1
      case ops_1 =>
        simp only [AllQ, Nat.reduceAdd, and_true]
        refine ⟨?_, ?_, ?_, ?_, ?_, ?_, ?_, ?_, ?_, ?_, ?_, ?_, ?_, ?_, ?_⟩
        · intro c z0 Φr Lr K hK; dsimp only [dstOf, kval, kfac, ancE,  ancF, getD_z, getD_s, List.getElem?_cons_zero, List.getElem?_cons_succ, List.getElem?_nil, Option.getD_some, Option.getD_none, List.nil_append, List.cons_append, Option.getD] at hK ⊢; refine stp ?_; exact hK z0
        · intro c z0 Φr Lr K hK; dsimp only [dstOf, kval, kfac, ancE,  ancF, getD_z, getD_s, List.getElem?_cons_zero, List.getElem?_cons_succ, List.getElem?_nil, Option.getD_some, Option.getD_none, List.nil_append, List.cons_append, Option.getD] at hK ⊢; (first | refine stp ?_ | refine o_loadF rfl rfl rfl rfl ?_); exact hK z0
        · intro c z0 Φr Lr K hK; dsimp only [dstOf, kval, kfac, ancE,  ancF, getD_z, getD_s, List.getElem?_cons_zero, List.getElem?_cons_succ, List.getElem?_nil, Option.getD_some, Option.getD_none, List.nil_append, List.cons_append, Option.getD] at hK ⊢; refine stp ?_; exact hK z0
        · intro c z0 Φr Lr K hK; dsimp only [dstOf, kval, kfac, ancE,  ancF, getD_z, getD_s, List.getElem?_cons_zero, List.getElem?_cons_succ, List.getElem?_nil, Option.getD_some, Option.getD_none, List.nil_append, List.cons_append, Option.getD] at hK ⊢; (first | refine stp ?_ | refine o_loadF rfl rfl rfl rfl ?_); exact hK z0
        · intro c z0 Φr Lr K hK; dsimp only [dstOf, kval, kfac, ancE,  ancF, getD_z, getD_s, List.getElem?_cons_zero, List.getElem?_cons_succ, List.getElem?_nil, Option.getD_some, Option.getD_none, List.nil_append, List.cons_append, Option.getD] at hK ⊢; refine o_lit (xs := [a.reads, b.reads]) ⟨by decide, rfl, by decide⟩ rfl rfl rfl ⟨fun I hp => Ent'.h (φ := fRp r a.reads) I hp, fun I hp => Ent'.h (φ := fRp r' b.reads) I hp, trivial⟩ rfl ?_; intro z; exact hK _
        · intro c z0 Φr Lr K hK; dsimp only [dstOf, kval, kfac, ancE,  ancF, getD_z, getD_s, List.getElem?_cons_zero, List.getElem?_cons_succ, List.getElem?_nil, Option.getD_some, Option.getD_none, List.nil_append, List.cons_append, Option.getD] at hK ⊢; refine o_callD rfl rfl rfl rfl (concat2_spec (c 4) a.reads b.reads (by omega) (by omega)) ?_; intro z; exact hK _
        · intro c z0 Φr Lr K hK; dsimp only [dstOf, kval, kfac, ancE,  ancF, getD_z, getD_s, List.getElem?_cons_zero, List.getElem?_cons_succ, List.getElem?_nil, Option.getD_some, Option.getD_none, List.nil_append, List.cons_append, Option.getD] at hK ⊢; refine stp ?_; exact hK z0
        · intro c z0 Φr Lr K hK; dsimp only [dstOf, kval, kfac, ancE,  ancF, getD_z, getD_s, List.getElem?_cons_zero, List.getElem?_cons_succ, List.getElem?_nil, Option.getD_some, Option.getD_none, List.nil_append, List.cons_append, Option.getD] at hK ⊢; (first | refine stp ?_ | refine o_loadF rfl rfl rfl rfl ?_); exact hK z0
        · intro c z0 Φr Lr K hK; dsimp only [dstOf, kval, kfac, ancE,  ancF, getD_z, getD_s, List.getElem?_cons_zero, List.getElem?_cons_succ, List.getElem?_nil, Option.getD_some, Option.getD_none, List.nil_append, List.cons_append, Option.getD] at hK ⊢; refine stp ?_; exact hK z0
        · intro c z0 Φr Lr K hK; dsimp only [dstOf, kval, kfac, ancE,  ancF, getD_z, getD_s, List.getElem?_cons_zero, List.getElem?_cons_succ, List.getElem?_nil, Option.getD_some, Option.getD_none, List.nil_append, List.cons_append, Option.getD] at hK ⊢; (first | refine stp ?_ | refine o_loadF rfl rfl rfl rfl ?_); exact hK z0
        · intro c z0 Φr Lr K hK; dsimp only [dstOf, kval, kfac, ancE,  ancF, getD_z, getD_s, List.getElem?_cons_zero, List.getElem?_cons_succ, List.getElem?_nil, Option.getD_some, Option.getD_none, List.nil_append, List.cons_append, Option.getD] at hK ⊢; refine o_lit (xs := [a.writes, b.writes]) ⟨by decide, rfl, by decide⟩ rfl rfl rfl ⟨fun I hp => Ent'.h (φ := fRp w a.writes) I hp, fun I hp => Ent'.h (φ := fRp w' b.writes) I hp, trivial⟩ rfl ?_; intro z; exact hK _
        · intro c z0 Φr Lr K hK; dsimp only [dstOf, kval, kfac, ancE,  ancF, getD_z, getD_s, List.getElem?_cons_zero, List.getElem?_cons_succ, List.getElem?_nil, Option.getD_some, Option.getD_none, List.nil_append, List.cons_append, Option.getD] at hK ⊢; refine o_callD rfl rfl rfl rfl (concat2_spec (c 10) a.writes b.writes (by omega) (by omega)) ?_; intro z; exact hK _
        · intro c z0 Φr Lr K hK; dsimp only [dstOf, kval, kfac, ancE,  ancF, getD_z, getD_s, List.getElem?_cons_zero, List.getElem?_cons_succ, List.getElem?_nil, Option.getD_some, Option.getD_none, List.nil_append, List.cons_append, Option.getD] at hK ⊢; refine o_callT rfl rfl rfl rfl (amake_spec (c 5) (c 11) (a.reads ++ b.reads) (a.writes ++ b.writes) (by simp; omega) (by simp; omega)) ?_; intro z; exact hK _
        · intro c z0 Φr Lr K hK; dsimp only [dstOf, kval, kfac, ancE,  ancF, getD_z, getD_s, List.getElem?_cons_zero, List.getElem?_cons_succ, List.getElem?_nil, Option.getD_some, Option.getD_none, List.nil_append, List.cons_append, Option.getD] at hK ⊢; refine stp ?_; exact hK z0
        · intro c z0 Φr Lr K hK; dsimp only [dstOf, kval, kfac, ancE,  ancF, getD_z, getD_s, List.getElem?_cons_zero, List.getElem?_cons_succ, List.getElem?_nil, Option.getD_some, Option.getD_none, List.nil_append, List.cons_append, Option.getD] at hK ⊢; refine stp ?_; exact hK z0
      case loc_1 =>
        simp only [AllL, Nat.reduceAdd, and_true]
        refine ⟨?_, ?_, ?_, ?_, ?_, ?_, ?_, ?_, ?_, ?_, ?_, ?_, ?_, ?_, ?_⟩
        all_goals (intro c c' z h; first | exact ⟨rfl, rfl⟩ | (exact ⟨h 12 (by kernel_rfl), rfl⟩))
      intro c
      dsimp only [dstOf, kval, kfac, ancE,  ancF, getD_z, getD_s, List.getElem?_cons_zero, List.getElem?_cons_succ, List.getElem?_nil, Option.getD_some, Option.getD_none, List.nil_append, List.cons_append, List.drop_succ_cons, List.drop_zero, Option.getD]
      refine LW.bare (G.sets (c 12) (makeS (a.reads ++ b.reads) (a.writes ++ b.writes)).1 ?_)
      intro r1 w1 hsv
      refine G.slice r1 (makeS (a.reads ++ b.reads) (a.writes ++ b.writes)).1.reads ?_
      intro a1 c1 hr1 _
      refine G.slice w1 (makeS (a.reads ++ b.reads) (a.writes ++ b.writes)).1.writes ?_
      intro a2 c2 hw1 _
      subst hr1 hw1
      rw [hsv]
      repeat (first | refine stp ?_ | (refine k_indexAddr ?_; first | (refine o_ixA _ rfl rfl rfl rfl rfl (h := ?_); intro _) | (refine o_ixB rfl rfl rfl rfl (h := ?_); intro _)) | (refine k_load ?_; refine o_loadF rfl rfl rfl rfl ?_) | (refine stb ?_; intro _))
      refine G.ret rfl (.cons (.cellA rfl rfl) (.cons (.tmp rfl) .nil)) (M' := []) (ent_sets (r := .slice a1 (makeS (a.reads ++ b.reads) (a.writes ++ b.writes)).1.reads.length c1) (w := .slice a2 (makeS (a.reads ++ b.reads) (a.writes ++ b.writes)).1.writes.length c2) (rs := (makeS (a.reads ++ b.reads) (a.writes ++ b.writes)).1.reads) (ws := (makeS (a.reads ++ b.reads) (a.writes ++ b.writes)).1.writes) inferInstance inferInstance) (List.nil_sublist _) (RSets.mk ?_)
      rw [joinS, hr, hr2]; rfl
end Go.Rail
