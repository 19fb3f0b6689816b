/- Sets as the program has them. -/
import Derived.Test.YtoiepfapghnccaaAAOrd
namespace Go.Rail
open Go Go.Proofs
set_option linter.unusedSimpArgs false
set_option linter.unusedVariables false
set_option maxHeartbeats 400000
set_option maxRecDepth 4000
attribute [local irreducible] OpK G W LW wpListIn Exit.then Exit.inBlock Post rounds opRun bodyPostM intOp

attribute [local irreducible] lexN cmpW cmpA cmpK cmpI

theorem amay_spec (v : Value) (s : Sets) (k : Key) (wr : Bool) (h1 : s.reads.length ≤ 1000000 ∧ s.writes.length ≤ 1000000) : FnV Try.prog 26 [v, k.v, .bool wr] [fRp v s] (.bool (mayS s k wr)) := by
  refine Fn.enter Try.func26 rfl Try.ntmps26 (by simp) (fun I0 w0 => ?_)
  refine W.bare (G.sets v s ?_)
  intro r w hv
  subst hv
  repeat (first | refine stp ?_ | (refine k_indexAddr ?_; first | (refine o_ixA _ rfl rfl rfl rfl rfl (h := ?_); intro _) | (refine o_ixB rfl rfl rfl rfl (h := ?_); intro _)) | (refine k_load ?_; refine o_loadF rfl rfl rfl rfl ?_) | (refine stb ?_; intro _))
  by_cases hr : k ∈ s.writes
  · refine o_callV rfl rfl rfl rfl (contains_spec w s.writes (by omega) k) (congrArg Value.bool (decide_eq_true hr)) ?_
    repeat (first | refine stp ?_ | (refine k_indexAddr ?_; first | (refine o_ixA _ rfl rfl rfl rfl rfl (h := ?_); intro _) | (refine o_ixB rfl rfl rfl rfl (h := ?_); intro _)) | (refine k_load ?_; refine o_loadF rfl rfl rfl rfl ?_) | (refine stb ?_; intro _))
    refine G.ret rfl (.cons (.tmp rfl) .nil) (Φ' := []) (M' := []) inferInstance (List.nil_sublist _) ⟨?_, rfl, rfl⟩
    simp [tup, mayS, hr]
  · refine o_callV rfl rfl rfl rfl (contains_spec w s.writes (by omega) k) (congrArg Value.bool (decide_eq_false hr)) ?_
    cases wr
    · repeat (first | refine stp ?_ | (refine k_indexAddr ?_; first | (refine o_ixA _ rfl rfl rfl rfl rfl (h := ?_); intro _) | (refine o_ixB rfl rfl rfl rfl (h := ?_); intro _)) | (refine k_load ?_; refine o_loadF rfl rfl rfl rfl ?_) | (refine stb ?_; intro _))
      refine o_callV rfl rfl rfl rfl (contains_spec r s.reads (by omega) k) rfl ?_
      repeat (first | refine stp ?_ | (refine k_indexAddr ?_; first | (refine o_ixA _ rfl rfl rfl rfl rfl (h := ?_); intro _) | (refine o_ixB rfl rfl rfl rfl (h := ?_); intro _)) | (refine k_load ?_; refine o_loadF rfl rfl rfl rfl ?_) | (refine stb ?_; intro _))
      refine G.ret rfl (.cons (.tmp rfl) .nil) (Φ' := []) (M' := []) inferInstance (List.nil_sublist _) ⟨?_, rfl, rfl⟩
      simp [tup, mayS, hr]
    · repeat (first | refine stp ?_ | (refine k_indexAddr ?_; first | (refine o_ixA _ rfl rfl rfl rfl rfl (h := ?_); intro _) | (refine o_ixB rfl rfl rfl rfl (h := ?_); intro _)) | (refine k_load ?_; refine o_loadF rfl rfl rfl rfl ?_) | (refine stb ?_; intro _))
      refine G.ret rfl (.cons (.tmp rfl) .nil) (Φ' := []) (M' := []) inferInstance (List.nil_sublist _) ⟨?_, rfl, rfl⟩
      simp [tup, mayS, hr]
/-- No one stands behind one that it is ahead of: from i on. -/
def DownOK (xs : List Key) (i : Nat) : Prop := ∀ j, i ≤ j → (h : j + 1 < xs.length) → ¬ ltK xs[j + 1] xs[j]
def sortedB (xs : List Key) : Bool := decide (∀ j, (h : j < xs.length - 1) → ¬ ltK (xs[j + 1]'(by omega)) (xs[j]'(by omega)))
theorem sorted_spec (v : Value) (xs : List Key) (hx : xs.length ≤ 1000000) : FnV Try.prog 66 [v, .func (.func 18) #[] #[]] [fRp v xs] (.bool (sortedB xs)) := by
  refine Fn.enter Try.func66 rfl Try.ntmps66 (by simp) (fun I0 w0 => ?_)
  repeat (first | refine stp ?_ | (refine k_indexAddr ?_; first | (refine o_ixA _ rfl rfl rfl rfl rfl (h := ?_); intro _) | (refine o_ixB rfl rfl rfl rfl (h := ?_); intro _)) | (refine k_load ?_; refine o_loadF rfl rfl rfl rfl ?_) | (refine stb ?_; intro _))
  refine W.loopI (fun (i : Nat) => ([fRp v xs], [(0, v), (1, .func (.func 18) #[] #[]), (5, .int .i64 ((i : Int) - 1))], [])) (fun i => i ≤ xs.length ∧ DownOK xs (i - 1)) (fun i => i) xs.length ⟨by omega, fun j h1 h2 => absurd h2 (by omega)⟩ inferInstance (look_sub_cons rfl (look_sub_cons rfl (look_sub_cons rfl look_sub_nil))) (List.Sublist.refl _) ?_
  intro i ⟨hi, hm⟩
  dsimp only
  by_cases hi0 : i ≤ 1
  · repeat (first | refine stp ?_ | (refine k_indexAddr ?_; first | (refine o_ixA _ rfl rfl rfl rfl rfl (h := ?_); intro _) | (refine o_ixB rfl rfl rfl rfl (h := ?_); intro _)) | (refine k_load ?_; refine o_loadF rfl rfl rfl rfl ?_) | (refine stb ?_; intro _))
    refine G.ret rfl (.cons (.tmp rfl) .nil) (Φ' := []) (M' := []) inferInstance (List.nil_sublist _) ⟨?_, rfl, rfl⟩
    exact congrArg Value.bool (decide_eq_true fun j h => hm j (by omega) (by omega)).symm
  · have hi1 : i - 1 < xs.length := by omega
    have hi2 : i - 1 - 1 < xs.length := by omega
    repeat (first | refine stp ?_ | (refine k_indexAddr ?_; first | (refine o_ixA _ rfl rfl rfl rfl rfl (h := ?_); intro _) | (refine o_ixB rfl rfl rfl rfl (h := ?_); intro _)) | (refine k_load ?_; refine o_loadF rfl rfl rfl rfl ?_) | (refine stb ?_; intro _))
    by_cases hlt : cmpK xs[i - 1] xs[i - 1 - 1] < 0
    · refine W.draw 12 [⟨?v0_1, fun _ z => []⟩, ⟨?v1_1, fun _ z => []⟩, ⟨?v2_1, fun _ z => []⟩, ⟨fun _ z => z, fun _ z => [fPt z xs[i - 1]]⟩, ⟨?v4_1, fun _ z => []⟩, ⟨?v5_1, fun _ z => []⟩, ⟨?v6_1, fun _ z => []⟩, ⟨?v7_1, fun _ z => []⟩, ⟨fun _ z => z, fun _ z => [fPt z xs[i - 1 - 1]]⟩, ⟨?v9_1, fun _ z => []⟩, ⟨?v10_1, fun _ z => []⟩, ⟨?v11_1, fun _ z => []⟩] [[], [], [], [1, 2], [3], [], [], [6], [5, 7], [8], [0, 4, 9], [10]] [11] (by kernel_rfl) (by kernel_rfl) (by kernel_rfl) (by kernel_rfl) ?loc_1 ?ops_1 ?rest_1
      case ops_1 =>
        simp only [AllQ, Nat.reduceAdd, and_true]
        refine ⟨?_, ?_, ?_, ?_, ?_, ?_, ?_, ?_, ?_, ?_, ?_, ?_⟩
        · intro c z0 Φr Lr K hK; dsimp only [dstOf, kval, kfac, ancE,  ancF, getD_z, getD_s, List.getElem?_cons_zero, List.getElem?_cons_succ, List.getElem?_nil, Option.getD_some, Option.getD_none, List.nil_append, List.cons_append, Option.getD] at hK ⊢; refine stp ?_; exact hK z0
        · intro c z0 Φr Lr K hK; dsimp only [dstOf, kval, kfac, ancE,  ancF, getD_z, getD_s, List.getElem?_cons_zero, List.getElem?_cons_succ, List.getElem?_nil, Option.getD_some, Option.getD_none, List.nil_append, List.cons_append, Option.getD] at hK ⊢; refine stp ?_; exact hK z0
        · intro c z0 Φr Lr K hK; dsimp only [dstOf, kval, kfac, ancE,  ancF, getD_z, getD_s, List.getElem?_cons_zero, List.getElem?_cons_succ, List.getElem?_nil, Option.getD_some, Option.getD_none, List.nil_append, List.cons_append, Option.getD] at hK ⊢; refine stp ?_; exact hK z0
        · intro c z0 Φr Lr K hK; dsimp only [dstOf, kval, kfac, ancE,  ancF, getD_z, getD_s, List.getElem?_cons_zero, List.getElem?_cons_succ, List.getElem?_nil, Option.getD_some, Option.getD_none, List.nil_append, List.cons_append, Option.getD] at hK ⊢; refine o_idxN (i - 1) rfl rfl rfl rfl (by omega) hi1 ?_; intro p; exact hK _
        · intro c z0 Φr Lr K hK; dsimp only [dstOf, kval, kfac, ancE,  ancF, getD_z, getD_s, List.getElem?_cons_zero, List.getElem?_cons_succ, List.getElem?_nil, Option.getD_some, Option.getD_none, List.nil_append, List.cons_append, Option.getD] at hK ⊢; (first | refine stp ?_ | refine o_loadF rfl rfl rfl rfl ?_); exact hK z0
        · intro c z0 Φr Lr K hK; dsimp only [dstOf, kval, kfac, ancE,  ancF, getD_z, getD_s, List.getElem?_cons_zero, List.getElem?_cons_succ, List.getElem?_nil, Option.getD_some, Option.getD_none, List.nil_append, List.cons_append, Option.getD] at hK ⊢; refine stp ?_; exact hK z0
        · intro c z0 Φr Lr K hK; dsimp only [dstOf, kval, kfac, ancE,  ancF, getD_z, getD_s, List.getElem?_cons_zero, List.getElem?_cons_succ, List.getElem?_nil, Option.getD_some, Option.getD_none, List.nil_append, List.cons_append, Option.getD] at hK ⊢; refine stp ?_; exact hK z0
        · intro c z0 Φr Lr K hK; dsimp only [dstOf, kval, kfac, ancE,  ancF, getD_z, getD_s, List.getElem?_cons_zero, List.getElem?_cons_succ, List.getElem?_nil, Option.getD_some, Option.getD_none, List.nil_append, List.cons_append, Option.getD] at hK ⊢; refine stp ?_; exact hK z0
        · intro c z0 Φr Lr K hK; dsimp only [dstOf, kval, kfac, ancE,  ancF, getD_z, getD_s, List.getElem?_cons_zero, List.getElem?_cons_succ, List.getElem?_nil, Option.getD_some, Option.getD_none, List.nil_append, List.cons_append, Option.getD] at hK ⊢; refine o_idxN (i - 1 - 1) rfl rfl rfl rfl (by omega) hi2 ?_; intro p; exact hK _
        · intro c z0 Φr Lr K hK; dsimp only [dstOf, kval, kfac, ancE,  ancF, getD_z, getD_s, List.getElem?_cons_zero, List.getElem?_cons_succ, List.getElem?_nil, Option.getD_some, Option.getD_none, List.nil_append, List.cons_append, Option.getD] at hK ⊢; (first | refine stp ?_ | refine o_loadF rfl rfl rfl rfl ?_); exact hK z0
        · intro c z0 Φr Lr K hK; dsimp only [dstOf, kval, kfac, ancE,  ancF, getD_z, getD_s, List.getElem?_cons_zero, List.getElem?_cons_succ, List.getElem?_nil, Option.getD_some, Option.getD_none, List.nil_append, List.cons_append, Option.getD] at hK ⊢; refine o_callV rfl rfl rfl rfl (aorder_spec _ _) rfl ?_; exact hK z0
        · intro c z0 Φr Lr K hK; dsimp only [dstOf, kval, kfac, ancE,  ancF, getD_z, getD_s, List.getElem?_cons_zero, List.getElem?_cons_succ, List.getElem?_nil, Option.getD_some, Option.getD_none, List.nil_append, List.cons_append, Option.getD] at hK ⊢; refine stp ?_; exact hK z0
      case loc_1 =>
        simp only [AllL, Nat.reduceAdd, and_true]
        refine ⟨?_, ?_, ?_, ?_, ?_, ?_, ?_, ?_, ?_, ?_, ?_, ?_⟩
        all_goals (intro c c' z h; first | exact ⟨rfl, rfl⟩ | (skip))
      intro c
      dsimp only [dstOf, kval, kfac, ancE,  ancF, getD_z, getD_s, List.getElem?_cons_zero, List.getElem?_cons_succ, List.getElem?_nil, Option.getD_some, Option.getD_none, List.nil_append, List.cons_append, List.drop_succ_cons, List.drop_zero, Option.getD]
      repeat (first | refine stp ?_ | (refine k_indexAddr ?_; first | (refine o_ixA _ rfl rfl rfl rfl rfl (h := ?_); intro _) | (refine o_ixB rfl rfl rfl rfl (h := ?_); intro _)) | (refine k_load ?_; refine o_loadF rfl rfl rfl rfl ?_) | (refine stb ?_; intro _))
      refine G.ret rfl (.cons (.tmp rfl) .nil) (Φ' := []) (M' := []) inferInstance (List.nil_sublist _) ⟨?_, rfl, rfl⟩
      refine congrArg Value.bool (decide_eq_false fun h => ?_).symm
      have h3 := h (i - 1 - 1) (by omega)
      have e : i - 1 - 1 + 1 = i - 1 := by omega
      simp only [e] at h3
      exact h3 hlt
    · refine W.draw 12 [⟨?v0_2, fun _ z => []⟩, ⟨?v1_2, fun _ z => []⟩, ⟨?v2_2, fun _ z => []⟩, ⟨fun _ z => z, fun _ z => [fPt z xs[i - 1]]⟩, ⟨?v4_2, fun _ z => []⟩, ⟨?v5_2, fun _ z => []⟩, ⟨?v6_2, fun _ z => []⟩, ⟨?v7_2, fun _ z => []⟩, ⟨fun _ z => z, fun _ z => [fPt z xs[i - 1 - 1]]⟩, ⟨?v9_2, fun _ z => []⟩, ⟨?v10_2, fun _ z => []⟩, ⟨?v11_2, fun _ z => []⟩] [[], [], [], [1, 2], [3], [], [], [6], [5, 7], [8], [0, 4, 9], [10]] [11] (by kernel_rfl) (by kernel_rfl) (by kernel_rfl) (by kernel_rfl) ?loc_2 ?ops_2 ?rest_2
      case ops_2 =>
        simp only [AllQ, Nat.reduceAdd, and_true]
        refine ⟨?_, ?_, ?_, ?_, ?_, ?_, ?_, ?_, ?_, ?_, ?_, ?_⟩
        · intro c z0 Φr Lr K hK; dsimp only [dstOf, kval, kfac, ancE,  ancF, getD_z, getD_s, List.getElem?_cons_zero, List.getElem?_cons_succ, List.getElem?_nil, Option.getD_some, Option.getD_none, List.nil_append, List.cons_append, Option.getD] at hK ⊢; refine stp ?_; exact hK z0
        · intro c z0 Φr Lr K hK; dsimp only [dstOf, kval, kfac, ancE,  ancF, getD_z, getD_s, List.getElem?_cons_zero, List.getElem?_cons_succ, List.getElem?_nil, Option.getD_some, Option.getD_none, List.nil_append, List.cons_append, Option.getD] at hK ⊢; refine stp ?_; exact hK z0
        · intro c z0 Φr Lr K hK; dsimp only [dstOf, kval, kfac, ancE,  ancF, getD_z, getD_s, List.getElem?_cons_zero, List.getElem?_cons_succ, List.getElem?_nil, Option.getD_some, Option.getD_none, List.nil_append, List.cons_append, Option.getD] at hK ⊢; refine stp ?_; exact hK z0
        · intro c z0 Φr Lr K hK; dsimp only [dstOf, kval, kfac, ancE,  ancF, getD_z, getD_s, List.getElem?_cons_zero, List.getElem?_cons_succ, List.getElem?_nil, Option.getD_some, Option.getD_none, List.nil_append, List.cons_append, Option.getD] at hK ⊢; refine o_idxN (i - 1) rfl rfl rfl rfl (by omega) hi1 ?_; intro p; exact hK _
        · intro c z0 Φr Lr K hK; dsimp only [dstOf, kval, kfac, ancE,  ancF, getD_z, getD_s, List.getElem?_cons_zero, List.getElem?_cons_succ, List.getElem?_nil, Option.getD_some, Option.getD_none, List.nil_append, List.cons_append, Option.getD] at hK ⊢; (first | refine stp ?_ | refine o_loadF rfl rfl rfl rfl ?_); exact hK z0
        · intro c z0 Φr Lr K hK; dsimp only [dstOf, kval, kfac, ancE,  ancF, getD_z, getD_s, List.getElem?_cons_zero, List.getElem?_cons_succ, List.getElem?_nil, Option.getD_some, Option.getD_none, List.nil_append, List.cons_append, Option.getD] at hK ⊢; refine stp ?_; exact hK z0
        · intro c z0 Φr Lr K hK; dsimp only [dstOf, kval, kfac, ancE,  ancF, getD_z, getD_s, List.getElem?_cons_zero, List.getElem?_cons_succ, List.getElem?_nil, Option.getD_some, Option.getD_none, List.nil_append, List.cons_append, Option.getD] at hK ⊢; refine stp ?_; exact hK z0
        · intro c z0 Φr Lr K hK; dsimp only [dstOf, kval, kfac, ancE,  ancF, getD_z, getD_s, List.getElem?_cons_zero, List.getElem?_cons_succ, List.getElem?_nil, Option.getD_some, Option.getD_none, List.nil_append, List.cons_append, Option.getD] at hK ⊢; refine stp ?_; exact hK z0
        · intro c z0 Φr Lr K hK; dsimp only [dstOf, kval, kfac, ancE,  ancF, getD_z, getD_s, List.getElem?_cons_zero, List.getElem?_cons_succ, List.getElem?_nil, Option.getD_some, Option.getD_none, List.nil_append, List.cons_append, Option.getD] at hK ⊢; refine o_idxN (i - 1 - 1) rfl rfl rfl rfl (by omega) hi2 ?_; intro p; exact hK _
        · intro c z0 Φr Lr K hK; dsimp only [dstOf, kval, kfac, ancE,  ancF, getD_z, getD_s, List.getElem?_cons_zero, List.getElem?_cons_succ, List.getElem?_nil, Option.getD_some, Option.getD_none, List.nil_append, List.cons_append, Option.getD] at hK ⊢; (first | refine stp ?_ | refine o_loadF rfl rfl rfl rfl ?_); exact hK z0
        · intro c z0 Φr Lr K hK; dsimp only [dstOf, kval, kfac, ancE,  ancF, getD_z, getD_s, List.getElem?_cons_zero, List.getElem?_cons_succ, List.getElem?_nil, Option.getD_some, Option.getD_none, List.nil_append, List.cons_append, Option.getD] at hK ⊢; refine o_callV rfl rfl rfl rfl (aorder_spec _ _) rfl ?_; exact hK z0
        · intro c z0 Φr Lr K hK; dsimp only [dstOf, kval, kfac, ancE,  ancF, getD_z, getD_s, List.getElem?_cons_zero, List.getElem?_cons_succ, List.getElem?_nil, Option.getD_some, Option.getD_none, List.nil_append, List.cons_append, Option.getD] at hK ⊢; refine stp ?_; exact hK z0
      case loc_2 =>
        simp only [AllL, Nat.reduceAdd, and_true]
        refine ⟨?_, ?_, ?_, ?_, ?_, ?_, ?_, ?_, ?_, ?_, ?_, ?_⟩
        all_goals (intro c c' z h; first | exact ⟨rfl, rfl⟩ | (skip))
      intro c
      dsimp only [dstOf, kval, kfac, ancE,  ancF, getD_z, getD_s, List.getElem?_cons_zero, List.getElem?_cons_succ, List.getElem?_nil, Option.getD_some, Option.getD_none, List.nil_append, List.cons_append, List.drop_succ_cons, List.drop_zero, Option.getD]
      repeat (first | refine stp ?_ | (refine k_indexAddr ?_; first | (refine o_ixA _ rfl rfl rfl rfl rfl (h := ?_); intro _) | (refine o_ixB rfl rfl rfl rfl (h := ?_); intro _)) | (refine k_load ?_; refine o_loadF rfl rfl rfl rfl ?_) | (refine stb ?_; intro _))
      refine G.again (i - 1) (by omega) ⟨by omega, fun j h1 h2 => ?_⟩ inferInstance (look_sub_cons rfl (look_sub_cons rfl (look_sub_cons ?_ look_sub_nil))) (List.Sublist.refl _)
      · by_cases e : j = i - 1 - 1
        · subst e
          have e2 : i - 1 - 1 + 1 = i - 1 := by omega
          simp only [e2]; exact hlt
        · exact hm j (by omega) h2
      · exact congrArg (fun n => some (Value.int .i64 n)) (by omega)
end Go.Rail
