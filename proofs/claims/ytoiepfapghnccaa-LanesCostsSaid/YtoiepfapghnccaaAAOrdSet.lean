/- The program's order of keys is the document's. -/
import Derived.Test.YtoiepfapghnccaaAOrdRev
namespace Go.Rail
open Go Go.Proofs
set_option linter.unusedSimpArgs false
set_option linter.unusedVariables false
set_option maxHeartbeats 400000
set_option maxRecDepth 4000
attribute [local irreducible] OpK G W LW wpListIn Exit.then Exit.inBlock Post rounds opRun bodyPostM intOp
attribute [local irreducible] lexN cmpW cmpA cmpK cmpI
theorem orI_key (x y : Key) : orI [cmpA x.at_ y.at_, cmpI (kindI x) (kindI y), cmpW x.key y.key] = cmpK x y := by
  rw [cmpK_eq]
  by_cases h : cmpA x.at_ y.at_ = 0
  · simp only [orI, h, if_true, ne_eq, not_true_eq_false, if_false]
    cases hx : x.slot <;> cases hy : y.slot <;> simp [kindI, hx, hy, cmpI]
    all_goals (intro h; rw [h])
  · simp [orI, h]
theorem enc_u8 : ∀ l : List UInt8, (l.map fun x => Value.int .u8 (x.toNat : Int)) = (l.map GoFlat.enc).flatten
  | [] => rfl
  | x :: l => by rw [List.map_cons, List.map_cons, List.flatten_cons, enc_u8 l]; rfl
theorem at_row (x : Key) : ((cellsL x.v).drop (0 + 0)).take (20 * GoTy.sz UInt8) = (x.at_.b.map GoFlat.enc).flatten := by
  rw [show ((cellsL x.v).drop (0 + 0)).take (20 * GoTy.sz UInt8) = (x.cells.drop 0).take 20 from rfl, Key.cells_at x, Addr20.cells, enc_u8]
theorem aorder_spec (x y : Key) : FnV Try.prog 18 [x.v, y.v] [] (.int .i64 (cmpK x y)) := by
  refine Fn.enter Try.func18 rfl Try.ntmps18 (by simp) (fun I0 w0 => ?_)
  repeat (first | refine stp ?_ | (refine sti ?_; intro _) | refine stf ?_ | (refine stb ?_; intro _))
  rename_i b2 b3
  refine W.bare (G.give b2 (G.give b3 ?_))
  refine G.row b2 (0 + 0) 20 20 x.at_.b x.at_.h.symm (by omega) (at_row x) x.le_at (fun _ => rfl) ?_
  refine G.row b3 (0 + 0) 20 20 y.at_.b y.at_.h.symm (by omega) (at_row y) y.le_at (fun _ => rfl) ?_
  refine G.code ?_
  refine W.draw 19 [⟨?v0_1, fun _ z => []⟩, ⟨?v1_1, fun _ z => []⟩, ⟨?v2_1, fun _ z => []⟩, ⟨?v3_1, fun _ z => []⟩, ⟨?v4_1, fun _ z => []⟩, ⟨?v5_1, fun _ z => []⟩, ⟨?v6_1, fun _ z => []⟩, ⟨?v7_1, fun _ z => []⟩, ⟨?v8_1, fun _ z => []⟩, ⟨?v9_1, fun _ z => []⟩, ⟨?v10_1, fun _ z => []⟩, ⟨?v11_1, fun _ z => []⟩, ⟨?v12_1, fun _ z => []⟩, ⟨?v13_1, fun _ z => []⟩, ⟨?v14_1, fun _ z => []⟩, ⟨?v15_1, fun _ z => []⟩, ⟨?v16_1, fun _ z => []⟩, ⟨fun _ z => z, fun _ z => [fRp z [cmpA x.at_ y.at_, cmpI (kindI x) (kindI y), cmpW x.key y.key]]⟩, ⟨?v18_1, fun _ z => []⟩] [[], [0], [], [2], [1, 3], [], [], [5, 6], [], [], [8, 9], [7, 10], [], [12], [], [14], [13, 15], [4, 11, 16], [17]] [18] (by kernel_rfl) (by kernel_rfl) (by kernel_rfl) (by kernel_rfl) ?loc_1 ?ops_1 ?rest_1
  case ops_1 =>
    simp only [AllQ, Nat.reduceAdd, and_true]
    refine ⟨?_, ?_, ?_, ?_, ?_, ?_, ?_, ?_, ?_, ?_, ?_, ?_, ?_, ?_, ?_, ?_, ?_, ?_, ?_⟩
    all_goals (intro c z0 Φr Lr K hK; dsimp only [dstOf, kval, kfac, ancE, ancF, getD_z, getD_s, List.getElem?_cons_zero, List.getElem?_cons_succ, List.getElem?_nil, Option.getD_some, Option.getD_none, List.nil_append, List.cons_append, Option.getD] at hK ⊢)
    · refine stp ?_; exact hK z0
    · refine o_sliceA rfl rfl rfl ?_; exact hK z0
    · refine stp ?_; exact hK z0
    · refine o_sliceA rfl rfl rfl ?_; exact hK z0
    · refine o_callV rfl rfl rfl rfl (bcmp_spec _ _ x.at_.b y.at_.b) rfl ?_; exact hK z0
    · refine stp ?_; exact hK z0
    · (first | refine stp ?_ | refine stf ?_); exact hK z0
    · refine o_callV rfl rfl rfl rfl (kind_spec x) rfl ?_; exact hK z0
    · refine stp ?_; exact hK z0
    · (first | refine stp ?_ | refine stf ?_); exact hK z0
    · refine o_callV rfl rfl rfl rfl (kind_spec y) rfl ?_; exact hK z0
    · refine o_callV rfl rfl rfl rfl (compare_spec (kindI x) (kindI y)) rfl ?_; exact hK z0
    iterate 4 ((first | refine stp ?_ | refine stf ?_); exact hK z0)
    · refine o_callV rfl rfl rfl rfl (wcmp_spec x.key y.key) rfl ?_; exact hK z0
    · refine o_lit (xs := [cmpA x.at_ y.at_, cmpI (kindI x) (kindI y), cmpW x.key y.key]) ⟨by decide, rfl, by decide⟩ rfl rfl rfl ⟨fun _ _ => Rp.flat.2 (by unfold cmpA; rfl), fun _ _ => Rp.flat.2 rfl, fun _ _ => Rp.flat.2 rfl, trivial⟩ rfl ?_; intro p; exact hK _
    · refine o_callV rfl rfl rfl rfl (or_spec _ [cmpA x.at_ y.at_, cmpI (kindI x) (kindI y), cmpW x.key y.key] (by simp)) rfl ?_; exact hK z0
  case loc_1 =>
    simp only [AllL, Nat.reduceAdd, and_true]
    refine ⟨?_, ?_, ?_, ?_, ?_, ?_, ?_, ?_, ?_, ?_, ?_, ?_, ?_, ?_, ?_, ?_, ?_, ?_, ?_⟩
    all_goals (intro c c' z h; first | exact ⟨rfl, rfl⟩ | (skip))
  intro c
  dsimp only [dstOf, kval, kfac, ancE,  ancF, getD_z, getD_s, List.getElem?_cons_zero, List.getElem?_cons_succ, List.getElem?_nil, Option.getD_some, Option.getD_none, List.nil_append, List.cons_append, List.drop_succ_cons, List.drop_zero, Option.getD]
  repeat (first | refine stp ?_ | (refine sti ?_; intro _) | refine stf ?_ | (refine stb ?_; intro _))
  refine G.ret rfl (.cons (.tmp rfl) .nil) (Φ' := []) (M' := []) inferInstance (List.nil_sublist _) ⟨?_, rfl, rfl⟩
  rw [orI_key]; rfl
end Go.Rail
namespace Go.Rail
open Go Go.Proofs
set_option linter.unusedSimpArgs false
set_option linter.unusedVariables false
set_option maxHeartbeats 400000
set_option maxRecDepth 4000
attribute [local irreducible] OpK G W LW wpListIn Exit.then Exit.inBlock Post rounds opRun bodyPostM intOp
attribute [local irreducible] lexN cmpW cmpA cmpK cmpI
/-- No one stands behind one that it is ahead of: from i on. -/
def DownOK (xs : List Key) (i : Nat) : Prop := ∀ j, i ≤ j → (h : j + 1 < xs.length) → ¬ ltK xs[j + 1] xs[j]
def sortedB (xs : List Key) : Bool := decide (∀ j, (h : j < xs.length - 1) → ¬ ltK (xs[j + 1]'(by omega)) (xs[j]'(by omega)))
theorem sorted_spec (v : Value) (xs : List Key) (hx : xs.length ≤ 1000000) : FnV Try.prog 66 [v, .func (.func 18) #[] #[]] [fRp v xs] (.bool (sortedB xs)) := by
  refine Fn.enter Try.func66 rfl Try.ntmps66 (by simp) (fun I0 w0 => ?_)
  repeat (first | refine stp ?_ | (refine sti ?_; intro _) | refine stf ?_ | (refine stb ?_; intro _))
  refine W.loopI (fun (i : Nat) => ([fRp v xs], [(0, v), (1, .func (.func 18) #[] #[]), (5, .int .i64 ((i : Int) - 1))], [])) (fun i => i ≤ xs.length ∧ DownOK xs (i - 1)) (fun i => i) xs.length ⟨by omega, fun j h1 h2 => absurd h2 (by omega)⟩ inferInstance (look_sub_cons rfl (look_sub_cons rfl (look_sub_cons rfl look_sub_nil))) (List.Sublist.refl _) ?_
  intro i ⟨hi, hm⟩
  dsimp only
  by_cases hi0 : i ≤ 1
  · repeat (first | refine stp ?_ | (refine sti ?_; intro _) | refine stf ?_ | (refine stb ?_; intro _))
    refine G.ret rfl (.cons (.tmp rfl) .nil) (Φ' := []) (M' := []) inferInstance (List.nil_sublist _) ⟨?_, rfl, rfl⟩
    exact congrArg Value.bool (decide_eq_true fun j h => hm j (by omega) (by omega)).symm
  · have hi1 : i - 1 < xs.length := by omega
    have hi2 : i - 1 - 1 < xs.length := by omega
    repeat (first | refine stp ?_ | (refine sti ?_; intro _) | refine stf ?_ | (refine stb ?_; intro _))
    by_cases hlt : cmpK xs[i - 1] xs[i - 1 - 1] < 0
    · refine W.draw 12 [⟨?v0_1, fun _ z => []⟩, ⟨?v1_1, fun _ z => []⟩, ⟨?v2_1, fun _ z => []⟩, ⟨fun _ z => z, fun _ z => [fPt z xs[i - 1]]⟩, ⟨?v4_1, fun _ z => []⟩, ⟨?v5_1, fun _ z => []⟩, ⟨?v6_1, fun _ z => []⟩, ⟨?v7_1, fun _ z => []⟩, ⟨fun _ z => z, fun _ z => [fPt z xs[i - 1 - 1]]⟩, ⟨?v9_1, fun _ z => []⟩, ⟨?v10_1, fun _ z => []⟩, ⟨?v11_1, fun _ z => []⟩] [[], [], [], [1, 2], [3], [], [], [6], [5, 7], [8], [0, 4, 9], [10]] [11] (by kernel_rfl) (by kernel_rfl) (by kernel_rfl) (by kernel_rfl) ?loc_1 ?ops_1 ?rest_1
      case ops_1 =>
        simp only [AllQ, Nat.reduceAdd, and_true]
        refine ⟨?_, ?_, ?_, ?_, ?_, ?_, ?_, ?_, ?_, ?_, ?_, ?_⟩
        all_goals (intro c z0 Φr Lr K hK; dsimp only [dstOf, kval, kfac, ancE, ancF, getD_z, getD_s, List.getElem?_cons_zero, List.getElem?_cons_succ, List.getElem?_nil, Option.getD_some, Option.getD_none, List.nil_append, List.cons_append, Option.getD] at hK ⊢)
        iterate 3 (refine stp ?_; exact hK z0)
        · refine o_idxN (i - 1) rfl rfl rfl rfl (by omega) hi1 ?_; intro p; exact hK _
        iterate 4 ((first | refine stp ?_ | refine stf ?_); exact hK z0)
        · refine o_idxN (i - 1 - 1) rfl rfl rfl rfl (by omega) hi2 ?_; intro p; exact hK _
        · (first | refine stp ?_ | refine stf ?_); exact hK z0
        · refine o_callV rfl rfl rfl rfl (aorder_spec _ _) rfl ?_; exact hK z0
        · refine stp ?_; exact hK z0
      case loc_1 =>
        simp only [AllL, Nat.reduceAdd, and_true]
        refine ⟨?_, ?_, ?_, ?_, ?_, ?_, ?_, ?_, ?_, ?_, ?_, ?_⟩
        all_goals (intro c c' z h; first | exact ⟨rfl, rfl⟩ | (skip))
      intro c
      dsimp only [dstOf, kval, kfac, ancE,  ancF, getD_z, getD_s, List.getElem?_cons_zero, List.getElem?_cons_succ, List.getElem?_nil, Option.getD_some, Option.getD_none, List.nil_append, List.cons_append, List.drop_succ_cons, List.drop_zero, Option.getD]
      repeat (first | refine stp ?_ | (refine sti ?_; intro _) | refine stf ?_ | (refine stb ?_; intro _))
      refine G.ret rfl (.cons (.tmp rfl) .nil) (Φ' := []) (M' := []) inferInstance (List.nil_sublist _) ⟨?_, rfl, rfl⟩
      refine congrArg Value.bool (decide_eq_false fun h => ?_).symm
      have h3 := h (i - 1 - 1) (by omega)
      have e : i - 1 - 1 + 1 = i - 1 := by omega
      simp only [e] at h3
      exact h3 hlt
    · refine W.draw 12 [⟨?v0_2, fun _ z => []⟩, ⟨?v1_2, fun _ z => []⟩, ⟨?v2_2, fun _ z => []⟩, ⟨fun _ z => z, fun _ z => [fPt z xs[i - 1]]⟩, ⟨?v4_2, fun _ z => []⟩, ⟨?v5_2, fun _ z => []⟩, ⟨?v6_2, fun _ z => []⟩, ⟨?v7_2, fun _ z => []⟩, ⟨fun _ z => z, fun _ z => [fPt z xs[i - 1 - 1]]⟩, ⟨?v9_2, fun _ z => []⟩, ⟨?v10_2, fun _ z => []⟩, ⟨?v11_2, fun _ z => []⟩] [[], [], [], [1, 2], [3], [], [], [6], [5, 7], [8], [0, 4, 9], [10]] [11] (by kernel_rfl) (by kernel_rfl) (by kernel_rfl) (by kernel_rfl) ?loc_2 ?ops_2 ?rest_2
      case ops_2 =>
        simp only [AllQ, Nat.reduceAdd, and_true]
        refine ⟨?_, ?_, ?_, ?_, ?_, ?_, ?_, ?_, ?_, ?_, ?_, ?_⟩
        all_goals (intro c z0 Φr Lr K hK; dsimp only [dstOf, kval, kfac, ancE, ancF, getD_z, getD_s, List.getElem?_cons_zero, List.getElem?_cons_succ, List.getElem?_nil, Option.getD_some, Option.getD_none, List.nil_append, List.cons_append, Option.getD] at hK ⊢)
        iterate 3 (refine stp ?_; exact hK z0)
        · refine o_idxN (i - 1) rfl rfl rfl rfl (by omega) hi1 ?_; intro p; exact hK _
        iterate 4 ((first | refine stp ?_ | refine stf ?_); exact hK z0)
        · refine o_idxN (i - 1 - 1) rfl rfl rfl rfl (by omega) hi2 ?_; intro p; exact hK _
        · (first | refine stp ?_ | refine stf ?_); exact hK z0
        · refine o_callV rfl rfl rfl rfl (aorder_spec _ _) rfl ?_; exact hK z0
        · refine stp ?_; exact hK z0
      case loc_2 =>
        simp only [AllL, Nat.reduceAdd, and_true]
        refine ⟨?_, ?_, ?_, ?_, ?_, ?_, ?_, ?_, ?_, ?_, ?_, ?_⟩
        all_goals (intro c c' z h; first | exact ⟨rfl, rfl⟩ | (skip))
      intro c
      dsimp only [dstOf, kval, kfac, ancE,  ancF, getD_z, getD_s, List.getElem?_cons_zero, List.getElem?_cons_succ, List.getElem?_nil, Option.getD_some, Option.getD_none, List.nil_append, List.cons_append, List.drop_succ_cons, List.drop_zero, Option.getD]
      repeat (first | refine stp ?_ | (refine sti ?_; intro _) | refine stf ?_ | (refine stb ?_; intro _))
      refine G.again (i - 1) (by omega) ⟨by omega, fun j h1 h2 => ?_⟩ inferInstance (look_sub_cons rfl (look_sub_cons rfl (look_sub_cons ?_ look_sub_nil))) (List.Sublist.refl _)
      · by_cases e : j = i - 1 - 1
        · subst e
          have e2 : i - 1 - 1 + 1 = i - 1 := by omega
          simp only [e2]; exact hlt
        · exact hm j (by omega) h2
      · exact congrArg (fun n => some (Value.int .i64 n)) (by omega)
end Go.Rail
