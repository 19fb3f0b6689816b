/- Are two lots the same? -/
import Derived.Test.YtoiepfapghnccaaGreatAGLawM1
import Derived.Test.YtoiepfapghnccaaGreatRailE
import Derived.Test.YtoiepfapghnccaaGreatRailB
namespace Go.Rail
open Go Go.Proofs
set_option linter.unusedSimpArgs false
set_option linter.unusedVariables false
set_option maxHeartbeats 400000
set_option maxRecDepth 4000
attribute [local irreducible] OpK G W LW wpListIn Exit.then Exit.inBlock Post rounds opRun bodyPostM intOp
attribute [local irreducible] badM
theorem list_eq_of {α : Type} {xs ys : List α} (hl : xs.length = ys.length) (h : ∀ i (h : i < xs.length) (h' : i < ys.length), xs[i] = ys[i]) : xs = ys := List.ext_getElem hl h
theorem rsame20_spec (v u : Value) (a b : Lot) (ha : FitL a) (hb : FitL b) : FnV Tryz.prog 18 [v, u] [fRp v a, fRp u b] (.bool (sameLot a b)) := by
  obtain ⟨fs, ns, nl, na, nb, nd⟩ := ha
  obtain ⟨fs', ns', nl', na', nb', nd'⟩ := hb
  refine Fn.enter Tryz.func18 rfl Tryz.ntmps18 (by simp) (fun I0 w0 => ?_)
  refine W.bare (G.lot v a ?_)
  intro x1 xc1 x2 xc2 x3 xc3 x4 xc4 x5 xc5 e
  subst e
  refine G.lot u b ?_
  intro y1 yc1 y2 yc2 y3 yc3 y4 yc4 y5 yc5 e
  subst e
  refine G.code ?_
  by_cases hl1 : a.sets.length = b.sets.length
  case neg =>
    have hno : sameLot a b = false := by
      have : a.sets ≠ b.sets := fun e => hl1 (by rw [e])
      simp [sameLot, this]
    rw [hno]
    repeat (first | refine stp ?_ | (refine sti ?_; intro _) | refine stf ?_ | (refine stb ?_; intro _))
    refine G.ret rfl (.cons (.tmp rfl) .nil) (Φ' := []) (M' := []) inferInstance (List.nil_sublist _) ⟨?_, rfl, rfl⟩
    rfl
  by_cases hl2 : a.begun.length = b.begun.length
  case neg =>
    have hno : sameLot a b = false := by
      have : a.begun ≠ b.begun := fun e => hl2 (by rw [e])
      simp [sameLot, this]
    rw [hno]
    repeat (first | refine stp ?_ | (refine sti ?_; intro _) | refine stf ?_ | (refine stb ?_; intro _))
    refine G.ret rfl (.cons (.tmp rfl) .nil) (Φ' := []) (M' := []) inferInstance (List.nil_sublist _) ⟨?_, rfl, rfl⟩
    rfl
  by_cases hleft : a.left = b.left
  case neg =>
    have hno : sameLot a b = false := by simp [sameLot, hleft]
    rw [hno]
    repeat (first | refine stp ?_ | (refine sti ?_; intro _) | refine stf ?_ | (refine stb ?_; intro _))
    refine o_callV rfl rfl rfl rfl (intsEq_spec (.slice x2 a.left.length xc2) (.slice y2 b.left.length yc2) a.left b.left (by omega) (by omega)) (congrArg Value.bool (decide_eq_false hleft)) ?_
    repeat (first | refine stp ?_ | (refine sti ?_; intro _) | refine stf ?_ | (refine stb ?_; intro _))
    refine G.ret rfl (.cons (.tmp rfl) .nil) (Φ' := []) (M' := []) inferInstance (List.nil_sublist _) ⟨?_, rfl, rfl⟩
    rfl
  by_cases hat_ : a.at_ = b.at_
  case neg =>
    have hno : sameLot a b = false := by simp [sameLot, hat_]
    rw [hno]
    repeat (first | refine stp ?_ | (refine sti ?_; intro _) | refine stf ?_ | (refine stb ?_; intro _))
    refine o_callV rfl rfl rfl rfl (intsEq_spec (.slice x2 a.left.length xc2) (.slice y2 b.left.length yc2) a.left b.left (by omega) (by omega)) (congrArg Value.bool (decide_eq_true hleft)) ?_
    repeat (first | refine stp ?_ | (refine sti ?_; intro _) | refine stf ?_ | (refine stb ?_; intro _))
    refine o_callV rfl rfl rfl rfl (intsEq_spec (.slice x3 a.at_.length xc3) (.slice y3 b.at_.length yc3) a.at_ b.at_ (by omega) (by omega)) (congrArg Value.bool (decide_eq_false hat_)) ?_
    repeat (first | refine stp ?_ | (refine sti ?_; intro _) | refine stf ?_ | (refine stb ?_; intro _))
    refine G.ret rfl (.cons (.tmp rfl) .nil) (Φ' := []) (M' := []) inferInstance (List.nil_sublist _) ⟨?_, rfl, rfl⟩
    rfl
  by_cases hdone : a.done = b.done
  case neg =>
    have hno : sameLot a b = false := by simp [sameLot, hdone]
    rw [hno]
    repeat (first | refine stp ?_ | (refine sti ?_; intro _) | refine stf ?_ | (refine stb ?_; intro _))
    refine o_callV rfl rfl rfl rfl (intsEq_spec (.slice x2 a.left.length xc2) (.slice y2 b.left.length yc2) a.left b.left (by omega) (by omega)) (congrArg Value.bool (decide_eq_true hleft)) ?_
    repeat (first | refine stp ?_ | (refine sti ?_; intro _) | refine stf ?_ | (refine stb ?_; intro _))
    refine o_callV rfl rfl rfl rfl (intsEq_spec (.slice x3 a.at_.length xc3) (.slice y3 b.at_.length yc3) a.at_ b.at_ (by omega) (by omega)) (congrArg Value.bool (decide_eq_true hat_)) ?_
    repeat (first | refine stp ?_ | (refine sti ?_; intro _) | refine stf ?_ | (refine stb ?_; intro _))
    refine o_callV rfl rfl rfl rfl (intsEq_spec (.slice x5 a.done.length xc5) (.slice y5 b.done.length yc5) a.done b.done (by omega) (by omega)) (congrArg Value.bool (decide_eq_false hdone)) ?_
    repeat (first | refine stp ?_ | (refine sti ?_; intro _) | refine stf ?_ | (refine stb ?_; intro _))
    refine G.ret rfl (.cons (.tmp rfl) .nil) (Φ' := []) (M' := []) inferInstance (List.nil_sublist _) ⟨?_, rfl, rfl⟩
    rfl
  repeat (first | refine stp ?_ | (refine sti ?_; intro _) | refine stf ?_ | (refine stb ?_; intro _))
  rename_i b2 b3
  refine o_callV rfl rfl rfl rfl (intsEq_spec (.slice x2 a.left.length xc2) (.slice y2 b.left.length yc2) a.left b.left (by omega) (by omega)) (congrArg Value.bool (decide_eq_true hleft)) ?_
  repeat (first | refine stp ?_ | (refine sti ?_; intro _) | refine stf ?_ | (refine stb ?_; intro _))
  refine o_callV rfl rfl rfl rfl (intsEq_spec (.slice x3 a.at_.length xc3) (.slice y3 b.at_.length yc3) a.at_ b.at_ (by omega) (by omega)) (congrArg Value.bool (decide_eq_true hat_)) ?_
  repeat (first | refine stp ?_ | (refine sti ?_; intro _) | refine stf ?_ | (refine stb ?_; intro _))
  refine o_callV rfl rfl rfl rfl (intsEq_spec (.slice x5 a.done.length xc5) (.slice y5 b.done.length yc5) a.done b.done (by omega) (by omega)) (congrArg Value.bool (decide_eq_true hdone)) ?_
  repeat (first | refine stp ?_ | (refine sti ?_; intro _) | refine stf ?_ | (refine stb ?_; intro _))
  refine W.loopI (fun (i : Nat) => ([fRp (.slice x4 a.begun.length xc4) a.begun, fRp (.slice y4 b.begun.length yc4) b.begun, fRp (.slice x1 a.sets.length xc1) a.sets, fRp (.slice y1 b.sets.length yc1) b.sets], [(2, .pointer (some ⟨b2, 0, none⟩)), (3, .pointer (some ⟨b3, 0, none⟩)), (5, .int .i64 i)], [(b3, Ob [.slice y1 b.sets.length yc1, .slice y2 b.left.length yc2, .slice y3 b.at_.length yc3, .slice y4 b.begun.length yc4, .slice y5 b.done.length yc5] 28), (b2, Ob [.slice x1 a.sets.length xc1, .slice x2 a.left.length xc2, .slice x3 a.at_.length xc3, .slice x4 a.begun.length xc4, .slice x5 a.done.length xc5] 28)])) (fun i => i ≤ a.begun.length ∧ ∀ j (h : j < a.begun.length) (h' : j < b.begun.length), j < i → a.begun[j] = b.begun[j]) (fun i => a.begun.length - i) 0 ⟨Nat.zero_le _, fun j _ _ hj => absurd hj (Nat.not_lt_zero j)⟩ inferInstance (look_sub_cons rfl (look_sub_cons rfl (look_sub_cons rfl look_sub_nil))) (List.Sublist.refl _) ?_
  rintro i ⟨hi, hall⟩
  dsimp only
  by_cases hi0 : i = a.begun.length
  case neg =>
    have hi1 : i < a.begun.length := by omega
    have hi2 : i < b.begun.length := by omega
    repeat (first | refine stp ?_ | (refine sti ?_; intro _) | refine stf ?_ | (refine stb ?_; intro _))
    cases h1 : a.begun[i] with
    | false =>
      cases h2 : b.begun[i] with
      | false =>
        refine W.draw 11 [⟨?v0_1, fun _ z => []⟩, ⟨?v1_1, fun _ z => []⟩, ⟨?v2_1, fun _ z => []⟩, ⟨fun _ z => z, fun _ z => [fPt z false]⟩, ⟨?v4_1, fun _ z => []⟩, ⟨?v5_1, fun _ z => []⟩, ⟨?v6_1, fun _ z => []⟩, ⟨?v7_1, fun _ z => []⟩, ⟨fun _ z => z, fun _ z => [fPt z false]⟩, ⟨?v9_1, fun _ z => []⟩, ⟨?v10_1, fun _ z => []⟩] [[], [0], [], [1, 2], [3], [], [5], [], [6, 7], [8], [4, 9]] [10] (by kernel_rfl) (by kernel_rfl) (by kernel_rfl) (by kernel_rfl) ?loc_1 ?ops_1 ?rest_1
        case ops_1 =>
          simp only [AllQ, Nat.reduceAdd, and_true]
          refine ⟨?_, ?_, ?_, ?_, ?_, ?_, ?_, ?_, ?_, ?_, ?_⟩
          all_goals (intro c z0 Φr Lr K hK; dsimp only [dstOf, kval, kfac, ancE, ancF, getD_z, getD_s, List.getElem?_cons_zero, List.getElem?_cons_succ, List.getElem?_nil, Option.getD_some, Option.getD_none, List.nil_append, List.cons_append, Option.getD] at hK ⊢)
          iterate 3 ((first | refine stp ?_ | refine stf ?_); exact hK z0)
          · refine o_idxN i rfl rfl rfl rfl rfl hi1 ?_; intro p; rw [h1]; exact hK _
          iterate 4 ((first | refine stp ?_ | refine stf ?_); exact hK z0)
          · refine o_idxN i rfl rfl rfl rfl rfl hi2 ?_; intro p; rw [h2]; exact hK _
          · (first | refine stp ?_ | refine stf ?_); exact hK z0
          · refine o_neq rfl rfl rfl rfl (r := false) (by simp) ?_; exact hK z0
        case loc_1 =>
          simp only [AllL, Nat.reduceAdd, and_true]
          refine ⟨?_, ?_, ?_, ?_, ?_, ?_, ?_, ?_, ?_, ?_, ?_⟩
          all_goals (intro c c' z h; first | exact ⟨rfl, rfl⟩ | (skip))
        intro c
        dsimp only [dstOf, kval, kfac, ancE,  ancF, getD_z, getD_s, List.getElem?_cons_zero, List.getElem?_cons_succ, List.getElem?_nil, Option.getD_some, Option.getD_none, List.nil_append, List.cons_append, List.drop_succ_cons, List.drop_zero, Option.getD]
        repeat (first | refine stp ?_ | (refine sti ?_; intro _) | refine stf ?_ | (refine stb ?_; intro _))
        exact G.again (S := Nat) (i + 1) (by omega) ⟨hi1, fun j h h' hj => (Nat.lt_succ_iff_lt_or_eq.1 hj).elim (hall j h h') (fun e => by subst e; rw [h1, h2])⟩ inferInstance (look_sub_cons rfl (look_sub_cons rfl (look_sub_cons rfl look_sub_nil))) (List.Sublist.refl _)
      | true =>
        have hno : sameLot a b = false := by
          have : a.begun ≠ b.begun := fun e => by simp only [e] at h1; rw [h2] at h1; cases h1
          simp [sameLot, this]
        rw [hno]
        refine W.draw 11 [⟨?v0_2, fun _ z => []⟩, ⟨?v1_2, fun _ z => []⟩, ⟨?v2_2, fun _ z => []⟩, ⟨fun _ z => z, fun _ z => [fPt z false]⟩, ⟨?v4_2, fun _ z => []⟩, ⟨?v5_2, fun _ z => []⟩, ⟨?v6_2, fun _ z => []⟩, ⟨?v7_2, fun _ z => []⟩, ⟨fun _ z => z, fun _ z => [fPt z true]⟩, ⟨?v9_2, fun _ z => []⟩, ⟨?v10_2, fun _ z => []⟩] [[], [0], [], [1, 2], [3], [], [5], [], [6, 7], [8], [4, 9]] [10] (by kernel_rfl) (by kernel_rfl) (by kernel_rfl) (by kernel_rfl) ?loc_2 ?ops_2 ?rest_2
        case ops_2 =>
          simp only [AllQ, Nat.reduceAdd, and_true]
          refine ⟨?_, ?_, ?_, ?_, ?_, ?_, ?_, ?_, ?_, ?_, ?_⟩
          all_goals (intro c z0 Φr Lr K hK; dsimp only [dstOf, kval, kfac, ancE, ancF, getD_z, getD_s, List.getElem?_cons_zero, List.getElem?_cons_succ, List.getElem?_nil, Option.getD_some, Option.getD_none, List.nil_append, List.cons_append, Option.getD] at hK ⊢)
          iterate 3 ((first | refine stp ?_ | refine stf ?_); exact hK z0)
          · refine o_idxN i rfl rfl rfl rfl rfl hi1 ?_; intro p; rw [h1]; exact hK _
          iterate 4 ((first | refine stp ?_ | refine stf ?_); exact hK z0)
          · refine o_idxN i rfl rfl rfl rfl rfl hi2 ?_; intro p; rw [h2]; exact hK _
          · (first | refine stp ?_ | refine stf ?_); exact hK z0
          · refine o_neq rfl rfl rfl rfl (r := true) (by simp) ?_; exact hK z0
        case loc_2 =>
          simp only [AllL, Nat.reduceAdd, and_true]
          refine ⟨?_, ?_, ?_, ?_, ?_, ?_, ?_, ?_, ?_, ?_, ?_⟩
          all_goals (intro c c' z h; first | exact ⟨rfl, rfl⟩ | (skip))
        intro c
        dsimp only [dstOf, kval, kfac, ancE,  ancF, getD_z, getD_s, List.getElem?_cons_zero, List.getElem?_cons_succ, List.getElem?_nil, Option.getD_some, Option.getD_none, List.nil_append, List.cons_append, List.drop_succ_cons, List.drop_zero, Option.getD]
        repeat (first | refine stp ?_ | (refine sti ?_; intro _) | refine stf ?_ | (refine stb ?_; intro _))
        refine G.ret rfl (.cons (.tmp rfl) .nil) (Φ' := []) (M' := []) inferInstance (List.nil_sublist _) ⟨?_, rfl, rfl⟩
        rfl
    | true =>
      cases h2 : b.begun[i] with
      | true =>
        refine W.draw 11 [⟨?v0_3, fun _ z => []⟩, ⟨?v1_3, fun _ z => []⟩, ⟨?v2_3, fun _ z => []⟩, ⟨fun _ z => z, fun _ z => [fPt z true]⟩, ⟨?v4_3, fun _ z => []⟩, ⟨?v5_3, fun _ z => []⟩, ⟨?v6_3, fun _ z => []⟩, ⟨?v7_3, fun _ z => []⟩, ⟨fun _ z => z, fun _ z => [fPt z true]⟩, ⟨?v9_3, fun _ z => []⟩, ⟨?v10_3, fun _ z => []⟩] [[], [0], [], [1, 2], [3], [], [5], [], [6, 7], [8], [4, 9]] [10] (by kernel_rfl) (by kernel_rfl) (by kernel_rfl) (by kernel_rfl) ?loc_3 ?ops_3 ?rest_3
        case ops_3 =>
          simp only [AllQ, Nat.reduceAdd, and_true]
          refine ⟨?_, ?_, ?_, ?_, ?_, ?_, ?_, ?_, ?_, ?_, ?_⟩
          all_goals (intro c z0 Φr Lr K hK; dsimp only [dstOf, kval, kfac, ancE, ancF, getD_z, getD_s, List.getElem?_cons_zero, List.getElem?_cons_succ, List.getElem?_nil, Option.getD_some, Option.getD_none, List.nil_append, List.cons_append, Option.getD] at hK ⊢)
          iterate 3 ((first | refine stp ?_ | refine stf ?_); exact hK z0)
          · refine o_idxN i rfl rfl rfl rfl rfl hi1 ?_; intro p; rw [h1]; exact hK _
          iterate 4 ((first | refine stp ?_ | refine stf ?_); exact hK z0)
          · refine o_idxN i rfl rfl rfl rfl rfl hi2 ?_; intro p; rw [h2]; exact hK _
          · (first | refine stp ?_ | refine stf ?_); exact hK z0
          · refine o_neq rfl rfl rfl rfl (r := false) (by simp) ?_; exact hK z0
        case loc_3 =>
          simp only [AllL, Nat.reduceAdd, and_true]
          refine ⟨?_, ?_, ?_, ?_, ?_, ?_, ?_, ?_, ?_, ?_, ?_⟩
          all_goals (intro c c' z h; first | exact ⟨rfl, rfl⟩ | (skip))
        intro c
        dsimp only [dstOf, kval, kfac, ancE,  ancF, getD_z, getD_s, List.getElem?_cons_zero, List.getElem?_cons_succ, List.getElem?_nil, Option.getD_some, Option.getD_none, List.nil_append, List.cons_append, List.drop_succ_cons, List.drop_zero, Option.getD]
        repeat (first | refine stp ?_ | (refine sti ?_; intro _) | refine stf ?_ | (refine stb ?_; intro _))
        exact G.again (S := Nat) (i + 1) (by omega) ⟨hi1, fun j h h' hj => (Nat.lt_succ_iff_lt_or_eq.1 hj).elim (hall j h h') (fun e => by subst e; rw [h1, h2])⟩ inferInstance (look_sub_cons rfl (look_sub_cons rfl (look_sub_cons rfl look_sub_nil))) (List.Sublist.refl _)
      | false =>
        have hno : sameLot a b = false := by
          have : a.begun ≠ b.begun := fun e => by simp only [e] at h1; rw [h2] at h1; cases h1
          simp [sameLot, this]
        rw [hno]
        refine W.draw 11 [⟨?v0_4, fun _ z => []⟩, ⟨?v1_4, fun _ z => []⟩, ⟨?v2_4, fun _ z => []⟩, ⟨fun _ z => z, fun _ z => [fPt z true]⟩, ⟨?v4_4, fun _ z => []⟩, ⟨?v5_4, fun _ z => []⟩, ⟨?v6_4, fun _ z => []⟩, ⟨?v7_4, fun _ z => []⟩, ⟨fun _ z => z, fun _ z => [fPt z false]⟩, ⟨?v9_4, fun _ z => []⟩, ⟨?v10_4, fun _ z => []⟩] [[], [0], [], [1, 2], [3], [], [5], [], [6, 7], [8], [4, 9]] [10] (by kernel_rfl) (by kernel_rfl) (by kernel_rfl) (by kernel_rfl) ?loc_4 ?ops_4 ?rest_4
        case ops_4 =>
          simp only [AllQ, Nat.reduceAdd, and_true]
          refine ⟨?_, ?_, ?_, ?_, ?_, ?_, ?_, ?_, ?_, ?_, ?_⟩
          all_goals (intro c z0 Φr Lr K hK; dsimp only [dstOf, kval, kfac, ancE, ancF, getD_z, getD_s, List.getElem?_cons_zero, List.getElem?_cons_succ, List.getElem?_nil, Option.getD_some, Option.getD_none, List.nil_append, List.cons_append, Option.getD] at hK ⊢)
          iterate 3 ((first | refine stp ?_ | refine stf ?_); exact hK z0)
          · refine o_idxN i rfl rfl rfl rfl rfl hi1 ?_; intro p; rw [h1]; exact hK _
          iterate 4 ((first | refine stp ?_ | refine stf ?_); exact hK z0)
          · refine o_idxN i rfl rfl rfl rfl rfl hi2 ?_; intro p; rw [h2]; exact hK _
          · (first | refine stp ?_ | refine stf ?_); exact hK z0
          · refine o_neq rfl rfl rfl rfl (r := true) (by simp) ?_; exact hK z0
        case loc_4 =>
          simp only [AllL, Nat.reduceAdd, and_true]
          refine ⟨?_, ?_, ?_, ?_, ?_, ?_, ?_, ?_, ?_, ?_, ?_⟩
          all_goals (intro c c' z h; first | exact ⟨rfl, rfl⟩ | (skip))
        intro c
        dsimp only [dstOf, kval, kfac, ancE,  ancF, getD_z, getD_s, List.getElem?_cons_zero, List.getElem?_cons_succ, List.getElem?_nil, Option.getD_some, Option.getD_none, List.nil_append, List.cons_append, List.drop_succ_cons, List.drop_zero, Option.getD]
        repeat (first | refine stp ?_ | (refine sti ?_; intro _) | refine stf ?_ | (refine stb ?_; intro _))
        refine G.ret rfl (.cons (.tmp rfl) .nil) (Φ' := []) (M' := []) inferInstance (List.nil_sublist _) ⟨?_, rfl, rfl⟩
        rfl
  have hbegun : a.begun = b.begun := list_eq_of hl2 fun j h h' => hall j h h' (by omega)
  repeat (first | refine stp ?_ | (refine sti ?_; intro _) | refine stf ?_ | (refine stb ?_; intro _))
  refine W.loopI (fun (i : Nat) => ([fRp (.slice x4 a.begun.length xc4) a.begun, fRp (.slice y4 b.begun.length yc4) b.begun, fRp (.slice x1 a.sets.length xc1) a.sets, fRp (.slice y1 b.sets.length yc1) b.sets], [(2, .pointer (some ⟨b2, 0, none⟩)), (3, .pointer (some ⟨b3, 0, none⟩)), (6, .int .i64 i)], [(b3, Ob [.slice y1 b.sets.length yc1, .slice y2 b.left.length yc2, .slice y3 b.at_.length yc3, .slice y4 b.begun.length yc4, .slice y5 b.done.length yc5] 28), (b2, Ob [.slice x1 a.sets.length xc1, .slice x2 a.left.length xc2, .slice x3 a.at_.length xc3, .slice x4 a.begun.length xc4, .slice x5 a.done.length xc5] 28)])) (fun i => i ≤ a.sets.length ∧ ∀ j (h : j < a.sets.length) (h' : j < b.sets.length), j < i → a.sets[j] = b.sets[j]) (fun i => a.sets.length - i) 0 ⟨Nat.zero_le _, fun j _ _ hj => absurd hj (Nat.not_lt_zero j)⟩ inferInstance (look_sub_cons rfl (look_sub_cons rfl (look_sub_cons rfl look_sub_nil))) (List.Sublist.refl _) ?_
  rintro i ⟨hi, hallS⟩
  dsimp only
  by_cases hi0 : i = a.sets.length
  · have hsets : a.sets = b.sets := list_eq_of hl1 fun j h h' => hallS j h h' (by omega)
    have hyes : sameLot a b = true := by simp [sameLot, hleft, hat_, hdone, hbegun, hsets]
    rw [hyes]
    repeat (first | refine stp ?_ | (refine sti ?_; intro _) | refine stf ?_ | (refine stb ?_; intro _))
    refine G.ret rfl (.cons (.tmp rfl) .nil) (Φ' := []) (M' := []) inferInstance (List.nil_sublist _) ⟨?_, rfl, rfl⟩
    rfl
  have hi1 : i < a.sets.length := by omega
  have hi2 : i < b.sets.length := by omega
  have f1 := fs _ (List.getElem_mem hi1)
  have f2 := fs' _ (List.getElem_mem hi2)
  have hsp := fun w w' => same2_spec w w' a.sets[i] b.sets[i] ⟨by have := f1.1; omega, by have := f1.2; omega⟩ ⟨by have := f2.1; omega, by have := f2.2; omega⟩
  repeat (first | refine stp ?_ | (refine sti ?_; intro _) | refine stf ?_ | (refine stb ?_; intro _))
  by_cases hs : a.sets[i].reads = b.sets[i].reads ∧ a.sets[i].writes = b.sets[i].writes
  · refine W.draw 12 [⟨?v0_5, fun _ z => []⟩, ⟨?v1_5, fun _ z => []⟩, ⟨?v2_5, fun _ z => []⟩, ⟨fun _ z => z, fun _ z => [fPt z a.sets[i]]⟩, ⟨fun _ z => z, fun _ z => [fRp z a.sets[i]]⟩, ⟨?v5_5, fun _ z => []⟩, ⟨?v6_5, fun _ z => []⟩, ⟨?v7_5, fun _ z => []⟩, ⟨fun _ z => z, fun _ z => [fPt z b.sets[i]]⟩, ⟨fun _ z => z, fun _ z => [fRp z b.sets[i]]⟩, ⟨?v10_5, fun _ z => []⟩, ⟨?v11_5, fun _ z => []⟩] [[], [0], [], [1, 2], [3], [], [5], [], [6, 7], [8], [4, 9], [10]] [11] (by kernel_rfl) (by kernel_rfl) (by kernel_rfl) (by kernel_rfl) ?loc_5 ?ops_5 ?rest_5
    case ops_5 =>
      simp only [AllQ, Nat.reduceAdd, and_true]
      refine ⟨?_, ?_, ?_, ?_, ?_, ?_, ?_, ?_, ?_, ?_, ?_, ?_⟩
      all_goals (intro c z0 Φr Lr K hK; dsimp only [dstOf, kval, kfac, ancE, ancF, getD_z, getD_s, List.getElem?_cons_zero, List.getElem?_cons_succ, List.getElem?_nil, Option.getD_some, Option.getD_none, List.nil_append, List.cons_append, Option.getD] at hK ⊢)
      iterate 3 ((first | refine stp ?_ | refine stf ?_); exact hK z0)
      · refine o_idxN i rfl rfl rfl rfl rfl hi1 ?_; intro p; exact hK _
      · refine o_loadR rfl rfl rfl rfl ?_; intro p; exact hK _
      iterate 3 ((first | refine stp ?_ | refine stf ?_); exact hK z0)
      · refine o_idxN i rfl rfl rfl rfl rfl hi2 ?_; intro p; exact hK _
      · refine o_loadR rfl rfl rfl rfl ?_; intro p; exact hK _
      · refine o_callV rfl rfl rfl rfl (hsp (c 4) (c 9)) (congrArg Value.bool (decide_eq_true hs)) ?_; exact hK z0
      · refine stp ?_; exact hK z0
    case loc_5 =>
      simp only [AllL, Nat.reduceAdd, and_true]
      refine ⟨?_, ?_, ?_, ?_, ?_, ?_, ?_, ?_, ?_, ?_, ?_, ?_⟩
      all_goals (intro c c' z h; first | exact ⟨rfl, rfl⟩ | (skip))
    intro c
    dsimp only [dstOf, kval, kfac, ancE,  ancF, getD_z, getD_s, List.getElem?_cons_zero, List.getElem?_cons_succ, List.getElem?_nil, Option.getD_some, Option.getD_none, List.nil_append, List.cons_append, List.drop_succ_cons, List.drop_zero, Option.getD]
    repeat (first | refine stp ?_ | (refine sti ?_; intro _) | refine stf ?_ | (refine stb ?_; intro _))
    exact G.again (S := Nat) (i + 1) (by omega) ⟨hi1, fun j h h' hj => (Nat.lt_succ_iff_lt_or_eq.1 hj).elim (hallS j h h') (fun e => by subst e; exact sets_ext hs)⟩ inferInstance (look_sub_cons rfl (look_sub_cons rfl (look_sub_cons rfl look_sub_nil))) (List.Sublist.refl _)
  · have hno : sameLot a b = false := by
      have : a.sets ≠ b.sets := fun e => hs (by simp only [e, and_self])
      simp [sameLot, this]
    rw [hno]
    refine W.draw 12 [⟨?v0_6, fun _ z => []⟩, ⟨?v1_6, fun _ z => []⟩, ⟨?v2_6, fun _ z => []⟩, ⟨fun _ z => z, fun _ z => [fPt z a.sets[i]]⟩, ⟨fun _ z => z, fun _ z => [fRp z a.sets[i]]⟩, ⟨?v5_6, fun _ z => []⟩, ⟨?v6_6, fun _ z => []⟩, ⟨?v7_6, fun _ z => []⟩, ⟨fun _ z => z, fun _ z => [fPt z b.sets[i]]⟩, ⟨fun _ z => z, fun _ z => [fRp z b.sets[i]]⟩, ⟨?v10_6, fun _ z => []⟩, ⟨?v11_6, fun _ z => []⟩] [[], [0], [], [1, 2], [3], [], [5], [], [6, 7], [8], [4, 9], [10]] [11] (by kernel_rfl) (by kernel_rfl) (by kernel_rfl) (by kernel_rfl) ?loc_6 ?ops_6 ?rest_6
    case ops_6 =>
      simp only [AllQ, Nat.reduceAdd, and_true]
      refine ⟨?_, ?_, ?_, ?_, ?_, ?_, ?_, ?_, ?_, ?_, ?_, ?_⟩
      all_goals (intro c z0 Φr Lr K hK; dsimp only [dstOf, kval, kfac, ancE, ancF, getD_z, getD_s, List.getElem?_cons_zero, List.getElem?_cons_succ, List.getElem?_nil, Option.getD_some, Option.getD_none, List.nil_append, List.cons_append, Option.getD] at hK ⊢)
      iterate 3 ((first | refine stp ?_ | refine stf ?_); exact hK z0)
      · refine o_idxN i rfl rfl rfl rfl rfl hi1 ?_; intro p; exact hK _
      · refine o_loadR rfl rfl rfl rfl ?_; intro p; exact hK _
      iterate 3 ((first | refine stp ?_ | refine stf ?_); exact hK z0)
      · refine o_idxN i rfl rfl rfl rfl rfl hi2 ?_; intro p; exact hK _
      · refine o_loadR rfl rfl rfl rfl ?_; intro p; exact hK _
      · refine o_callV rfl rfl rfl rfl (hsp (c 4) (c 9)) (congrArg Value.bool (decide_eq_false hs)) ?_; exact hK z0
      · refine stp ?_; exact hK z0
    case loc_6 =>
      simp only [AllL, Nat.reduceAdd, and_true]
      refine ⟨?_, ?_, ?_, ?_, ?_, ?_, ?_, ?_, ?_, ?_, ?_, ?_⟩
      all_goals (intro c c' z h; first | exact ⟨rfl, rfl⟩ | (skip))
    intro c
    dsimp only [dstOf, kval, kfac, ancE,  ancF, getD_z, getD_s, List.getElem?_cons_zero, List.getElem?_cons_succ, List.getElem?_nil, Option.getD_some, Option.getD_none, List.nil_append, List.cons_append, List.drop_succ_cons, List.drop_zero, Option.getD]
    repeat (first | refine stp ?_ | (refine sti ?_; intro _) | refine stf ?_ | (refine stb ?_; intro _))
    refine G.ret rfl (.cons (.tmp rfl) .nil) (Φ' := []) (M' := []) inferInstance (List.nil_sublist _) ⟨?_, rfl, rfl⟩
    rfl
end Go.Rail
