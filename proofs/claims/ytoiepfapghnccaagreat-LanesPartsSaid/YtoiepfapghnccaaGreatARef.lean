/- The document's order of keys, and what it makes of lists of keys. -/
import Derived.Test.YtoiepfapghnccaaGreatAEqOne
namespace Go.Rail
open Go Go.Proofs
set_option linter.unusedSimpArgs false
set_option linter.unusedVariables false
set_option maxHeartbeats 400000
set_option maxRecDepth 4000
attribute [local irreducible] OpK G W LW wpListIn Exit.then Exit.inBlock Post rounds opRun bodyPostM intOp
attribute [local irreducible] lexN cmpW cmpA cmpK
theorem key_at (k : Key) {i : Nat} (h : i < 20) : k.cells[i]? = some (.int .u8 (k.at_.b.getD i 0).toNat) := by
  have hl := k.at_.h
  rw [Key.cells, List.getElem?_append_left (by rw [Addr20.cells_length]; exact h), Addr20.cells]
  simp [List.getD_eq_getElem?_getD, show i < k.at_.b.length by omega]
theorem cmpA_drop (x y : Addr20) (i : Nat) (h : i < 20) : lexN (x.code.drop i) (y.code.drop i) = if (x.b.getD i 0).toNat < (y.b.getD i 0).toNat then -1 else if (y.b.getD i 0).toNat < (x.b.getD i 0).toNat then 1 else lexN (x.code.drop (i + 1)) (y.code.drop (i + 1)) := by
  have hx := x.h
  have hy := y.h
  have e : ∀ z : Addr20, z.b.length = 20 → z.code.drop i = (z.b.getD i 0).toNat :: z.code.drop (i + 1) := fun z hz => by
    rw [Addr20.code, List.drop_eq_getElem_cons (by simp; omega)]
    simp [List.getD_eq_getElem?_getD, show i < z.b.length by omega]
  rw [e x hx, e y hy, lexN]
theorem key_slot (k : Key) : k.cells[0 + 20]? = some (.bool k.slot) := Key.cells_slot k
theorem order_spec (x y : Key) : FnV Tryz.prog 92 [x.v, y.v] [] (.int .i64 (cmpK x y)) := by
  refine Fn.enter Tryz.func92 rfl Tryz.ntmps92 (by simp) (fun I0 w0 => ?_)
  rw [cmpK_eq]
  repeat (first | refine stp ?_ | (refine sti ?_; intro _) | refine stf ?_ | (refine stb ?_; intro _))
  refine W.loopI (fun (i : Nat) => ([], [(2, _), (3, _), (5, .int .i64 i)], _)) (fun i => i ≤ 20 ∧ lexN (x.at_.code.drop i) (y.at_.code.drop i) = cmpA x.at_ y.at_) (fun i => 20 - i) 0 ⟨by omega, by rw [List.drop_zero, List.drop_zero, cmpA]⟩ inferInstance (look_sub_cons rfl (look_sub_cons rfl (look_sub_cons rfl look_sub_nil))) (List.Sublist.refl _) ?_
  intro i ⟨hi, hw⟩
  dsimp only
  by_cases hi0 : i = 20
  · subst hi0
    have hw : 0 = cmpA x.at_ y.at_ := by rw [← hw, List.drop_of_length_le (by simp [Addr20.code_length]), List.drop_of_length_le (by simp [Addr20.code_length]), lexN_self]
    rw [if_neg (by simp [← hw])]
    repeat (first | refine stp ?_ | (refine sti ?_; intro _) | refine stf ?_ | (refine stb ?_; intro _))
    refine o_load1 rfl rfl rfl (key_slot x) ?_
    repeat (first | refine stp ?_ | (refine sti ?_; intro _) | refine stf ?_ | (refine stb ?_; intro _))
    refine o_load1 rfl rfl rfl (key_slot y) ?_
    repeat (first | refine stp ?_ | (refine sti ?_; intro _) | refine stf ?_ | (refine stb ?_; intro _))
    refine W.cond rfl (fun hb => ?_) (fun hb => ?_)
    · have hb : x.slot ≠ y.slot := by simpa using hb
      rw [if_neg hb]
      repeat (first | refine stp ?_ | (refine sti ?_; intro _) | refine stf ?_ | (refine stb ?_; intro _))
      refine o_load1 rfl rfl rfl (key_slot y) ?_
      repeat (first | refine stp ?_ | (refine sti ?_; intro _) | refine stf ?_ | (refine stb ?_; intro _))
      refine W.cond rfl (fun hb => ?_) (fun hb => ?_)
      · repeat (first | refine stp ?_ | (refine sti ?_; intro _) | refine stf ?_ | (refine stb ?_; intro _))
        refine G.ret rfl (.cons (.tmp rfl) .nil) (Φ' := []) (M' := []) inferInstance (List.nil_sublist _) ⟨?_, rfl, rfl⟩
        simp [tup, hb]
      · repeat (first | refine stp ?_ | (refine sti ?_; intro _) | refine stf ?_ | (refine stb ?_; intro _))
        refine G.ret rfl (.cons (.tmp rfl) .nil) (Φ' := []) (M' := []) inferInstance (List.nil_sublist _) ⟨?_, rfl, rfl⟩
        simp [tup, hb]
    · have hb : x.slot = y.slot := by simpa using hb
      rw [if_pos hb]
      repeat (first | refine stp ?_ | (refine sti ?_; intro _) | refine stf ?_ | (refine stb ?_; intro _))
      refine o_callV rfl rfl rfl rfl (cmp_spec x.key y.key) rfl ?_
      repeat (first | refine stp ?_ | (refine sti ?_; intro _) | refine stf ?_ | (refine stb ?_; intro _))
      refine G.ret rfl (.cons (.tmp rfl) .nil) (Φ' := []) (M' := []) inferInstance (List.nil_sublist _) ⟨?_, rfl, rfl⟩
      simp [tup]
  · have hd := cmpA_drop x.at_ y.at_ i (by omega)
    rw [hw] at hd
    repeat (first | refine stp ?_ | (refine sti ?_; intro _) | refine stf ?_ | (refine stb ?_; intro _))
    refine W.draw 9 [⟨?v0_1, fun _ z => []⟩, ⟨?v1_1, fun _ z => []⟩, ⟨?v2_1, fun _ z => []⟩, ⟨?v3_1, fun _ z => []⟩, ⟨?v4_1, fun _ z => []⟩, ⟨?v5_1, fun _ z => []⟩, ⟨?v6_1, fun _ z => []⟩, ⟨?v7_1, fun _ z => []⟩, ⟨?v8_1, fun _ z => []⟩] [[], [], [0, 1], [2], [], [], [4, 5], [6], [3, 7]] [8] (by kernel_rfl) (by kernel_rfl) (by kernel_rfl) (by kernel_rfl) ?loc_1 ?ops_1 ?rest_1
    case ops_1 =>
      simp only [AllQ, Nat.reduceAdd, and_true]
      refine ⟨?_, ?_, ?_, ?_, ?_, ?_, ?_, ?_, ?_⟩
      all_goals (intro c z0 Φr Lr K hK; dsimp only [dstOf, kval, kfac, ancE, ancF, getD_z, getD_s, List.getElem?_cons_zero, List.getElem?_cons_succ, List.getElem?_nil, Option.getD_some, Option.getD_none, List.nil_append, List.cons_append, Option.getD] at hK ⊢)
      · refine stp ?_; exact hK z0
      · refine stp ?_; exact hK z0
      · refine o_index rfl rfl rfl rfl (by omega) (by omega) (o' := i) (by omega) ?_; exact hK z0
      · refine o_load1 rfl rfl rfl (key_at x (by omega)) ?_; exact hK z0
      · refine stp ?_; exact hK z0
      · refine stp ?_; exact hK z0
      · refine o_index rfl rfl rfl rfl (by omega) (by omega) (o' := i) (by omega) ?_; exact hK z0
      · refine o_load1 rfl rfl rfl (key_at y (by omega)) ?_; exact hK z0
      · refine o_int rfl rfl rfl rfl (by first | exact i_lss_t (by omega) | exact i_lss_f (by omega) | exact i_lss_d | exact i_leq_t (by omega) | exact i_leq_f (by omega) | exact i_leq_d | exact i_gtr_t (by omega) | exact i_gtr_f (by omega) | exact i_gtr_d | exact i_geq_t (by omega) | exact i_geq_f (by omega) | exact i_geq_d | exact i_eql_t (by omega) | exact i_eql_f (by omega) | exact i_eql_d | exact i_neq_t (by omega) | exact i_neq_f (by omega) | exact i_neq_d | exact i_add (by omega) (by omega) | exact i_sub (by omega) (by omega) | exact i_mul (by omega) (by omega) | exact i_rem (by omega)) ?_; exact hK z0
    case loc_1 =>
      simp only [AllL, Nat.reduceAdd, and_true]
      refine ⟨?_, ?_, ?_, ?_, ?_, ?_, ?_, ?_, ?_⟩
      all_goals exact fun _ _ _ _ => ⟨rfl, rfl⟩
    intro c
    dsimp only [dstOf, kval, kfac, ancE,  ancF, getD_z, getD_s, List.getElem?_cons_zero, List.getElem?_cons_succ, List.getElem?_nil, Option.getD_some, Option.getD_none, List.nil_append, List.cons_append, List.drop_succ_cons, List.drop_zero, Option.getD]
    repeat (first | refine stp ?_ | (refine sti ?_; intro _) | refine stf ?_ | (refine stb ?_; intro _))
    refine W.cond rfl (fun hb => ?_) (fun hb => ?_)
    · have hb := of_decide_eq_true hb
      rw [if_pos (by omega)] at hd
      rw [if_pos (by omega)]
      repeat (first | refine stp ?_ | (refine sti ?_; intro _) | refine stf ?_ | (refine stb ?_; intro _))
      refine G.ret rfl (.cons (.tmp rfl) .nil) (Φ' := []) (M' := []) inferInstance (List.nil_sublist _) ⟨?_, rfl, rfl⟩
      simp [tup, hd]
    have hb := of_decide_eq_false hb
    rw [if_neg (by omega)] at hd
    repeat (first | refine stp ?_ | (refine sti ?_; intro _) | refine stf ?_ | (refine stb ?_; intro _))
    refine W.draw 9 [⟨?v0_2, fun _ z => []⟩, ⟨?v1_2, fun _ z => []⟩, ⟨?v2_2, fun _ z => []⟩, ⟨?v3_2, fun _ z => []⟩, ⟨?v4_2, fun _ z => []⟩, ⟨?v5_2, fun _ z => []⟩, ⟨?v6_2, fun _ z => []⟩, ⟨?v7_2, fun _ z => []⟩, ⟨?v8_2, fun _ z => []⟩] [[], [], [0, 1], [2], [], [], [4, 5], [6], [3, 7]] [8] (by kernel_rfl) (by kernel_rfl) (by kernel_rfl) (by kernel_rfl) ?loc_2 ?ops_2 ?rest_2
    case ops_2 =>
      simp only [AllQ, Nat.reduceAdd, and_true]
      refine ⟨?_, ?_, ?_, ?_, ?_, ?_, ?_, ?_, ?_⟩
      all_goals (intro c z0 Φr Lr K hK; dsimp only [dstOf, kval, kfac, ancE, ancF, getD_z, getD_s, List.getElem?_cons_zero, List.getElem?_cons_succ, List.getElem?_nil, Option.getD_some, Option.getD_none, List.nil_append, List.cons_append, Option.getD] at hK ⊢)
      · refine stp ?_; exact hK z0
      · refine stp ?_; exact hK z0
      · refine o_index rfl rfl rfl rfl (by omega) (by omega) (o' := i) (by omega) ?_; exact hK z0
      · refine o_load1 rfl rfl rfl (key_at x (by omega)) ?_; exact hK z0
      · refine stp ?_; exact hK z0
      · refine stp ?_; exact hK z0
      · refine o_index rfl rfl rfl rfl (by omega) (by omega) (o' := i) (by omega) ?_; exact hK z0
      · refine o_load1 rfl rfl rfl (key_at y (by omega)) ?_; exact hK z0
      · refine o_int rfl rfl rfl rfl (by first | exact i_lss_t (by omega) | exact i_lss_f (by omega) | exact i_lss_d | exact i_leq_t (by omega) | exact i_leq_f (by omega) | exact i_leq_d | exact i_gtr_t (by omega) | exact i_gtr_f (by omega) | exact i_gtr_d | exact i_geq_t (by omega) | exact i_geq_f (by omega) | exact i_geq_d | exact i_eql_t (by omega) | exact i_eql_f (by omega) | exact i_eql_d | exact i_neq_t (by omega) | exact i_neq_f (by omega) | exact i_neq_d | exact i_add (by omega) (by omega) | exact i_sub (by omega) (by omega) | exact i_mul (by omega) (by omega) | exact i_rem (by omega)) ?_; exact hK z0
    case loc_2 =>
      simp only [AllL, Nat.reduceAdd, and_true]
      refine ⟨?_, ?_, ?_, ?_, ?_, ?_, ?_, ?_, ?_⟩
      all_goals exact fun _ _ _ _ => ⟨rfl, rfl⟩
    intro c
    dsimp only [dstOf, kval, kfac, ancE,  ancF, getD_z, getD_s, List.getElem?_cons_zero, List.getElem?_cons_succ, List.getElem?_nil, Option.getD_some, Option.getD_none, List.nil_append, List.cons_append, List.drop_succ_cons, List.drop_zero, Option.getD]
    repeat (first | refine stp ?_ | (refine sti ?_; intro _) | refine stf ?_ | (refine stb ?_; intro _))
    refine W.cond rfl (fun hb => ?_) (fun hb => ?_)
    · have hb := of_decide_eq_true hb
      rw [if_pos (by omega)] at hd
      rw [if_pos (by omega)]
      repeat (first | refine stp ?_ | (refine sti ?_; intro _) | refine stf ?_ | (refine stb ?_; intro _))
      refine G.ret rfl (.cons (.tmp rfl) .nil) (Φ' := []) (M' := []) inferInstance (List.nil_sublist _) ⟨?_, rfl, rfl⟩
      simp [tup, hd]
    have hb := of_decide_eq_false hb
    rw [if_neg (by omega)] at hd
    repeat (first | refine stp ?_ | (refine sti ?_; intro _) | refine stf ?_ | (refine stb ?_; intro _))
    refine G.again (i + 1) (by omega) ⟨by omega, hd.symm⟩ inferInstance (look_sub_cons rfl (look_sub_cons rfl (look_sub_cons rfl look_sub_nil))) (List.Sublist.refl _)

theorem in_spec (v : Value) (xs : List Key) (hx : xs.length ≤ 4611686018427387904) (k : Key) : FnV Tryz.prog 51 [v, k.v] [fRp v xs] (.bool (decide (k ∈ xs))) := by
  refine Fn.enter Tryz.func51 rfl Tryz.ntmps51 (by simp) (fun I0 w0 => ?_)
  repeat (first | refine stp ?_ | (refine sti ?_; intro _) | refine stf ?_ | (refine stb ?_; intro _))
  refine W.loopI (fun (i : Nat) => ([fRp v xs], [(0, v), (3, _), (5, .int .i64 i)], _)) (fun i => i ≤ xs.length ∧ k ∉ xs.take i) (fun i => xs.length - i) 0 ⟨by omega, by simp⟩ inferInstance (look_sub_cons rfl (look_sub_cons rfl (look_sub_cons rfl look_sub_nil))) (List.Sublist.refl _) ?_
  intro i ⟨hi, hw⟩
  dsimp only
  by_cases hi0 : i = xs.length
  · subst hi0
    repeat (first | refine stp ?_ | (refine sti ?_; intro _) | refine stf ?_ | (refine stb ?_; intro _))
    refine G.ret rfl (.cons (.tmp rfl) .nil) (Φ' := []) (M' := []) inferInstance (List.nil_sublist _) ⟨?_, rfl, rfl⟩
    rw [List.take_length] at hw
    simp [tup, hw]
  · have hi1 : i < xs.length := by omega
    repeat (first | refine stp ?_ | (refine sti ?_; intro _) | refine stf ?_ | (refine stb ?_; intro _))
    refine W.draw 6 [⟨?v0_3, fun _ z => []⟩, ⟨?v1_3, fun _ z => []⟩, ⟨fun _ z => z, fun _ z => [fPt z xs[i]]⟩, ⟨?v3_3, fun _ z => []⟩, ⟨?v4_3, fun _ z => []⟩, ⟨?v5_3, fun _ z => []⟩] [[], [], [0, 1], [2], [], [3, 4]] [5] (by kernel_rfl) (by kernel_rfl) (by kernel_rfl) (by kernel_rfl) ?loc_3 ?ops_3 ?rest_3
    case ops_3 =>
      simp only [AllQ, Nat.reduceAdd, and_true]
      refine ⟨?_, ?_, ?_, ?_, ?_, ?_⟩
      all_goals (intro c z0 Φr Lr K hK; dsimp only [dstOf, kval, kfac, ancE, ancF, getD_z, getD_s, List.getElem?_cons_zero, List.getElem?_cons_succ, List.getElem?_nil, Option.getD_some, Option.getD_none, List.nil_append, List.cons_append, Option.getD] at hK ⊢)
      · refine stp ?_; exact hK z0
      · refine stp ?_; exact hK z0
      · refine o_idxN i rfl rfl rfl rfl rfl hi1 ?_; intro p; exact hK _
      · (first | refine stp ?_ | refine stf ?_); exact hK z0
      · refine o_loadT k rfl rfl rfl rfl k.le_all k.cells_all ?_; exact hK z0
      · refine stp ?_; exact hK z0
    case loc_3 =>
      simp only [AllL, Nat.reduceAdd, and_true]
      refine ⟨?_, ?_, ?_, ?_, ?_, ?_⟩
      all_goals (intro c c' z h; first | exact ⟨rfl, rfl⟩ | (skip))
    intro c
    dsimp only [dstOf, kval, kfac, ancE,  ancF, getD_z, getD_s, List.getElem?_cons_zero, List.getElem?_cons_succ, List.getElem?_nil, Option.getD_some, Option.getD_none, List.nil_append, List.cons_append, List.drop_succ_cons, List.drop_zero, Option.getD]
    repeat (first | refine stp ?_ | (refine sti ?_; intro _) | refine stf ?_ | (refine stb ?_; intro _))
    by_cases he : xs[i] = k
    · refine W.cond_true (congrArg (fun b => some (Value.bool b)) (decide_eq_true he)) ?_
      repeat (first | refine stp ?_ | (refine sti ?_; intro _) | refine stf ?_ | (refine stb ?_; intro _))
      refine G.ret rfl (.cons (.tmp rfl) .nil) (Φ' := []) (M' := []) inferInstance (List.nil_sublist _) ⟨?_, rfl, rfl⟩
      simp [tup, ← he]
    · refine W.cond_false (congrArg (fun b => some (Value.bool b)) (decide_eq_false he)) ?_
      repeat (first | refine stp ?_ | (refine sti ?_; intro _) | refine stf ?_ | (refine stb ?_; intro _))
      refine G.again (i + 1) (by omega) ⟨by omega, fun h => ((mem_take_succ hi1).1 h).elim hw he⟩ inferInstance (look_sub_cons rfl (look_sub_cons rfl (look_sub_cons rfl look_sub_nil))) (List.Sublist.refl _)
theorem may_spec (k : Key) : FnV Tryz.prog 76 [k.v] [] (.bool (mayK k)) := by
  refine Fn.enter Tryz.func76 rfl Tryz.ntmps76 (by simp) (fun I0 w0 => ?_)
  repeat (first | refine stp ?_ | (refine sti ?_; intro _) | refine stf ?_ | (refine stb ?_; intro _))
  cases hs : k.slot with
  | true =>
    refine o_load1 rfl rfl rfl ((key_slot k).trans (by rw [hs])) ?_
    repeat (first | refine stp ?_ | (refine sti ?_; intro _) | refine stf ?_ | (refine stb ?_; intro _))
    refine G.ret rfl (.cons (.tmp rfl) .nil) (Φ' := []) (M' := []) inferInstance (List.nil_sublist _) ⟨?_, rfl, rfl⟩
    simp [tup, mayK, hs]
  | false =>
    refine o_load1 rfl rfl rfl ((key_slot k).trans (by rw [hs])) ?_
    repeat (first | refine stp ?_ | (refine sti ?_; intro _) | refine stf ?_ | (refine stb ?_; intro _))
    refine o_eql (v := Word.zero.v) rfl rfl rfl rfl rfl ?_
    repeat (first | refine stp ?_ | (refine sti ?_; intro _) | refine stf ?_ | (refine stb ?_; intro _))
    refine G.ret rfl (.cons (.tmp rfl) .nil) (Φ' := []) (M' := []) inferInstance (List.nil_sublist _) ⟨?_, rfl, rfl⟩
    simp [tup, mayK, hs]
theorem same_spec (v u : Value) (xs ys : List Key) (hx : xs.length ≤ 4611686018427387904) (hy : ys.length ≤ 4611686018427387904) : FnV Tryz.prog 61 [v, u] [fRp v xs, fRp u ys] (.bool (decide (xs = ys))) := by
  refine Fn.enter Tryz.func61 rfl Tryz.ntmps61 (by simp) (fun I0 w0 => ?_)
  by_cases hl : xs.length = ys.length
  · repeat (first | refine stp ?_ | (refine sti ?_; intro _) | refine stf ?_ | (refine stb ?_; intro _))
    refine W.loopI (fun (i : Nat) => ([fRp v xs, fRp u ys], [(0, v), (1, u), (5, .int .i64 i)], _)) (fun i => i ≤ xs.length ∧ xs.take i = ys.take i) (fun i => xs.length - i) 0 ⟨by omega, by simp⟩ inferInstance (look_sub_cons rfl (look_sub_cons rfl (look_sub_cons rfl look_sub_nil))) (List.Sublist.refl _) ?_
    intro i ⟨hi, hw⟩
    dsimp only
    by_cases hi0 : i = xs.length
    · subst hi0
      repeat (first | refine stp ?_ | (refine sti ?_; intro _) | refine stf ?_ | (refine stb ?_; intro _))
      refine G.ret rfl (.cons (.tmp rfl) .nil) (Φ' := []) (M' := []) inferInstance (List.nil_sublist _) ⟨?_, rfl, rfl⟩
      rw [List.take_length, hl, List.take_length] at hw
      simp [tup, hw]
    · have hi1 : i < xs.length := by omega
      have hi2 : i < ys.length := by omega
      repeat (first | refine stp ?_ | (refine sti ?_; intro _) | refine stf ?_ | (refine stb ?_; intro _))
      refine W.draw 9 [⟨?v0_4, fun _ z => []⟩, ⟨?v1_4, fun _ z => []⟩, ⟨fun _ z => z, fun _ z => [fPt z xs[i]]⟩, ⟨?v3_4, fun _ z => []⟩, ⟨?v4_4, fun _ z => []⟩, ⟨?v5_4, fun _ z => []⟩, ⟨fun _ z => z, fun _ z => [fPt z ys[i]]⟩, ⟨?v7_4, fun _ z => []⟩, ⟨?v8_4, fun _ z => []⟩] [[], [], [0, 1], [2], [], [], [4, 5], [6], [3, 7]] [8] (by kernel_rfl) (by kernel_rfl) (by kernel_rfl) (by kernel_rfl) ?loc_4 ?ops_4 ?rest_4
      case ops_4 =>
        simp only [AllQ, Nat.reduceAdd, and_true]
        refine ⟨?_, ?_, ?_, ?_, ?_, ?_, ?_, ?_, ?_⟩
        all_goals (intro c z0 Φr Lr K hK; dsimp only [dstOf, kval, kfac, ancE, ancF, getD_z, getD_s, List.getElem?_cons_zero, List.getElem?_cons_succ, List.getElem?_nil, Option.getD_some, Option.getD_none, List.nil_append, List.cons_append, Option.getD] at hK ⊢)
        · refine stp ?_; exact hK z0
        · refine stp ?_; exact hK z0
        · refine o_idxN i rfl rfl rfl rfl rfl hi1 ?_; intro p; exact hK _
        iterate 3 ((first | refine stp ?_ | refine stf ?_); exact hK z0)
        · refine o_idxN i rfl rfl rfl rfl rfl hi2 ?_; intro p; exact hK _
        · (first | refine stp ?_ | refine stf ?_); exact hK z0
        · refine stp ?_; exact hK z0
      case loc_4 =>
        simp only [AllL, Nat.reduceAdd, and_true]
        refine ⟨?_, ?_, ?_, ?_, ?_, ?_, ?_, ?_, ?_⟩
        all_goals (intro c c' z h; first | exact ⟨rfl, rfl⟩ | (skip))
      intro c
      dsimp only [dstOf, kval, kfac, ancE,  ancF, getD_z, getD_s, List.getElem?_cons_zero, List.getElem?_cons_succ, List.getElem?_nil, Option.getD_some, Option.getD_none, List.nil_append, List.cons_append, List.drop_succ_cons, List.drop_zero, Option.getD]
      repeat (first | refine stp ?_ | (refine sti ?_; intro _) | refine stf ?_ | (refine stb ?_; intro _))
      by_cases he : xs[i] = ys[i]
      · refine W.cond_false (congrArg (fun b => some (Value.bool !b)) (decide_eq_true he)) ?_
        repeat (first | refine stp ?_ | (refine sti ?_; intro _) | refine stf ?_ | (refine stb ?_; intro _))
        refine G.again (i + 1) (by omega) ⟨by omega, by rw [List.take_succ_eq_append_getElem hi1, List.take_succ_eq_append_getElem hi2, hw, he]⟩ inferInstance (look_sub_cons rfl (look_sub_cons rfl (look_sub_cons rfl look_sub_nil))) (List.Sublist.refl _)
      · refine W.cond_true (congrArg (fun b => some (Value.bool !b)) (decide_eq_false he)) ?_
        repeat (first | refine stp ?_ | (refine sti ?_; intro _) | refine stf ?_ | (refine stb ?_; intro _))
        refine G.ret rfl (.cons (.tmp rfl) .nil) (Φ' := []) (M' := []) inferInstance (List.nil_sublist _) ⟨?_, rfl, rfl⟩
        have hne : xs ≠ ys := fun e => he (by subst e; rfl)
        simp [tup, hne]
  · have hne : xs ≠ ys := fun e => hl (by rw [e])
    repeat (first | refine stp ?_ | (refine sti ?_; intro _) | refine stf ?_ | (refine stb ?_; intro _))
    refine G.ret rfl (.cons (.tmp rfl) .nil) (Φ' := []) (M' := []) inferInstance (List.nil_sublist _) ⟨?_, rfl, rfl⟩
    simp [tup, hne]
theorem same2_spec (v u : Value) (s t : Sets) (h1 : s.reads.length ≤ 4611686018427387904 ∧ s.writes.length ≤ 4611686018427387904) (h2 : t.reads.length ≤ 4611686018427387904 ∧ t.writes.length ≤ 4611686018427387904) : FnV Tryz.prog 37 [v, u] [fRp v s, fRp u t] (.bool (decide (s.reads = t.reads ∧ s.writes = t.writes))) := by
  refine Fn.enter Tryz.func37 rfl Tryz.ntmps37 (by simp) (fun I0 w0 => ?_)
  refine W.bare (G.sets v s ?_)
  intro r w hv
  refine G.sets u t ?_
  intro r' w' hu
  subst hv hu
  by_cases hr : s.reads = t.reads
  · repeat (first | refine stp ?_ | (refine sti ?_; intro _) | refine stf ?_ | (refine stb ?_; intro _))
    refine o_callV rfl rfl rfl rfl (same_spec r r' s.reads t.reads h1.1 h2.1) (congrArg Value.bool (decide_eq_true hr)) ?_
    repeat (first | refine stp ?_ | (refine sti ?_; intro _) | refine stf ?_ | (refine stb ?_; intro _))
    refine o_callV rfl rfl rfl rfl (same_spec w w' s.writes t.writes h1.2 h2.2) rfl ?_
    repeat (first | refine stp ?_ | (refine sti ?_; intro _) | refine stf ?_ | (refine stb ?_; intro _))
    refine G.ret rfl (.cons (.tmp rfl) .nil) (Φ' := []) (M' := []) inferInstance (List.nil_sublist _) ⟨?_, rfl, rfl⟩
    simp [tup, hr]
  · repeat (first | refine stp ?_ | (refine sti ?_; intro _) | refine stf ?_ | (refine stb ?_; intro _))
    refine o_callV rfl rfl rfl rfl (same_spec r r' s.reads t.reads h1.1 h2.1) (congrArg Value.bool (decide_eq_false hr)) ?_
    repeat (first | refine stp ?_ | (refine sti ?_; intro _) | refine stf ?_ | (refine stb ?_; intro _))
    refine G.ret rfl (.cons (.tmp rfl) .nil) (Φ' := []) (M' := []) inferInstance (List.nil_sublist _) ⟨?_, rfl, rfl⟩
    simp [tup, hr]

theorem right_spec (v : Value) (xs : List Key) (hx : xs.length ≤ 4611686018427387904) : FnV Tryz.prog 79 [v] [fRp v xs] (.bool (rightB xs)) := by
  refine Fn.enter Tryz.func79 rfl Tryz.ntmps79 (by simp) (fun I0 w0 => ?_)
  repeat (first | refine stp ?_ | (refine sti ?_; intro _) | refine stf ?_ | (refine stb ?_; intro _))
  refine W.loopI (fun (i : Nat) => ([fRp v xs], [(0, v), (3, .int .i64 i)], _)) (fun i => i ≤ xs.length ∧ (∀ k ∈ xs.take i, mayK k = true) ∧ (xs.take i).Pairwise ltK) (fun i => xs.length - i) 0 ⟨by omega, by simp, by simp⟩ inferInstance (look_sub_cons rfl (look_sub_cons rfl look_sub_nil)) (List.Sublist.refl _) ?_
  intro i ⟨hi, hm, hw⟩
  dsimp only
  by_cases hi0 : i = xs.length
  · subst hi0
    rw [List.take_length] at hm hw
    repeat (first | refine stp ?_ | (refine sti ?_; intro _) | refine stf ?_ | (refine stb ?_; intro _))
    refine G.ret rfl (.cons (.tmp rfl) .nil) (Φ' := []) (M' := []) inferInstance (List.nil_sublist _) ⟨?_, rfl, rfl⟩
    exact congrArg Value.bool (decide_eq_decide.2 ⟨fun h => ⟨hm, hw, by omega⟩, fun h => by omega⟩)
  · have hi1 : i < xs.length := by omega
    repeat (first | refine stp ?_ | (refine sti ?_; intro _) | refine stf ?_ | (refine stb ?_; intro _))
    by_cases hmk : mayK xs[i] = true
    · by_cases hp : 0 < i
      · have hi2 : i - 1 < xs.length := by omega
        by_cases ho : ltK xs[i - 1] xs[i]
        · have ho' : cmpK xs[i - 1] xs[i] < 0 := ho
          refine W.draw 23 [⟨?v0_5, fun _ z => []⟩, ⟨?v1_5, fun _ z => []⟩, ⟨fun _ z => z, fun _ z => [fPt z xs[i]]⟩, ⟨?v3_5, fun _ z => []⟩, ⟨?v4_5, fun _ z => []⟩, ⟨?v5_5, fun _ z => []⟩, ⟨?v6_5, fun _ z => []⟩, ⟨?v7_5, fun _ z => []⟩, ⟨?v8_5, fun _ z => []⟩, ⟨?v9_5, fun _ z => []⟩, ⟨?v10_5, fun _ z => []⟩, ⟨?v11_5, fun _ z => []⟩, ⟨?v12_5, fun _ z => []⟩, ⟨fun _ z => z, fun _ z => [fPt z xs[i - 1]]⟩, ⟨?v14_5, fun _ z => []⟩, ⟨?v15_5, fun _ z => []⟩, ⟨?v16_5, fun _ z => []⟩, ⟨fun _ z => z, fun _ z => [fPt z xs[i]]⟩, ⟨?v18_5, fun _ z => []⟩, ⟨?v19_5, fun _ z => []⟩, ⟨?v20_5, fun _ z => []⟩, ⟨?v21_5, fun _ z => []⟩, ⟨?v22_5, fun _ z => []⟩] [[], [], [0, 1], [2], [3], [4], [5], [6], [6, 7], [6, 8], [9], [9], [9, 11], [9, 10, 12], [9, 13], [9], [9], [9, 15, 16], [9, 17], [9, 14, 18], [9, 19], [6, 9, 20], [6, 21]] [22] (by kernel_rfl) (by kernel_rfl) (by kernel_rfl) (by kernel_rfl) ?loc_5 ?ops_5 ?rest_5
          case ops_5 =>
            simp only [AllQ, Nat.reduceAdd, and_true]
            refine ⟨?_, ?_, ?_, ?_, ?_, ?_, ?_, ?_, ?_, ?_, ?_, ?_, ?_, ?_, ?_, ?_, ?_, ?_, ?_, ?_, ?_, ?_, ?_⟩
            all_goals (intro c z0 Φr Lr K hK; dsimp only [dstOf, kval, kfac, ancE, ancF, getD_z, getD_s, List.getElem?_cons_zero, List.getElem?_cons_succ, List.getElem?_nil, Option.getD_some, Option.getD_none, List.nil_append, List.cons_append, Option.getD] at hK ⊢)
            · refine stp ?_; exact hK z0
            · refine stp ?_; exact hK z0
            · refine o_idxN i rfl rfl rfl rfl rfl hi1 ?_; intro p; exact hK _
            · (first | refine stp ?_ | refine stf ?_); exact hK z0
            · refine o_callV rfl rfl rfl rfl (may_spec _) (congrArg Value.bool hmk) ?_; exact hK z0
            iterate 8 (refine stp ?_; exact hK z0)
            · refine o_idxN (i - 1) rfl rfl rfl rfl (by omega) hi2 ?_; intro p; exact hK _
            iterate 3 ((first | refine stp ?_ | refine stf ?_); exact hK z0)
            · refine o_idxN i rfl rfl rfl rfl rfl hi1 ?_; intro p; exact hK _
            · (first | refine stp ?_ | refine stf ?_); exact hK z0
            · refine o_callV rfl rfl rfl rfl (order_spec _ _) rfl ?_; exact hK z0
            iterate 3 (refine stp ?_; exact hK z0)
          case loc_5 =>
            simp only [AllL, Nat.reduceAdd, and_true]
            refine ⟨?_, ?_, ?_, ?_, ?_, ?_, ?_, ?_, ?_, ?_, ?_, ?_, ?_, ?_, ?_, ?_, ?_, ?_, ?_, ?_, ?_, ?_, ?_⟩
            all_goals (intro c c' z h; first | exact ⟨rfl, rfl⟩ | (skip))
          intro c
          dsimp only [dstOf, kval, kfac, ancE,  ancF, getD_z, getD_s, List.getElem?_cons_zero, List.getElem?_cons_succ, List.getElem?_nil, Option.getD_some, Option.getD_none, List.nil_append, List.cons_append, List.drop_succ_cons, List.drop_zero, Option.getD]
          repeat (first | refine stp ?_ | (refine sti ?_; intro _) | refine stf ?_ | (refine stb ?_; intro _))
          refine G.again (i + 1) (by omega) ⟨by omega, fun k hk => ((mem_take_succ hi1).1 hk).elim (hm k) (fun e => e ▸ hmk), asc_succ hi1 hw (fun _ => ho)⟩ inferInstance (look_sub_cons rfl (look_sub_cons rfl look_sub_nil)) (List.Sublist.refl _)
        · have ho' : ¬ cmpK xs[i - 1] xs[i] < 0 := ho
          refine W.draw 23 [⟨?v0_6, fun _ z => []⟩, ⟨?v1_6, fun _ z => []⟩, ⟨fun _ z => z, fun _ z => [fPt z xs[i]]⟩, ⟨?v3_6, fun _ z => []⟩, ⟨?v4_6, fun _ z => []⟩, ⟨?v5_6, fun _ z => []⟩, ⟨?v6_6, fun _ z => []⟩, ⟨?v7_6, fun _ z => []⟩, ⟨?v8_6, fun _ z => []⟩, ⟨?v9_6, fun _ z => []⟩, ⟨?v10_6, fun _ z => []⟩, ⟨?v11_6, fun _ z => []⟩, ⟨?v12_6, fun _ z => []⟩, ⟨fun _ z => z, fun _ z => [fPt z xs[i - 1]]⟩, ⟨?v14_6, fun _ z => []⟩, ⟨?v15_6, fun _ z => []⟩, ⟨?v16_6, fun _ z => []⟩, ⟨fun _ z => z, fun _ z => [fPt z xs[i]]⟩, ⟨?v18_6, fun _ z => []⟩, ⟨?v19_6, fun _ z => []⟩, ⟨?v20_6, fun _ z => []⟩, ⟨?v21_6, fun _ z => []⟩, ⟨?v22_6, fun _ z => []⟩] [[], [], [0, 1], [2], [3], [4], [5], [6], [6, 7], [6, 8], [9], [9], [9, 11], [9, 10, 12], [9, 13], [9], [9], [9, 15, 16], [9, 17], [9, 14, 18], [9, 19], [6, 9, 20], [6, 21]] [22] (by kernel_rfl) (by kernel_rfl) (by kernel_rfl) (by kernel_rfl) ?loc_6 ?ops_6 ?rest_6
          case ops_6 =>
            simp only [AllQ, Nat.reduceAdd, and_true]
            refine ⟨?_, ?_, ?_, ?_, ?_, ?_, ?_, ?_, ?_, ?_, ?_, ?_, ?_, ?_, ?_, ?_, ?_, ?_, ?_, ?_, ?_, ?_, ?_⟩
            all_goals (intro c z0 Φr Lr K hK; dsimp only [dstOf, kval, kfac, ancE, ancF, getD_z, getD_s, List.getElem?_cons_zero, List.getElem?_cons_succ, List.getElem?_nil, Option.getD_some, Option.getD_none, List.nil_append, List.cons_append, Option.getD] at hK ⊢)
            · refine stp ?_; exact hK z0
            · refine stp ?_; exact hK z0
            · refine o_idxN i rfl rfl rfl rfl rfl hi1 ?_; intro p; exact hK _
            · (first | refine stp ?_ | refine stf ?_); exact hK z0
            · refine o_callV rfl rfl rfl rfl (may_spec _) (congrArg Value.bool hmk) ?_; exact hK z0
            iterate 8 (refine stp ?_; exact hK z0)
            · refine o_idxN (i - 1) rfl rfl rfl rfl (by omega) hi2 ?_; intro p; exact hK _
            iterate 3 ((first | refine stp ?_ | refine stf ?_); exact hK z0)
            · refine o_idxN i rfl rfl rfl rfl rfl hi1 ?_; intro p; exact hK _
            · (first | refine stp ?_ | refine stf ?_); exact hK z0
            · refine o_callV rfl rfl rfl rfl (order_spec _ _) rfl ?_; exact hK z0
            iterate 3 (refine stp ?_; exact hK z0)
          case loc_6 =>
            simp only [AllL, Nat.reduceAdd, and_true]
            refine ⟨?_, ?_, ?_, ?_, ?_, ?_, ?_, ?_, ?_, ?_, ?_, ?_, ?_, ?_, ?_, ?_, ?_, ?_, ?_, ?_, ?_, ?_, ?_⟩
            all_goals (intro c c' z h; first | exact ⟨rfl, rfl⟩ | (skip))
          intro c
          dsimp only [dstOf, kval, kfac, ancE,  ancF, getD_z, getD_s, List.getElem?_cons_zero, List.getElem?_cons_succ, List.getElem?_nil, Option.getD_some, Option.getD_none, List.nil_append, List.cons_append, List.drop_succ_cons, List.drop_zero, Option.getD]
          repeat (first | refine stp ?_ | (refine sti ?_; intro _) | refine stf ?_ | (refine stb ?_; intro _))
          refine G.ret rfl (.cons (.tmp rfl) .nil) (Φ' := []) (M' := []) inferInstance (List.nil_sublist _) ⟨?_, rfl, rfl⟩
          refine congrArg Value.bool (decide_eq_false fun h => ho (asc_at h.2.1 hi1 hp)).symm
      · have hi2 : i < xs.length := hi1
        refine W.draw 23 [⟨?v0_7, fun _ z => []⟩, ⟨?v1_7, fun _ z => []⟩, ⟨fun _ z => z, fun _ z => [fPt z xs[i]]⟩, ⟨?v3_7, fun _ z => []⟩, ⟨?v4_7, fun _ z => []⟩, ⟨?v5_7, fun _ z => []⟩, ⟨?v6_7, fun _ z => []⟩, ⟨?v7_7, fun _ z => []⟩, ⟨?v8_7, fun _ z => []⟩, ⟨?v9_7, fun _ z => []⟩, ⟨?v10_7, fun _ z => []⟩, ⟨?v11_7, fun _ z => []⟩, ⟨?v12_7, fun _ z => []⟩, ⟨?v13_7, fun _ z => []⟩, ⟨?v14_7, fun _ z => []⟩, ⟨?v15_7, fun _ z => []⟩, ⟨?v16_7, fun _ z => []⟩, ⟨?v17_7, fun _ z => []⟩, ⟨?v18_7, fun _ z => []⟩, ⟨?v19_7, fun _ z => []⟩, ⟨?v20_7, fun _ z => []⟩, ⟨?v21_7, fun _ z => []⟩, ⟨?v22_7, fun _ z => []⟩] [[], [], [0, 1], [2], [3], [4], [5], [6], [6, 7], [6, 8], [9], [9], [9, 11], [9, 10, 12], [9, 13], [9], [9], [9, 15, 16], [9, 17], [9, 14, 18], [9, 19], [6, 9, 20], [6, 21]] [22] (by kernel_rfl) (by kernel_rfl) (by kernel_rfl) (by kernel_rfl) ?loc_7 ?ops_7 ?rest_7
        case ops_7 =>
          simp only [AllQ, Nat.reduceAdd, and_true]
          refine ⟨?_, ?_, ?_, ?_, ?_, ?_, ?_, ?_, ?_, ?_, ?_, ?_, ?_, ?_, ?_, ?_, ?_, ?_, ?_, ?_, ?_, ?_, ?_⟩
          all_goals (intro c z0 Φr Lr K hK; dsimp only [dstOf, kval, kfac, ancE, ancF, getD_z, getD_s, List.getElem?_cons_zero, List.getElem?_cons_succ, List.getElem?_nil, Option.getD_some, Option.getD_none, List.nil_append, List.cons_append, Option.getD] at hK ⊢)
          · refine stp ?_; exact hK z0
          · refine stp ?_; exact hK z0
          · refine o_idxN i rfl rfl rfl rfl rfl hi1 ?_; intro p; exact hK _
          · (first | refine stp ?_ | refine stf ?_); exact hK z0
          · refine o_callV rfl rfl rfl rfl (may_spec _) (congrArg Value.bool hmk) ?_; exact hK z0
          iterate 18 ((first | refine stp ?_ | refine stf ?_); exact hK z0)
        case loc_7 =>
          simp only [AllL, Nat.reduceAdd, and_true]
          refine ⟨?_, ?_, ?_, ?_, ?_, ?_, ?_, ?_, ?_, ?_, ?_, ?_, ?_, ?_, ?_, ?_, ?_, ?_, ?_, ?_, ?_, ?_, ?_⟩
          all_goals (intro c c' z h; first | exact ⟨rfl, rfl⟩ | (skip))
        intro c
        dsimp only [dstOf, kval, kfac, ancE,  ancF, getD_z, getD_s, List.getElem?_cons_zero, List.getElem?_cons_succ, List.getElem?_nil, Option.getD_some, Option.getD_none, List.nil_append, List.cons_append, List.drop_succ_cons, List.drop_zero, Option.getD]
        repeat (first | refine stp ?_ | (refine sti ?_; intro _) | refine stf ?_ | (refine stb ?_; intro _))
        refine G.again (i + 1) (by omega) ⟨by omega, fun k hk => ((mem_take_succ hi1).1 hk).elim (hm k) (fun e => e ▸ hmk), asc_succ hi1 hw (fun h => absurd h hp)⟩ inferInstance (look_sub_cons rfl (look_sub_cons rfl look_sub_nil)) (List.Sublist.refl _)
    · have hmk : mayK xs[i] = false := by simpa using hmk
      refine W.draw 23 [⟨?v0_8, fun _ z => []⟩, ⟨?v1_8, fun _ z => []⟩, ⟨fun _ z => z, fun _ z => [fPt z xs[i]]⟩, ⟨?v3_8, fun _ z => []⟩, ⟨?v4_8, fun _ z => []⟩, ⟨?v5_8, fun _ z => []⟩, ⟨?v6_8, fun _ z => []⟩, ⟨?v7_8, fun _ z => []⟩, ⟨?v8_8, fun _ z => []⟩, ⟨?v9_8, fun _ z => []⟩, ⟨?v10_8, fun _ z => []⟩, ⟨?v11_8, fun _ z => []⟩, ⟨?v12_8, fun _ z => []⟩, ⟨?v13_8, fun _ z => []⟩, ⟨?v14_8, fun _ z => []⟩, ⟨?v15_8, fun _ z => []⟩, ⟨?v16_8, fun _ z => []⟩, ⟨?v17_8, fun _ z => []⟩, ⟨?v18_8, fun _ z => []⟩, ⟨?v19_8, fun _ z => []⟩, ⟨?v20_8, fun _ z => []⟩, ⟨?v21_8, fun _ z => []⟩, ⟨?v22_8, fun _ z => []⟩] [[], [], [0, 1], [2], [3], [4], [5], [6], [6, 7], [6, 8], [9], [9], [9, 11], [9, 10, 12], [9, 13], [9], [9], [9, 15, 16], [9, 17], [9, 14, 18], [9, 19], [6, 9, 20], [6, 21]] [22] (by kernel_rfl) (by kernel_rfl) (by kernel_rfl) (by kernel_rfl) ?loc_8 ?ops_8 ?rest_8
      case ops_8 =>
        simp only [AllQ, Nat.reduceAdd, and_true]
        refine ⟨?_, ?_, ?_, ?_, ?_, ?_, ?_, ?_, ?_, ?_, ?_, ?_, ?_, ?_, ?_, ?_, ?_, ?_, ?_, ?_, ?_, ?_, ?_⟩
        all_goals (intro c z0 Φr Lr K hK; dsimp only [dstOf, kval, kfac, ancE, ancF, getD_z, getD_s, List.getElem?_cons_zero, List.getElem?_cons_succ, List.getElem?_nil, Option.getD_some, Option.getD_none, List.nil_append, List.cons_append, Option.getD] at hK ⊢)
        · refine stp ?_; exact hK z0
        · refine stp ?_; exact hK z0
        · refine o_idxN i rfl rfl rfl rfl rfl hi1 ?_; intro p; exact hK _
        · (first | refine stp ?_ | refine stf ?_); exact hK z0
        · refine o_callV rfl rfl rfl rfl (may_spec _) (congrArg Value.bool hmk) ?_; exact hK z0
        iterate 18 ((first | refine stp ?_ | refine stf ?_); exact hK z0)
      case loc_8 =>
        simp only [AllL, Nat.reduceAdd, and_true]
        refine ⟨?_, ?_, ?_, ?_, ?_, ?_, ?_, ?_, ?_, ?_, ?_, ?_, ?_, ?_, ?_, ?_, ?_, ?_, ?_, ?_, ?_, ?_, ?_⟩
        all_goals (intro c c' z h; first | exact ⟨rfl, rfl⟩ | (skip))
      intro c
      dsimp only [dstOf, kval, kfac, ancE,  ancF, getD_z, getD_s, List.getElem?_cons_zero, List.getElem?_cons_succ, List.getElem?_nil, Option.getD_some, Option.getD_none, List.nil_append, List.cons_append, List.drop_succ_cons, List.drop_zero, Option.getD]
      repeat (first | refine stp ?_ | (refine sti ?_; intro _) | refine stf ?_ | (refine stb ?_; intro _))
      refine G.ret rfl (.cons (.tmp rfl) .nil) (Φ' := []) (M' := []) inferInstance (List.nil_sublist _) ⟨?_, rfl, rfl⟩
      refine congrArg Value.bool (decide_eq_false fun h => ?_).symm
      have := h.1 xs[i] (List.getElem_mem hi1)
      rw [hmk] at this; cases this
end Go.Rail
