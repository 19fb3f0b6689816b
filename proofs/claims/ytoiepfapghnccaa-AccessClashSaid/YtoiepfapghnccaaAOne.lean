/- Raw numbers, words, addresses and keys: what the document's functions make of them. -/
import Derived.Test.YtoiepfapghnccaaAEq
import Derived.Test.YtoiepfapghnccaaRailB
namespace Go.Rail
open Go Go.Proofs
set_option linter.unusedSimpArgs false
set_option linter.unusedVariables false
set_option maxHeartbeats 400000
set_option maxRecDepth 4000
attribute [local irreducible] OpK G W LW wpListIn Exit.then Exit.inBlock Post rounds opRun bodyPostM intOp


attribute [local irreducible] u8 u64
theorem pick10_spec (c n : Int) (h1 : -9223372036854775808 ≤ c) (hn : 0 < n) : FnV Try.prog 16 [.int .i64 c, .int .i64 n] [] (.int .i64 (pickI c n)) := by
  refine Fn.enter Try.func16 rfl Try.ntmps16 (by simp) (fun I0 w0 => ?_)
  unfold pickI
  by_cases hc : c < 0
  all_goals
    repeat (first | refine stp ?_ | (refine k_indexAddr ?_; first | (refine o_ixA _ rfl rfl rfl rfl rfl (h := ?_); intro _) | (refine o_ixB rfl rfl rfl rfl (h := ?_); intro _)) | (refine k_load ?_; refine o_loadF rfl rfl rfl rfl ?_) | (refine stb ?_; intro _))
    refine G.ret rfl (.cons (.tmp rfl) .nil) (Φ' := []) (M' := []) inferInstance (List.nil_sublist _) ⟨?_, rfl, rfl⟩
    simp [tup, hc]
theorem pick08_spec (c n : Int) (h1 : -9223372036854775808 ≤ c) (hn : 0 < n) : FnV Try.prog 106 [.int .i64 c, .int .i64 n] [] (.int .i64 (pickI c n)) := by
  refine Fn.enter Try.func106 rfl Try.ntmps106 (by simp) (fun I0 w0 => ?_)
  unfold pickI
  by_cases hc : c < 0
  all_goals
    repeat (first | refine stp ?_ | (refine k_indexAddr ?_; first | (refine o_ixA _ rfl rfl rfl rfl rfl (h := ?_); intro _) | (refine o_ixB rfl rfl rfl rfl (h := ?_); intro _)) | (refine k_load ?_; refine o_loadF rfl rfl rfl rfl ?_) | (refine stb ?_; intro _))
    refine G.ret rfl (.cons (.tmp rfl) .nil) (Φ' := []) (M' := []) inferInstance (List.nil_sublist _) ⟨?_, rfl, rfl⟩
    simp [tup, hc]
attribute [local irreducible] pickI
theorem of_spec (n : Int) : FnV Try.prog 17 [.int .i64 n] [] (Word.of n).v := by
  refine Fn.enter Try.func17 rfl Try.ntmps17 (by simp) (fun I0 w0 => ?_)
  by_cases hc : n < 0
  · repeat (first | refine stp ?_ | (refine k_indexAddr ?_; first | (refine o_ixA _ rfl rfl rfl rfl rfl (h := ?_); intro _) | (refine o_ixB rfl rfl rfl rfl (h := ?_); intro _)) | (refine k_load ?_; refine o_loadF rfl rfl rfl rfl ?_) | (refine stb ?_; intro _))
    refine W.loopN 4 ?_
    repeat (first | refine stp ?_ | (refine k_indexAddr ?_; first | (refine o_ixA _ rfl rfl rfl rfl rfl (h := ?_); intro _) | (refine o_ixB rfl rfl rfl rfl (h := ?_); intro _)) | (refine k_load ?_; refine o_loadF rfl rfl rfl rfl ?_) | (refine stb ?_; intro _))
    refine G.ret rfl (.cons (.cellA rfl rfl) .nil) (Φ' := []) (M' := []) inferInstance (List.nil_sublist _) ⟨?_, rfl, rfl⟩
    simp [tup, Word.of, hc, Word.v, Word.cells, cellsL]
  · repeat (first | refine stp ?_ | (refine k_indexAddr ?_; first | (refine o_ixA _ rfl rfl rfl rfl rfl (h := ?_); intro _) | (refine o_ixB rfl rfl rfl rfl (h := ?_); intro _)) | (refine k_load ?_; refine o_loadF rfl rfl rfl rfl ?_) | (refine stb ?_; intro _))
    refine G.ret rfl (.cons (.cellA rfl rfl) .nil) (Φ' := []) (M' := []) inferInstance (List.nil_sublist _) ⟨?_, rfl, rfl⟩
    simp [tup, Word.of, hc, Word.v, Word.cells, cellsL]
theorem addr_spec (n : Int) (h1 : -9223372036854775808 ≤ n) : FnV Try.prog 75 [.int .i64 n] [] (Addr20.of n).v := by
  refine Fn.enter Try.func75 rfl Try.ntmps75 (by simp) (fun I0 w0 => ?_)
  have hp := pickI_nn n 9 (by omega)
  by_cases hc : 5 < pickI n 9
  all_goals
    repeat (first | refine stp ?_ | (refine k_indexAddr ?_; first | (refine o_ixA _ rfl rfl rfl rfl rfl (h := ?_); intro _) | (refine o_ixB rfl rfl rfl rfl (h := ?_); intro _)) | (refine k_load ?_; refine o_loadF rfl rfl rfl rfl ?_) | (refine stb ?_; intro _))
    refine o_callV rfl rfl rfl rfl (pick08_spec n 9 h1 (by omega)) rfl ?_
    repeat (first | refine stp ?_ | (refine k_indexAddr ?_; first | (refine o_ixA _ rfl rfl rfl rfl rfl (h := ?_); intro _) | (refine o_ixB rfl rfl rfl rfl (h := ?_); intro _)) | (refine k_load ?_; refine o_loadF rfl rfl rfl rfl ?_) | (refine stb ?_; intro _))
    refine G.ret rfl (.cons (.cellA rfl rfl) .nil) (Φ' := []) (M' := []) inferInstance (List.nil_sublist _) ⟨?_, rfl, rfl⟩
    simp [tup, Addr20.of, hc, Addr20.v, Addr20.cells]
theorem key_spec (a b : Int) (h1 : -9223372036854775808 ≤ a) (h2 : -9223372036854775808 ≤ b) : FnV Try.prog 32 [.int .i64 a, .int .i64 b] [] (Key.of a b).v := by
  refine Fn.enter Try.func32 rfl Try.ntmps32 (by simp) (fun I0 w0 => ?_)
  have hp := pickI_nn b 5 (by omega)
  by_cases hc : pickI b 5 = 0
  · repeat (first | refine stp ?_ | (refine k_indexAddr ?_; first | (refine o_ixA _ rfl rfl rfl rfl rfl (h := ?_); intro _) | (refine o_ixB rfl rfl rfl rfl (h := ?_); intro _)) | (refine k_load ?_; refine o_loadF rfl rfl rfl rfl ?_) | (refine stb ?_; intro _))
    refine o_callV rfl rfl rfl rfl (pick10_spec b 5 h2 (by omega)) rfl ?_
    repeat (first | refine stp ?_ | (refine k_indexAddr ?_; first | (refine o_ixA _ rfl rfl rfl rfl rfl (h := ?_); intro _) | (refine o_ixB rfl rfl rfl rfl (h := ?_); intro _)) | (refine k_load ?_; refine o_loadF rfl rfl rfl rfl ?_) | (refine stb ?_; intro _))
    refine o_callV rfl rfl rfl rfl (addr_spec a h1) rfl ?_
    repeat (first | refine stp ?_ | (refine k_indexAddr ?_; first | (refine o_ixA _ rfl rfl rfl rfl rfl (h := ?_); intro _) | (refine o_ixB rfl rfl rfl rfl (h := ?_); intro _)) | (refine k_load ?_; refine o_loadF rfl rfl rfl rfl ?_) | (refine stb ?_; intro _))
    refine G.ret rfl (.cons (.cellA rfl rfl) .nil) (Φ' := []) (M' := []) inferInstance (List.nil_sublist _) ⟨?_, rfl, rfl⟩
    simp [tup, Key.of, hc, Key.v, Key.cells, Word.cells, Word.zero]
    rfl
  · repeat (first | refine stp ?_ | (refine k_indexAddr ?_; first | (refine o_ixA _ rfl rfl rfl rfl rfl (h := ?_); intro _) | (refine o_ixB rfl rfl rfl rfl (h := ?_); intro _)) | (refine k_load ?_; refine o_loadF rfl rfl rfl rfl ?_) | (refine stb ?_; intro _))
    refine o_callV rfl rfl rfl rfl (pick10_spec b 5 h2 (by omega)) rfl ?_
    repeat (first | refine stp ?_ | (refine k_indexAddr ?_; first | (refine o_ixA _ rfl rfl rfl rfl rfl (h := ?_); intro _) | (refine o_ixB rfl rfl rfl rfl (h := ?_); intro _)) | (refine k_load ?_; refine o_loadF rfl rfl rfl rfl ?_) | (refine stb ?_; intro _))
    refine o_callV rfl rfl rfl rfl (addr_spec a h1) rfl ?_
    repeat (first | refine stp ?_ | (refine k_indexAddr ?_; first | (refine o_ixA _ rfl rfl rfl rfl rfl (h := ?_); intro _) | (refine o_ixB rfl rfl rfl rfl (h := ?_); intro _)) | (refine k_load ?_; refine o_loadF rfl rfl rfl rfl ?_) | (refine stb ?_; intro _))
    refine o_callV rfl rfl rfl rfl (of_spec _) rfl ?_
    repeat (first | refine stp ?_ | (refine k_indexAddr ?_; first | (refine o_ixA _ rfl rfl rfl rfl rfl (h := ?_); intro _) | (refine o_ixB rfl rfl rfl rfl (h := ?_); intro _)) | (refine k_load ?_; refine o_loadF rfl rfl rfl rfl ?_) | (refine stb ?_; intro _))
    refine G.ret rfl (.cons (.cellA rfl rfl) .nil) (Φ' := []) (M' := []) inferInstance (List.nil_sublist _) ⟨?_, rfl, rfl⟩
    rw [show Key.of a b = ⟨Addr20.of a, true, Word.of (pickI b 5 - 1)⟩ from if_neg hc]
    rfl
theorem word_at (w : Word) {i : Nat} (h : i < 4) : w.cells[i]? = some (.int .u64 (w.parts.getD i 0).toNat) := by
  match i, h with
  | 0, _ => rfl
  | 1, _ => rfl
  | 2, _ => rfl
  | 3, _ => rfl
theorem cmpW_drop (x y : Word) (i : Nat) (h : i < 4) : lexN (x.code.drop (3 - i)) (y.code.drop (3 - i)) = if (x.parts.getD i 0).toNat < (y.parts.getD i 0).toNat then -1 else if (y.parts.getD i 0).toNat < (x.parts.getD i 0).toNat then 1 else lexN (x.code.drop (3 - i + 1)) (y.code.drop (3 - i + 1)) := by
  match i, h with
  | 0, _ => rfl
  | 1, _ => rfl
  | 2, _ => rfl
  | 3, _ => rfl
theorem cmp_spec (x y : Word) : FnV Try.prog 58 [x.v, y.v] [] (.int .i64 (cmpW x y)) := by
  refine Fn.enter Try.func58 rfl Try.ntmps58 (by simp) (fun I0 w0 => ?_)
  repeat (first | refine stp ?_ | (refine k_indexAddr ?_; first | (refine o_ixA _ rfl rfl rfl rfl rfl (h := ?_); intro _) | (refine o_ixB rfl rfl rfl rfl (h := ?_); intro _)) | (refine k_load ?_; refine o_loadF rfl rfl rfl rfl ?_) | (refine stb ?_; intro _))
  refine W.loopI (fun (i : Nat) => ([], [(2, _), (3, _), (5, .int .i64 ((i : Int) - 1))], _)) (fun i => i ≤ 4 ∧ lexN (x.code.drop (4 - i)) (y.code.drop (4 - i)) = cmpW x y) (fun i => i) 4 ⟨by omega, rfl⟩ inferInstance (look_sub_cons rfl (look_sub_cons rfl (look_sub_cons rfl look_sub_nil))) (List.Sublist.refl _) ?_
  intro i ⟨hi, hw⟩
  dsimp only
  by_cases hi0 : i = 0
  · subst hi0
    repeat (first | refine stp ?_ | (refine k_indexAddr ?_; first | (refine o_ixA _ rfl rfl rfl rfl rfl (h := ?_); intro _) | (refine o_ixB rfl rfl rfl rfl (h := ?_); intro _)) | (refine k_load ?_; refine o_loadF rfl rfl rfl rfl ?_) | (refine stb ?_; intro _))
    refine G.ret rfl (.cons (.tmp rfl) .nil) (Φ' := []) (M' := []) inferInstance (List.nil_sublist _) ⟨?_, rfl, rfl⟩
    have hw : 0 = cmpW x y := hw
    simp [tup, ← hw]
  · have hd := cmpW_drop x y (i - 1) (by omega)
    rw [show 3 - (i - 1) = 4 - i from by omega, show 4 - i + 1 = 4 - (i - 1) from by omega, hw] at hd
    repeat (first | refine stp ?_ | (refine k_indexAddr ?_; first | (refine o_ixA _ rfl rfl rfl rfl rfl (h := ?_); intro _) | (refine o_ixB rfl rfl rfl rfl (h := ?_); intro _)) | (refine k_load ?_; refine o_loadF rfl rfl rfl rfl ?_) | (refine stb ?_; intro _))
    refine W.draw 7 [⟨?v0_1, fun _ z => []⟩, ⟨?v1_1, fun _ z => []⟩, ⟨?v2_1, fun _ z => []⟩, ⟨?v3_1, fun _ z => []⟩, ⟨?v4_1, fun _ z => []⟩, ⟨?v5_1, fun _ z => []⟩, ⟨?v6_1, fun _ z => []⟩] [[], [0], [1], [], [3], [4], [2, 5]] [6] (by kernel_rfl) (by kernel_rfl) (by kernel_rfl) (by kernel_rfl) ?loc_1 ?ops_1 ?rest_1
    case ops_1 =>
      simp only [AllQ, Nat.reduceAdd, and_true]
      refine ⟨?_, ?_, ?_, ?_, ?_, ?_, ?_⟩
      · intro c z0 Φr Lr K hK; dsimp only [dstOf, kval, kfac, ancE,  ancF, getD_z, getD_s, List.getElem?_cons_zero, List.getElem?_cons_succ, List.getElem?_nil, Option.getD_some, Option.getD_none, List.nil_append, List.cons_append, Option.getD] at hK ⊢; refine stp ?_; exact hK z0
      · intro c z0 Φr Lr K hK; dsimp only [dstOf, kval, kfac, ancE,  ancF, getD_z, getD_s, List.getElem?_cons_zero, List.getElem?_cons_succ, List.getElem?_nil, Option.getD_some, Option.getD_none, List.nil_append, List.cons_append, Option.getD] at hK ⊢; refine o_index rfl rfl rfl rfl (by omega) (by omega) (o' := i - 1) (by omega) ?_; exact hK z0
      · intro c z0 Φr Lr K hK; dsimp only [dstOf, kval, kfac, ancE,  ancF, getD_z, getD_s, List.getElem?_cons_zero, List.getElem?_cons_succ, List.getElem?_nil, Option.getD_some, Option.getD_none, List.nil_append, List.cons_append, Option.getD] at hK ⊢; refine o_load1 rfl rfl rfl (word_at x (by omega)) ?_; exact hK z0
      · intro c z0 Φr Lr K hK; dsimp only [dstOf, kval, kfac, ancE,  ancF, getD_z, getD_s, List.getElem?_cons_zero, List.getElem?_cons_succ, List.getElem?_nil, Option.getD_some, Option.getD_none, List.nil_append, List.cons_append, Option.getD] at hK ⊢; refine stp ?_; exact hK z0
      · intro c z0 Φr Lr K hK; dsimp only [dstOf, kval, kfac, ancE,  ancF, getD_z, getD_s, List.getElem?_cons_zero, List.getElem?_cons_succ, List.getElem?_nil, Option.getD_some, Option.getD_none, List.nil_append, List.cons_append, Option.getD] at hK ⊢; refine o_index rfl rfl rfl rfl (by omega) (by omega) (o' := i - 1) (by omega) ?_; exact hK z0
      · intro c z0 Φr Lr K hK; dsimp only [dstOf, kval, kfac, ancE,  ancF, getD_z, getD_s, List.getElem?_cons_zero, List.getElem?_cons_succ, List.getElem?_nil, Option.getD_some, Option.getD_none, List.nil_append, List.cons_append, Option.getD] at hK ⊢; refine o_load1 rfl rfl rfl (word_at y (by omega)) ?_; exact hK z0
      · intro c z0 Φr Lr K hK; dsimp only [dstOf, kval, kfac, ancE,  ancF, getD_z, getD_s, List.getElem?_cons_zero, List.getElem?_cons_succ, List.getElem?_nil, Option.getD_some, Option.getD_none, List.nil_append, List.cons_append, Option.getD] at hK ⊢; refine o_int rfl rfl rfl rfl (by first | exact i_lss_t (by omega) | exact i_lss_f (by omega) | exact i_lss_d | exact i_leq_t (by omega) | exact i_leq_f (by omega) | exact i_leq_d | exact i_gtr_t (by omega) | exact i_gtr_f (by omega) | exact i_gtr_d | exact i_geq_t (by omega) | exact i_geq_f (by omega) | exact i_geq_d | exact i_eql_t (by omega) | exact i_eql_f (by omega) | exact i_eql_d | exact i_neq_t (by omega) | exact i_neq_f (by omega) | exact i_neq_d | exact i_add (by omega) (by omega) | exact i_sub (by omega) (by omega) | exact i_mul (by omega) (by omega) | exact i_rem (by omega)) ?_; exact hK z0
    case loc_1 =>
      simp only [AllL, Nat.reduceAdd, and_true]
      refine ⟨?_, ?_, ?_, ?_, ?_, ?_, ?_⟩
      all_goals exact fun _ _ _ _ => ⟨rfl, rfl⟩
    intro c
    dsimp only [dstOf, kval, kfac, ancE,  ancF, getD_z, getD_s, List.getElem?_cons_zero, List.getElem?_cons_succ, List.getElem?_nil, Option.getD_some, Option.getD_none, List.nil_append, List.cons_append, List.drop_succ_cons, List.drop_zero, Option.getD]
    repeat (first | refine stp ?_ | (refine k_indexAddr ?_; first | (refine o_ixA _ rfl rfl rfl rfl rfl (h := ?_); intro _) | (refine o_ixB rfl rfl rfl rfl (h := ?_); intro _)) | (refine k_load ?_; refine o_loadF rfl rfl rfl rfl ?_) | (refine stb ?_; intro _))
    refine W.cond rfl (fun hb => ?_) (fun hb => ?_)
    · have hb := of_decide_eq_true hb
      rw [if_pos (by omega)] at hd
      repeat (first | refine stp ?_ | (refine k_indexAddr ?_; first | (refine o_ixA _ rfl rfl rfl rfl rfl (h := ?_); intro _) | (refine o_ixB rfl rfl rfl rfl (h := ?_); intro _)) | (refine k_load ?_; refine o_loadF rfl rfl rfl rfl ?_) | (refine stb ?_; intro _))
      refine G.ret rfl (.cons (.tmp rfl) .nil) (Φ' := []) (M' := []) inferInstance (List.nil_sublist _) ⟨?_, rfl, rfl⟩
      simp [tup, hd]
    have hb := of_decide_eq_false hb
    rw [if_neg (by omega)] at hd
    repeat (first | refine stp ?_ | (refine k_indexAddr ?_; first | (refine o_ixA _ rfl rfl rfl rfl rfl (h := ?_); intro _) | (refine o_ixB rfl rfl rfl rfl (h := ?_); intro _)) | (refine k_load ?_; refine o_loadF rfl rfl rfl rfl ?_) | (refine stb ?_; intro _))
    refine W.draw 7 [⟨?v0_2, fun _ z => []⟩, ⟨?v1_2, fun _ z => []⟩, ⟨?v2_2, fun _ z => []⟩, ⟨?v3_2, fun _ z => []⟩, ⟨?v4_2, fun _ z => []⟩, ⟨?v5_2, fun _ z => []⟩, ⟨?v6_2, fun _ z => []⟩] [[], [0], [1], [], [3], [4], [2, 5]] [6] (by kernel_rfl) (by kernel_rfl) (by kernel_rfl) (by kernel_rfl) ?loc_2 ?ops_2 ?rest_2
    case ops_2 =>
      simp only [AllQ, Nat.reduceAdd, and_true]
      refine ⟨?_, ?_, ?_, ?_, ?_, ?_, ?_⟩
      · intro c z0 Φr Lr K hK; dsimp only [dstOf, kval, kfac, ancE,  ancF, getD_z, getD_s, List.getElem?_cons_zero, List.getElem?_cons_succ, List.getElem?_nil, Option.getD_some, Option.getD_none, List.nil_append, List.cons_append, Option.getD] at hK ⊢; refine stp ?_; exact hK z0
      · intro c z0 Φr Lr K hK; dsimp only [dstOf, kval, kfac, ancE,  ancF, getD_z, getD_s, List.getElem?_cons_zero, List.getElem?_cons_succ, List.getElem?_nil, Option.getD_some, Option.getD_none, List.nil_append, List.cons_append, Option.getD] at hK ⊢; refine o_index rfl rfl rfl rfl (by omega) (by omega) (o' := i - 1) (by omega) ?_; exact hK z0
      · intro c z0 Φr Lr K hK; dsimp only [dstOf, kval, kfac, ancE,  ancF, getD_z, getD_s, List.getElem?_cons_zero, List.getElem?_cons_succ, List.getElem?_nil, Option.getD_some, Option.getD_none, List.nil_append, List.cons_append, Option.getD] at hK ⊢; refine o_load1 rfl rfl rfl (word_at x (by omega)) ?_; exact hK z0
      · intro c z0 Φr Lr K hK; dsimp only [dstOf, kval, kfac, ancE,  ancF, getD_z, getD_s, List.getElem?_cons_zero, List.getElem?_cons_succ, List.getElem?_nil, Option.getD_some, Option.getD_none, List.nil_append, List.cons_append, Option.getD] at hK ⊢; refine stp ?_; exact hK z0
      · intro c z0 Φr Lr K hK; dsimp only [dstOf, kval, kfac, ancE,  ancF, getD_z, getD_s, List.getElem?_cons_zero, List.getElem?_cons_succ, List.getElem?_nil, Option.getD_some, Option.getD_none, List.nil_append, List.cons_append, Option.getD] at hK ⊢; refine o_index rfl rfl rfl rfl (by omega) (by omega) (o' := i - 1) (by omega) ?_; exact hK z0
      · intro c z0 Φr Lr K hK; dsimp only [dstOf, kval, kfac, ancE,  ancF, getD_z, getD_s, List.getElem?_cons_zero, List.getElem?_cons_succ, List.getElem?_nil, Option.getD_some, Option.getD_none, List.nil_append, List.cons_append, Option.getD] at hK ⊢; refine o_load1 rfl rfl rfl (word_at y (by omega)) ?_; exact hK z0
      · intro c z0 Φr Lr K hK; dsimp only [dstOf, kval, kfac, ancE,  ancF, getD_z, getD_s, List.getElem?_cons_zero, List.getElem?_cons_succ, List.getElem?_nil, Option.getD_some, Option.getD_none, List.nil_append, List.cons_append, Option.getD] at hK ⊢; refine o_int rfl rfl rfl rfl (by first | exact i_lss_t (by omega) | exact i_lss_f (by omega) | exact i_lss_d | exact i_leq_t (by omega) | exact i_leq_f (by omega) | exact i_leq_d | exact i_gtr_t (by omega) | exact i_gtr_f (by omega) | exact i_gtr_d | exact i_geq_t (by omega) | exact i_geq_f (by omega) | exact i_geq_d | exact i_eql_t (by omega) | exact i_eql_f (by omega) | exact i_eql_d | exact i_neq_t (by omega) | exact i_neq_f (by omega) | exact i_neq_d | exact i_add (by omega) (by omega) | exact i_sub (by omega) (by omega) | exact i_mul (by omega) (by omega) | exact i_rem (by omega)) ?_; exact hK z0
    case loc_2 =>
      simp only [AllL, Nat.reduceAdd, and_true]
      refine ⟨?_, ?_, ?_, ?_, ?_, ?_, ?_⟩
      all_goals exact fun _ _ _ _ => ⟨rfl, rfl⟩
    intro c
    dsimp only [dstOf, kval, kfac, ancE,  ancF, getD_z, getD_s, List.getElem?_cons_zero, List.getElem?_cons_succ, List.getElem?_nil, Option.getD_some, Option.getD_none, List.nil_append, List.cons_append, List.drop_succ_cons, List.drop_zero, Option.getD]
    repeat (first | refine stp ?_ | (refine k_indexAddr ?_; first | (refine o_ixA _ rfl rfl rfl rfl rfl (h := ?_); intro _) | (refine o_ixB rfl rfl rfl rfl (h := ?_); intro _)) | (refine k_load ?_; refine o_loadF rfl rfl rfl rfl ?_) | (refine stb ?_; intro _))
    refine W.cond rfl (fun hb => ?_) (fun hb => ?_)
    · have hb := of_decide_eq_true hb
      rw [if_pos (by omega)] at hd
      repeat (first | refine stp ?_ | (refine k_indexAddr ?_; first | (refine o_ixA _ rfl rfl rfl rfl rfl (h := ?_); intro _) | (refine o_ixB rfl rfl rfl rfl (h := ?_); intro _)) | (refine k_load ?_; refine o_loadF rfl rfl rfl rfl ?_) | (refine stb ?_; intro _))
      refine G.ret rfl (.cons (.tmp rfl) .nil) (Φ' := []) (M' := []) inferInstance (List.nil_sublist _) ⟨?_, rfl, rfl⟩
      simp [tup, hd]
    have hb := of_decide_eq_false hb
    rw [if_neg (by omega)] at hd
    repeat (first | refine stp ?_ | (refine k_indexAddr ?_; first | (refine o_ixA _ rfl rfl rfl rfl rfl (h := ?_); intro _) | (refine o_ixB rfl rfl rfl rfl (h := ?_); intro _)) | (refine k_load ?_; refine o_loadF rfl rfl rfl rfl ?_) | (refine stb ?_; intro _))
    refine G.again (i - 1) (by omega) ⟨by omega, hd.symm⟩ inferInstance (look_sub_cons rfl (look_sub_cons rfl (look_sub_cons ?_ look_sub_nil))) (List.Sublist.refl _)
    rw [show ((i - 1 : Nat) : Int) - 1 = (i : Int) - 1 - 1 from by omega]
    rfl
end Go.Rail
