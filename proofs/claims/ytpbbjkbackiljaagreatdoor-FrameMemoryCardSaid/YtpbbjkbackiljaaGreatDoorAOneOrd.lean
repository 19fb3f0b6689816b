/- Raw numbers, words, addresses and keys: what the document's functions make of them. -/
import Derived.Test.YtpbbjkbackiljaaGreatDoorAEqMul
import Derived.Test.YtpbbjkbackiljaaGreatDoorRailB
import Derived.Test.YtpbbjkbackiljaaGreatDoorRailC
set_option linter.unusedSimpArgs false
set_option linter.unusedVariables false
namespace Go.Rail
open Go Go.Proofs
set_option maxHeartbeats 400000
set_option maxRecDepth 4000
attribute [local irreducible] OpK G W LW wpListIn Exit.then Exit.inBlock Post rounds opRun bodyPostM intOp
attribute [local irreducible] u8 u64
attribute [local irreducible] pickI
theorem of_spec (n : Int) : FnV Tryz.prog 29 [.int .i64 n] [] (Word.of n).v := by
  refine Fn.enter Tryz.func29 rfl Tryz.ntmps29 (by simp) (fun I0 w0 => ?_)
  by_cases hc : n < 0
  · repeat (first | refine stp ?_ | (refine sti ?_; intro _) | refine stf ?_ | (refine stb ?_; intro _))
    refine W.loopN 4 ?_
    repeat (first | refine stp ?_ | (refine sti ?_; intro _) | refine stf ?_ | (refine stb ?_; intro _))
    refine G.ret rfl (.cons (.cellA rfl rfl) .nil) (Φ' := []) (M' := []) inferInstance (List.nil_sublist _) ⟨?_, rfl, rfl⟩
    simp [tup, Word.of, hc, Word.v, Word.cells, cellsL]
  · repeat (first | refine stp ?_ | (refine sti ?_; intro _) | refine stf ?_ | (refine stb ?_; intro _))
    refine G.ret rfl (.cons (.cellA rfl rfl) .nil) (Φ' := []) (M' := []) inferInstance (List.nil_sublist _) ⟨?_, rfl, rfl⟩
    simp [tup, Word.of, hc, Word.v, Word.cells, cellsL]
theorem word_at (w : Word) {i : Nat} (h : i < 4) : w.cells[i]? = some (.int .u64 (w.parts.getD i 0).toNat) := by
  match i, h with
  | 0, _ => rfl
  | 1, _ => rfl
  | 2, _ => rfl
  | 3, _ => rfl
theorem cmpW_drop (x y : Word) (i : Nat) (h : i < 4) : lexN (x.code.drop (3 - i)) (y.code.drop (3 - i)) = if (x.parts.getD i 0).toNat < (y.parts.getD i 0).toNat then -1 else if (y.parts.getD i 0).toNat < (x.parts.getD i 0).toNat then 1 else lexN (x.code.drop (3 - i + 1)) (y.code.drop (3 - i + 1)) := by
  match i, h with
  | 0, _ => rfl
  | 1, _ => rfl
  | 2, _ => rfl
  | 3, _ => rfl
theorem cmp_spec (x y : Word) : FnV Tryz.prog 215 [x.v, y.v] [] (.int .i64 (cmpW x y)) := by
  refine Fn.enter Tryz.func215 rfl Tryz.ntmps215 (by simp) (fun I0 w0 => ?_)
  repeat (first | refine stp ?_ | (refine sti ?_; intro _) | refine stf ?_ | (refine stb ?_; intro _))
  refine W.loopI (fun (i : Nat) => ([], [(2, _), (3, _), (5, .int .i64 ((i : Int) - 1))], _)) (fun i => i ≤ 4 ∧ lexN (x.code.drop (4 - i)) (y.code.drop (4 - i)) = cmpW x y) (fun i => i) 4 ⟨by omega, rfl⟩ inferInstance (look_sub_cons rfl (look_sub_cons rfl (look_sub_cons rfl look_sub_nil))) (List.Sublist.refl _) ?_
  intro i ⟨hi, hw⟩
  dsimp only
  by_cases hi0 : i = 0
  · subst hi0
    repeat (first | refine stp ?_ | (refine sti ?_; intro _) | refine stf ?_ | (refine stb ?_; intro _))
    refine G.ret rfl (.cons (.tmp rfl) .nil) (Φ' := []) (M' := []) inferInstance (List.nil_sublist _) ⟨?_, rfl, rfl⟩
    have hw : 0 = cmpW x y := hw
    simp [tup, ← hw]
  · have hd := cmpW_drop x y (i - 1) (by omega)
    rw [show 3 - (i - 1) = 4 - i from by omega, show 4 - i + 1 = 4 - (i - 1) from by omega, hw] at hd
    repeat (first | refine stp ?_ | (refine sti ?_; intro _) | refine stf ?_ | (refine stb ?_; intro _))
    refine W.draw 7 [⟨?v0_1, fun _ z => []⟩, ⟨?v1_1, fun _ z => []⟩, ⟨?v2_1, fun _ z => []⟩, ⟨?v3_1, fun _ z => []⟩, ⟨?v4_1, fun _ z => []⟩, ⟨?v5_1, fun _ z => []⟩, ⟨?v6_1, fun _ z => []⟩] [[], [0], [1], [], [3], [4], [2, 5]] [6] (by kernel_rfl) (by kernel_rfl) (by kernel_rfl) (by kernel_rfl) ?loc_1 ?ops_1 ?rest_1
    case ops_1 =>
      simp only [AllQ, Nat.reduceAdd, and_true]
      refine ⟨?_, ?_, ?_, ?_, ?_, ?_, ?_⟩
      all_goals (intro c z0 Φr Lr K hK; dsimp only [dstOf, kval, kfac, ancE, ancF, getD_z, getD_s, List.getElem?_cons_zero, List.getElem?_cons_succ, List.getElem?_nil, Option.getD_some, Option.getD_none, List.nil_append, List.cons_append, Option.getD] at hK ⊢)
      · refine stp ?_; exact hK z0
      · refine o_index rfl rfl rfl rfl (by omega) (by omega) (o' := i - 1) (by omega) ?_; exact hK z0
      · refine o_load1 rfl rfl rfl (word_at x (by omega)) ?_; exact hK z0
      · refine stp ?_; exact hK z0
      · refine o_index rfl rfl rfl rfl (by omega) (by omega) (o' := i - 1) (by omega) ?_; exact hK z0
      · refine o_load1 rfl rfl rfl (word_at y (by omega)) ?_; exact hK z0
      · refine o_int rfl rfl rfl rfl (by first | exact i_lss_t (by omega) | exact i_lss_f (by omega) | exact i_lss_d | exact i_leq_t (by omega) | exact i_leq_f (by omega) | exact i_leq_d | exact i_gtr_t (by omega) | exact i_gtr_f (by omega) | exact i_gtr_d | exact i_geq_t (by omega) | exact i_geq_f (by omega) | exact i_geq_d | exact i_eql_t (by omega) | exact i_eql_f (by omega) | exact i_eql_d | exact i_neq_t (by omega) | exact i_neq_f (by omega) | exact i_neq_d | exact i_add (by omega) (by omega) | exact i_sub (by omega) (by omega) | exact i_mul (by omega) (by omega) | exact i_rem (by omega)) ?_; exact hK z0
    case loc_1 =>
      simp only [AllL, Nat.reduceAdd, and_true]
      refine ⟨?_, ?_, ?_, ?_, ?_, ?_, ?_⟩
      all_goals exact fun _ _ _ _ => ⟨rfl, rfl⟩
    intro c
    dsimp only [dstOf, kval, kfac, ancE,  ancF, getD_z, getD_s, List.getElem?_cons_zero, List.getElem?_cons_succ, List.getElem?_nil, Option.getD_some, Option.getD_none, List.nil_append, List.cons_append, List.drop_succ_cons, List.drop_zero, Option.getD]
    repeat (first | refine stp ?_ | (refine sti ?_; intro _) | refine stf ?_ | (refine stb ?_; intro _))
    refine W.cond rfl (fun hb => ?_) (fun hb => ?_)
    · have hb := of_decide_eq_true hb
      rw [if_pos (by omega)] at hd
      repeat (first | refine stp ?_ | (refine sti ?_; intro _) | refine stf ?_ | (refine stb ?_; intro _))
      refine G.ret rfl (.cons (.tmp rfl) .nil) (Φ' := []) (M' := []) inferInstance (List.nil_sublist _) ⟨?_, rfl, rfl⟩
      simp [tup, hd]
    have hb := of_decide_eq_false hb
    rw [if_neg (by omega)] at hd
    repeat (first | refine stp ?_ | (refine sti ?_; intro _) | refine stf ?_ | (refine stb ?_; intro _))
    refine W.draw 7 [⟨?v0_2, fun _ z => []⟩, ⟨?v1_2, fun _ z => []⟩, ⟨?v2_2, fun _ z => []⟩, ⟨?v3_2, fun _ z => []⟩, ⟨?v4_2, fun _ z => []⟩, ⟨?v5_2, fun _ z => []⟩, ⟨?v6_2, fun _ z => []⟩] [[], [0], [1], [], [3], [4], [2, 5]] [6] (by kernel_rfl) (by kernel_rfl) (by kernel_rfl) (by kernel_rfl) ?loc_2 ?ops_2 ?rest_2
    case ops_2 =>
      simp only [AllQ, Nat.reduceAdd, and_true]
      refine ⟨?_, ?_, ?_, ?_, ?_, ?_, ?_⟩
      all_goals (intro c z0 Φr Lr K hK; dsimp only [dstOf, kval, kfac, ancE, ancF, getD_z, getD_s, List.getElem?_cons_zero, List.getElem?_cons_succ, List.getElem?_nil, Option.getD_some, Option.getD_none, List.nil_append, List.cons_append, Option.getD] at hK ⊢)
      · refine stp ?_; exact hK z0
      · refine o_index rfl rfl rfl rfl (by omega) (by omega) (o' := i - 1) (by omega) ?_; exact hK z0
      · refine o_load1 rfl rfl rfl (word_at x (by omega)) ?_; exact hK z0
      · refine stp ?_; exact hK z0
      · refine o_index rfl rfl rfl rfl (by omega) (by omega) (o' := i - 1) (by omega) ?_; exact hK z0
      · refine o_load1 rfl rfl rfl (word_at y (by omega)) ?_; exact hK z0
      · refine o_int rfl rfl rfl rfl (by first | exact i_lss_t (by omega) | exact i_lss_f (by omega) | exact i_lss_d | exact i_leq_t (by omega) | exact i_leq_f (by omega) | exact i_leq_d | exact i_gtr_t (by omega) | exact i_gtr_f (by omega) | exact i_gtr_d | exact i_geq_t (by omega) | exact i_geq_f (by omega) | exact i_geq_d | exact i_eql_t (by omega) | exact i_eql_f (by omega) | exact i_eql_d | exact i_neq_t (by omega) | exact i_neq_f (by omega) | exact i_neq_d | exact i_add (by omega) (by omega) | exact i_sub (by omega) (by omega) | exact i_mul (by omega) (by omega) | exact i_rem (by omega)) ?_; exact hK z0
    case loc_2 =>
      simp only [AllL, Nat.reduceAdd, and_true]
      refine ⟨?_, ?_, ?_, ?_, ?_, ?_, ?_⟩
      all_goals exact fun _ _ _ _ => ⟨rfl, rfl⟩
    intro c
    dsimp only [dstOf, kval, kfac, ancE,  ancF, getD_z, getD_s, List.getElem?_cons_zero, List.getElem?_cons_succ, List.getElem?_nil, Option.getD_some, Option.getD_none, List.nil_append, List.cons_append, List.drop_succ_cons, List.drop_zero, Option.getD]
    repeat (first | refine stp ?_ | (refine sti ?_; intro _) | refine stf ?_ | (refine stb ?_; intro _))
    refine W.cond rfl (fun hb => ?_) (fun hb => ?_)
    · have hb := of_decide_eq_true hb
      rw [if_pos (by omega)] at hd
      repeat (first | refine stp ?_ | (refine sti ?_; intro _) | refine stf ?_ | (refine stb ?_; intro _))
      refine G.ret rfl (.cons (.tmp rfl) .nil) (Φ' := []) (M' := []) inferInstance (List.nil_sublist _) ⟨?_, rfl, rfl⟩
      simp [tup, hd]
    have hb := of_decide_eq_false hb
    rw [if_neg (by omega)] at hd
    repeat (first | refine stp ?_ | (refine sti ?_; intro _) | refine stf ?_ | (refine stb ?_; intro _))
    refine G.again (i - 1) (by omega) ⟨by omega, hd.symm⟩ inferInstance (look_sub_cons rfl (look_sub_cons rfl (look_sub_cons ?_ look_sub_nil))) (List.Sublist.refl _)
    rw [show ((i - 1 : Nat) : Int) - 1 = (i : Int) - 1 - 1 from by omega]
    rfl
end Go.Rail
namespace Go.Rail
open Go Go.Proofs
set_option maxHeartbeats 400000
set_option maxRecDepth 4000
attribute [local irreducible] OpK G W LW wpListIn Exit.then Exit.inBlock Post rounds opRun bodyPostM intOp
attribute [local irreducible] lexN cmpW cmpK
def RSets (s : Sets × Int) : Value → List Fa → Own → Prop := fun u Φ' M' => ∃ sv, u = .tuple #[sv, .int .i64 s.2] ∧ Φ' = [fRp sv s.1] ∧ M' = []
theorem RSets.mk {s : Sets × Int} {s1 : Sets} {e : Int} {sv : Value} (h : s = (s1, e)) : RSets s (tup [sv, .int .i64 e]) [fRp sv s1] [] := by subst h; exact ⟨sv, rfl, rfl, rfl⟩
end Go.Rail
namespace Go.Rail
open Go Go.Proofs
set_option maxHeartbeats 400000
set_option maxRecDepth 4000
attribute [local irreducible] OpK G W LW wpListIn Exit.then Exit.inBlock Post rounds opRun bodyPostM intOp
attribute [local irreducible] lexN cmpW cmpK
theorem nan_spec (n : Int) : FnV Tryz.prog 319 [.int .i64 n] [] (.bool false) := by
  refine Fn.enter Tryz.func319 rfl Tryz.ntmps319 (by simp) (fun I0 w0 => ?_)
  repeat (first | refine stp ?_ | (refine sti ?_; intro _) | refine stf ?_ | (refine stb ?_; intro _))
  refine G.ret rfl (.cons (.tmp rfl) .nil) (Φ' := []) (M' := []) inferInstance (List.nil_sublist _) ⟨?_, rfl, rfl⟩
  rfl
theorem nan64_spec (n : Int) : FnV Tryz.prog 305 [.int .u64 n] [] (.bool false) := by
  refine Fn.enter Tryz.func305 rfl Tryz.ntmps305 (by simp) (fun I0 w0 => ?_)
  repeat (first | refine stp ?_ | (refine sti ?_; intro _) | refine stf ?_ | (refine stb ?_; intro _))
  refine G.ret rfl (.cons (.tmp rfl) .nil) (Φ' := []) (M' := []) inferInstance (List.nil_sublist _) ⟨?_, rfl, rfl⟩
  rfl
def cmpI (p q : Int) : Int := if p < q then -1 else if q < p then 1 else 0
theorem compare64_spec (p q : Int) : FnV Tryz.prog 241 [.int .u64 p, .int .u64 q] [] (.int .i64 (cmpI p q)) := by
  refine Fn.enter Tryz.func241 rfl Tryz.ntmps241 (by simp) (fun I0 w0 => ?_)
  unfold cmpI
  rcases Int.lt_trichotomy p q with h | h | h
  all_goals
    repeat (first | refine stp ?_ | (refine sti ?_; intro _) | refine stf ?_ | (refine stb ?_; intro _))
    refine o_callV rfl rfl rfl rfl (nan64_spec p) rfl ?_
    repeat (first | refine stp ?_ | (refine sti ?_; intro _) | refine stf ?_ | (refine stb ?_; intro _))
    refine o_callV rfl rfl rfl rfl (nan64_spec q) rfl ?_
    repeat (first | refine stp ?_ | (refine sti ?_; intro _) | refine stf ?_ | (refine stb ?_; intro _))
    refine G.ret rfl (.cons (.tmp rfl) .nil) (Φ' := []) (M' := []) inferInstance (List.nil_sublist _) ⟨?_, rfl, rfl⟩
  · rw [if_pos h]; rfl
  · rw [if_neg (by omega), if_neg (by omega)]; rfl
  · rw [if_neg (by omega), if_pos h]; rfl
end Go.Rail
namespace Go.Rail
open Go Go.Proofs
set_option maxHeartbeats 400000
set_option maxRecDepth 4000
attribute [local irreducible] OpK G W LW wpListIn Exit.then Exit.inBlock Post rounds opRun bodyPostM intOp
attribute [local irreducible] lexN cmpW cmpK cmpI
theorem clone64_spec (v : Value) (xs : List UInt64) (hx : xs.length ≤ 1000000) : Fn Tryz.prog 303 [v] [fRp v xs] [] (ROwn 47 xs) := by
  refine Fn.enter Tryz.func303 rfl Tryz.ntmps303 (by simp) (fun I0 w0 => ?_)
  refine W.bare (G.sliceN v xs ?_)
  intro a cap hv hc hnil
  subst hv
  cases a with
  | none =>
    have hx0 := hnil rfl
    subst hx0
    repeat (first | refine stp ?_ | (refine sti ?_; intro _) | refine stf ?_ | (refine stb ?_; intro _))
    refine o_eqNil rfl rfl rfl rfl rfl ?_
    repeat (first | refine stp ?_ | (refine sti ?_; intro _) | refine stf ?_ | (refine stb ?_; intro _))
    exact G.ret rfl (.cons (.tmp rfl) .nil) inferInstance (List.nil_sublist _) ⟨none, ⟨rfl, rfl⟩, rfl, rfl⟩
  | some ad =>
    repeat (first | refine stp ?_ | (refine sti ?_; intro _) | refine stf ?_ | (refine stb ?_; intro _))
    refine o_eqNil rfl rfl rfl rfl rfl ?_
    repeat (first | refine stp ?_ | (refine sti ?_; intro _) | refine stf ?_ | (refine stb ?_; intro _))
    refine o_litM (xs := xs.take 0) ⟨by simp, rfl, by decide⟩ rfl rfl rfl RpL.nil rfl ?_
    intro b cs hcs
    repeat (first | refine stp ?_ | (refine sti ?_; intro _) | refine stf ?_ | (refine stb ?_; intro _))
    refine o_app2 (Mr := []) (some (b, cs)) (xs := xs.take 0) (ys := xs) ⟨0, rfl, by simpa using hcs, by simp⟩ ⟨by simp; omega, by simp; omega, rfl⟩ rfl rfl rfl rfl (show Ent' _ (fRow cs (xs.take 0)) from inferInstance) inferInstance (List.Perm.refl _) ?_
    intro v' o' hown'
    rw [show xs.take 0 ++ xs = xs from rfl] at hown' ⊢
    repeat (first | refine stp ?_ | (refine sti ?_; intro _) | refine stf ?_ | (refine stb ?_; intro _))
    exact G.ret rfl (.cons (.tmp rfl) .nil) inferInstance (List.Sublist.refl _) ⟨o', hown', rfl, rfl⟩
end Go.Rail
