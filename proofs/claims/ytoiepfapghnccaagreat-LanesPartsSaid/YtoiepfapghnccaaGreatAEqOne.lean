/- How words, addresses and keys compare. -/
import Derived.Test.YtoiepfapghnccaaGreatRailB
import Derived.Test.YtoiepfapghnccaaGreatAFacts
namespace Go.Rail
open Go Go.Proofs
set_option linter.unusedSimpArgs false
theorem info_some {P : Program} {t : TypeId} (h : (P.info? t).isSome = true) : ∃ i, P.info? t = some i := Option.isSome_iff_exists.1 h

theorem eq_word (d : Nat) (x y : Word) (w : World) : (Op.equalIn (d + 2) 56 x.v y.v).run Tryz.prog w = .ok (decide (x = y)) w := by
  obtain ⟨i, hi⟩ := info_some (P := Tryz.prog) (t := 54) (by kernel_rfl)
  have h := run_equalIn_ints (P := Tryz.prog) (d := d) (k := .u64) Tryz.underlying56 Tryz.underlying54 hi (by kernel_rfl) Tryz.isAgg54 (x.parts.map fun u => (u.toNat : Int)) (y.parts.map fun u => (u.toNat : Int)) rfl rfl w
  have e : (x.parts.map fun u => (u.toNat : Int)) = (y.parts.map fun u => (u.toNat : Int)) ↔ x = y := by
    cases x; cases y
    simp only [Word.parts, List.map_cons, List.map_nil, List.cons.injEq, Int.natCast_inj, UInt64.toNat_inj, and_true, Word.mk.injEq]
  have e2 : decide ((x.parts.map fun u => (u.toNat : Int)) = (y.parts.map fun u => (u.toNat : Int))) = decide (x = y) := decide_eq_decide.2 e
  rw [← e2]; exact h
instance (x y : Word) : EqOn Tryz.prog 56 x.v y.v (decide (x = y)) where
  eq := fun w => by
    have h : (Op.equalIn 10000 56 x.v y.v).run Tryz.prog w = _ := eq_word 9998 x y w
    unfold Word.v at h ⊢
    rw [run_eql_struct, h]; simp only [Result.andThen_ok]
  ne := fun w => by
    have h : (Op.equalIn 10000 56 x.v y.v).run Tryz.prog w = _ := eq_word 9998 x y w
    unfold Word.v at h ⊢
    rw [run_neq_struct, h]; simp only [Result.andThen_ok]
  guard := fun op p q w => by simp only [Word.v]; exact run_eqGuard_agg _ _ _ _ _ _ _ (by kernel_rfl)

theorem map_u8_inj : ∀ {l m : List UInt8}, l.map (fun u => (u.toNat : Int)) = m.map (fun u => (u.toNat : Int)) → l = m
  | [], [], _ => rfl
  | x :: l, y :: m, h => by
    simp only [List.map_cons, List.cons.injEq] at h
    have h1 : x = y := UInt8.toNat_inj.1 (by omega)
    rw [map_u8_inj h.2, h1]
  | [], _ :: _, h => by cases h
  | _ :: _, [], h => by cases h
theorem eq_addr (d : Nat) (x y : Addr20) (w : World) : (Op.equalIn (d + 2) 53 x.v y.v).run Tryz.prog w = .ok (decide (x = y)) w := by
  obtain ⟨i, hi⟩ := info_some (P := Tryz.prog) (t := 5) (by kernel_rfl)
  have h := run_equalIn_ints (P := Tryz.prog) (d := d) (k := .u8) Tryz.underlying53 Tryz.underlying5 hi (by kernel_rfl) Tryz.isAgg5 (x.b.map fun u => (u.toNat : Int)) (y.b.map fun u => (u.toNat : Int)) (by simp [x.h]) (by simp [y.h]) w
  have e : (x.b.map fun u => (u.toNat : Int)) = (y.b.map fun u => (u.toNat : Int)) ↔ x = y := by
    constructor
    · intro h; cases x; cases y; have := map_u8_inj h; simp_all
    · intro h; rw [h]
  have e2 : decide ((x.b.map fun u => (u.toNat : Int)) = (y.b.map fun u => (u.toNat : Int))) = decide (x = y) := decide_eq_decide.2 e
  have ev : ∀ z : Addr20, z.v = .agg ((z.b.map fun u => (u.toNat : Int)).map (Value.int .u8)).toArray := fun z => by simp [Addr20.v, Addr20.cells, Function.comp_def]
  rw [← e2, ev, ev]; exact h
instance (x y : Addr20) : EqOn Tryz.prog 53 x.v y.v (decide (x = y)) where
  eq := fun w => by
    have h : (Op.equalIn 10000 53 x.v y.v).run Tryz.prog w = _ := eq_addr 9998 x y w
    unfold Addr20.v at h ⊢
    rw [run_eql_struct, h]; simp only [Result.andThen_ok]
  ne := fun w => by
    have h : (Op.equalIn 10000 53 x.v y.v).run Tryz.prog w = _ := eq_addr 9998 x y w
    unfold Addr20.v at h ⊢
    rw [run_neq_struct, h]; simp only [Result.andThen_ok]
  guard := fun op p q w => by simp only [Addr20.v]; exact run_eqGuard_agg _ _ _ _ _ _ _ (by kernel_rfl)

theorem eq_key (d : Nat) (x y : Key) (w : World) : (Op.equalIn (d + 3) 58 x.v y.v).run Tryz.prog w = .ok (decide (x = y)) w := by
  have hS : Tryz.prog.underlying 58 = some (.struct (Tryz.prog.fieldsOf 58)) := by kernel_rfl
  have hp : Tryz.prog.stoodInHeld 58 = false := by kernel_rfl
  have h1 := eq_addr (d := d) x.at_ y.at_ w
  have h2 := eq_word (d := d) x.key y.key w
  have p1 : ∀ k : Key, (part 53 k.cells.toArray 0).run Tryz.prog w = .ok k.at_.v w := fun k => by
    simp [part, Tryz.isAgg53, Tryz.sizeOf53, Sem.run_bind, Result.andThen, Sem.run_pure, Addr20.v]; simpa using Key.cells_at k
  have p2 : ∀ k : Key, (part 4 k.cells.toArray 20).run Tryz.prog w = .ok (.bool k.slot) w := fun k => by
    have := Key.cells_slot k
    simp [part, Tryz.isAgg4, Sem.run_bind, Result.andThen, Sem.run_pure, this]
  have p3 : ∀ k : Key, (part 56 k.cells.toArray 21).run Tryz.prog w = .ok k.key.v w := fun k => by
    simp [part, Tryz.isAgg56, Tryz.sizeOf56, Sem.run_bind, Result.andThen, Sem.run_pure, Word.v]; simpa using Key.cells_key k
  have hb : (Op.equalIn (d + 2) 4 (.bool x.slot) (.bool y.slot)).run Tryz.prog w = .ok (x.slot == y.slot) w := run_equalIn_bool' w (d + 1) _ _ _ Tryz.underlying4
  simp only [Key.v]
  rw [run_equalIn_agg w (d + 2) 58 _ _ hS hp]
  simp only [Program.fieldsOf, Tryz.underlying58]
  have step : ∀ (f : Field) (fs : List Field) (t off : Nat) (a b : Value) (r : Bool), (part t x.cells.toArray off).run Tryz.prog w = .ok a w → (part t y.cells.toArray off).run Tryz.prog w = .ok b w → (Op.equalIn (d + 2) t a b).run Tryz.prog w = .ok r w →
      f.type = t → f.offset = off → f.name ≠ "_" → (Op.eqFields (d + 2) x.cells.toArray y.cells.toArray (f :: fs)).run Tryz.prog w = if r then (Op.eqFields (d + 2) x.cells.toArray y.cells.toArray fs).run Tryz.prog w else .ok false w := by
    intro f fs t off a b r ha hb' hr et eo hn
    subst et eo
    simp only [Op.eqFields, hn, ne_eq, not_false_eq_true, if_true, Sem.run_bind, ha, hb', hr, Result.andThen_ok]
    cases r <;> simp [Sem.run_pure]
  rw [step _ _ _ _ _ _ _ (p1 x) (p1 y) h1, step _ _ _ _ _ _ _ (p2 x) (p2 y) hb, step _ _ _ _ _ _ _ (p3 x) (p3 y) h2]
  any_goals (first | rfl | (simp; done))
  simp only [Op.eqFields, Sem.run_pure]
  obtain ⟨xa, xs, xk⟩ := x
  obtain ⟨ya, ys, yk⟩ := y
  by_cases e1 : xa = ya <;> by_cases e2 : xs = ys <;> by_cases e3 : xk = yk <;> simp [e1, e2, e3]
instance (x y : Key) : EqOn Tryz.prog 58 x.v y.v (decide (x = y)) where
  eq := fun w => by
    have h : (Op.equalIn 10000 58 x.v y.v).run Tryz.prog w = _ := eq_key 9997 x y w
    unfold Key.v at h ⊢
    rw [run_eql_struct, h]; simp only [Result.andThen_ok]
  ne := fun w => by
    have h : (Op.equalIn 10000 58 x.v y.v).run Tryz.prog w = _ := eq_key 9997 x y w
    unfold Key.v at h ⊢
    rw [run_neq_struct, h]; simp only [Result.andThen_ok]
  guard := fun op p q w => by simp only [Key.v]; exact run_eqGuard_agg _ _ _ _ _ _ _ (by kernel_rfl)
instance (a b : Bool) : EqOn Tryz.prog 4 (.bool a) (.bool b) (a == b) where
  eq := fun w => by
    have h : (Op.equalIn 10000 4 (.bool a) (.bool b)).run Tryz.prog w = .ok (a == b) w := run_equalIn_bool' w 9999 4 a b Tryz.underlying4
    have e : binOp .eql 4 (.bool a) (.bool b) = (do pure (Value.bool (← Op.equalIn 10000 4 (.bool a) (.bool b)))) := rfl
    rw [e, Sem.run_bind, h]; simp only [Result.andThen_ok, Sem.run_pure]
  ne := fun w => by
    have h : (Op.equalIn 10000 4 (.bool a) (.bool b)).run Tryz.prog w = .ok (a == b) w := run_equalIn_bool' w 9999 4 a b Tryz.underlying4
    have e : binOp .neq 4 (.bool a) (.bool b) = (do pure (Value.bool (!(← Op.equalIn 10000 4 (.bool a) (.bool b))))) := rfl
    rw [e, Sem.run_bind, h]; simp only [Result.andThen_ok, Sem.run_pure]
  guard := fun op p q w => run_eqGuard_bool w
end Go.Rail
namespace Go.Rail
open Go Go.Proofs
set_option linter.unusedSimpArgs false
set_option linter.unusedVariables false
set_option maxHeartbeats 400000
set_option maxRecDepth 4000
attribute [local irreducible] OpK G W LW wpListIn Exit.then Exit.inBlock Post rounds opRun bodyPostM intOp
attribute [local irreducible] u8 u64
theorem pick10_spec (c n : Int) (h1 : -9223372036854775808 ≤ c) (hn : 0 < n) : FnV Tryz.prog 89 [.int .i64 c, .int .i64 n] [] (.int .i64 (pickI c n)) := by
  refine Fn.enter Tryz.func89 rfl Tryz.ntmps89 (by simp) (fun I0 w0 => ?_)
  unfold pickI
  by_cases hc : c < 0
  all_goals
    repeat (first | refine stp ?_ | (refine sti ?_; intro _) | refine stf ?_ | (refine stb ?_; intro _))
    refine G.ret rfl (.cons (.tmp rfl) .nil) (Φ' := []) (M' := []) inferInstance (List.nil_sublist _) ⟨?_, rfl, rfl⟩
    simp [tup, hc]
theorem pick08_spec (c n : Int) (h1 : -9223372036854775808 ≤ c) (hn : 0 < n) : FnV Tryz.prog 102 [.int .i64 c, .int .i64 n] [] (.int .i64 (pickI c n)) := by
  refine Fn.enter Tryz.func102 rfl Tryz.ntmps102 (by simp) (fun I0 w0 => ?_)
  unfold pickI
  by_cases hc : c < 0
  all_goals
    repeat (first | refine stp ?_ | (refine sti ?_; intro _) | refine stf ?_ | (refine stb ?_; intro _))
    refine G.ret rfl (.cons (.tmp rfl) .nil) (Φ' := []) (M' := []) inferInstance (List.nil_sublist _) ⟨?_, rfl, rfl⟩
    simp [tup, hc]
attribute [local irreducible] pickI
theorem of_spec (n : Int) : FnV Tryz.prog 91 [.int .i64 n] [] (Word.of n).v := by
  refine Fn.enter Tryz.func91 rfl Tryz.ntmps91 (by simp) (fun I0 w0 => ?_)
  by_cases hc : n < 0
  · repeat (first | refine stp ?_ | (refine sti ?_; intro _) | refine stf ?_ | (refine stb ?_; intro _))
    refine W.loopN 4 ?_
    repeat (first | refine stp ?_ | (refine sti ?_; intro _) | refine stf ?_ | (refine stb ?_; intro _))
    refine G.ret rfl (.cons (.cellA rfl rfl) .nil) (Φ' := []) (M' := []) inferInstance (List.nil_sublist _) ⟨?_, rfl, rfl⟩
    simp [tup, Word.of, hc, Word.v, Word.cells, cellsL]
  · repeat (first | refine stp ?_ | (refine sti ?_; intro _) | refine stf ?_ | (refine stb ?_; intro _))
    refine G.ret rfl (.cons (.cellA rfl rfl) .nil) (Φ' := []) (M' := []) inferInstance (List.nil_sublist _) ⟨?_, rfl, rfl⟩
    simp [tup, Word.of, hc, Word.v, Word.cells, cellsL]
theorem addr_spec (n : Int) (h1 : -9223372036854775808 ≤ n) : FnV Tryz.prog 90 [.int .i64 n] [] (Addr20.of n).v := by
  refine Fn.enter Tryz.func90 rfl Tryz.ntmps90 (by simp) (fun I0 w0 => ?_)
  have hp := pickI_nn n 9 (by omega)
  by_cases hc : 5 < pickI n 9
  all_goals
    repeat (first | refine stp ?_ | (refine sti ?_; intro _) | refine stf ?_ | (refine stb ?_; intro _))
    refine o_callV rfl rfl rfl rfl (pick08_spec n 9 h1 (by omega)) rfl ?_
    repeat (first | refine stp ?_ | (refine sti ?_; intro _) | refine stf ?_ | (refine stb ?_; intro _))
    refine G.ret rfl (.cons (.cellA rfl rfl) .nil) (Φ' := []) (M' := []) inferInstance (List.nil_sublist _) ⟨?_, rfl, rfl⟩
    simp [tup, Addr20.of, hc, Addr20.v, Addr20.cells]
theorem key_spec (a b : Int) (h1 : -9223372036854775808 ≤ a) (h2 : -9223372036854775808 ≤ b) : FnV Tryz.prog 78 [.int .i64 a, .int .i64 b] [] (Key.of a b).v := by
  refine Fn.enter Tryz.func78 rfl Tryz.ntmps78 (by simp) (fun I0 w0 => ?_)
  have hp := pickI_nn b 5 (by omega)
  by_cases hc : pickI b 5 = 0
  · repeat (first | refine stp ?_ | (refine sti ?_; intro _) | refine stf ?_ | (refine stb ?_; intro _))
    refine o_callV rfl rfl rfl rfl (pick10_spec b 5 h2 (by omega)) rfl ?_
    repeat (first | refine stp ?_ | (refine sti ?_; intro _) | refine stf ?_ | (refine stb ?_; intro _))
    refine o_callV rfl rfl rfl rfl (addr_spec a h1) rfl ?_
    repeat (first | refine stp ?_ | (refine sti ?_; intro _) | refine stf ?_ | (refine stb ?_; intro _))
    refine G.ret rfl (.cons (.cellA rfl rfl) .nil) (Φ' := []) (M' := []) inferInstance (List.nil_sublist _) ⟨?_, rfl, rfl⟩
    simp [tup, Key.of, hc, Key.v, Key.cells, Word.cells, Word.zero]
    rfl
  · repeat (first | refine stp ?_ | (refine sti ?_; intro _) | refine stf ?_ | (refine stb ?_; intro _))
    refine o_callV rfl rfl rfl rfl (pick10_spec b 5 h2 (by omega)) rfl ?_
    repeat (first | refine stp ?_ | (refine sti ?_; intro _) | refine stf ?_ | (refine stb ?_; intro _))
    refine o_callV rfl rfl rfl rfl (addr_spec a h1) rfl ?_
    repeat (first | refine stp ?_ | (refine sti ?_; intro _) | refine stf ?_ | (refine stb ?_; intro _))
    refine o_callV rfl rfl rfl rfl (of_spec _) rfl ?_
    repeat (first | refine stp ?_ | (refine sti ?_; intro _) | refine stf ?_ | (refine stb ?_; intro _))
    refine G.ret rfl (.cons (.cellA rfl rfl) .nil) (Φ' := []) (M' := []) inferInstance (List.nil_sublist _) ⟨?_, rfl, rfl⟩
    rw [show Key.of a b = ⟨Addr20.of a, true, Word.of (pickI b 5 - 1)⟩ from if_neg hc]
    rfl
theorem word_at (w : Word) {i : Nat} (h : i < 4) : w.cells[i]? = some (.int .u64 (w.parts.getD i 0).toNat) := by
  match i, h with
  | 0, _ => rfl
  | 1, _ => rfl
  | 2, _ => rfl
  | 3, _ => rfl
theorem cmpW_drop (x y : Word) (i : Nat) (h : i < 4) : lexN (x.code.drop (3 - i)) (y.code.drop (3 - i)) = if (x.parts.getD i 0).toNat < (y.parts.getD i 0).toNat then -1 else if (y.parts.getD i 0).toNat < (x.parts.getD i 0).toNat then 1 else lexN (x.code.drop (3 - i + 1)) (y.code.drop (3 - i + 1)) := by
  match i, h with
  | 0, _ => rfl
  | 1, _ => rfl
  | 2, _ => rfl
  | 3, _ => rfl
theorem cmp_spec (x y : Word) : FnV Tryz.prog 103 [x.v, y.v] [] (.int .i64 (cmpW x y)) := by
  refine Fn.enter Tryz.func103 rfl Tryz.ntmps103 (by simp) (fun I0 w0 => ?_)
  repeat (first | refine stp ?_ | (refine sti ?_; intro _) | refine stf ?_ | (refine stb ?_; intro _))
  refine W.loopI (fun (i : Nat) => ([], [(2, _), (3, _), (5, .int .i64 ((i : Int) - 1))], _)) (fun i => i ≤ 4 ∧ lexN (x.code.drop (4 - i)) (y.code.drop (4 - i)) = cmpW x y) (fun i => i) 4 ⟨by omega, rfl⟩ inferInstance (look_sub_cons rfl (look_sub_cons rfl (look_sub_cons rfl look_sub_nil))) (List.Sublist.refl _) ?_
  intro i ⟨hi, hw⟩
  dsimp only
  by_cases hi0 : i = 0
  · subst hi0
    repeat (first | refine stp ?_ | (refine sti ?_; intro _) | refine stf ?_ | (refine stb ?_; intro _))
    refine G.ret rfl (.cons (.tmp rfl) .nil) (Φ' := []) (M' := []) inferInstance (List.nil_sublist _) ⟨?_, rfl, rfl⟩
    have hw : 0 = cmpW x y := hw
    simp [tup, ← hw]
  · have hd := cmpW_drop x y (i - 1) (by omega)
    rw [show 3 - (i - 1) = 4 - i from by omega, show 4 - i + 1 = 4 - (i - 1) from by omega, hw] at hd
    repeat (first | refine stp ?_ | (refine sti ?_; intro _) | refine stf ?_ | (refine stb ?_; intro _))
    refine W.draw 7 [⟨?v0_1, fun _ z => []⟩, ⟨?v1_1, fun _ z => []⟩, ⟨?v2_1, fun _ z => []⟩, ⟨?v3_1, fun _ z => []⟩, ⟨?v4_1, fun _ z => []⟩, ⟨?v5_1, fun _ z => []⟩, ⟨?v6_1, fun _ z => []⟩] [[], [0], [1], [], [3], [4], [2, 5]] [6] (by kernel_rfl) (by kernel_rfl) (by kernel_rfl) (by kernel_rfl) ?loc_1 ?ops_1 ?rest_1
    case ops_1 =>
      simp only [AllQ, Nat.reduceAdd, and_true]
      refine ⟨?_, ?_, ?_, ?_, ?_, ?_, ?_⟩
      all_goals (intro c z0 Φr Lr K hK; dsimp only [dstOf, kval, kfac, ancE, ancF, getD_z, getD_s, List.getElem?_cons_zero, List.getElem?_cons_succ, List.getElem?_nil, Option.getD_some, Option.getD_none, List.nil_append, List.cons_append, Option.getD] at hK ⊢)
      · refine stp ?_; exact hK z0
      · refine o_index rfl rfl rfl rfl (by omega) (by omega) (o' := i - 1) (by omega) ?_; exact hK z0
      · refine o_load1 rfl rfl rfl (word_at x (by omega)) ?_; exact hK z0
      · refine stp ?_; exact hK z0
      · refine o_index rfl rfl rfl rfl (by omega) (by omega) (o' := i - 1) (by omega) ?_; exact hK z0
      · refine o_load1 rfl rfl rfl (word_at y (by omega)) ?_; exact hK z0
      · refine o_int rfl rfl rfl rfl (by first | exact i_lss_t (by omega) | exact i_lss_f (by omega) | exact i_lss_d | exact i_leq_t (by omega) | exact i_leq_f (by omega) | exact i_leq_d | exact i_gtr_t (by omega) | exact i_gtr_f (by omega) | exact i_gtr_d | exact i_geq_t (by omega) | exact i_geq_f (by omega) | exact i_geq_d | exact i_eql_t (by omega) | exact i_eql_f (by omega) | exact i_eql_d | exact i_neq_t (by omega) | exact i_neq_f (by omega) | exact i_neq_d | exact i_add (by omega) (by omega) | exact i_sub (by omega) (by omega) | exact i_mul (by omega) (by omega) | exact i_rem (by omega)) ?_; exact hK z0
    case loc_1 =>
      simp only [AllL, Nat.reduceAdd, and_true]
      refine ⟨?_, ?_, ?_, ?_, ?_, ?_, ?_⟩
      all_goals exact fun _ _ _ _ => ⟨rfl, rfl⟩
    intro c
    dsimp only [dstOf, kval, kfac, ancE,  ancF, getD_z, getD_s, List.getElem?_cons_zero, List.getElem?_cons_succ, List.getElem?_nil, Option.getD_some, Option.getD_none, List.nil_append, List.cons_append, List.drop_succ_cons, List.drop_zero, Option.getD]
    repeat (first | refine stp ?_ | (refine sti ?_; intro _) | refine stf ?_ | (refine stb ?_; intro _))
    refine W.cond rfl (fun hb => ?_) (fun hb => ?_)
    · have hb := of_decide_eq_true hb
      rw [if_pos (by omega)] at hd
      repeat (first | refine stp ?_ | (refine sti ?_; intro _) | refine stf ?_ | (refine stb ?_; intro _))
      refine G.ret rfl (.cons (.tmp rfl) .nil) (Φ' := []) (M' := []) inferInstance (List.nil_sublist _) ⟨?_, rfl, rfl⟩
      simp [tup, hd]
    have hb := of_decide_eq_false hb
    rw [if_neg (by omega)] at hd
    repeat (first | refine stp ?_ | (refine sti ?_; intro _) | refine stf ?_ | (refine stb ?_; intro _))
    refine W.draw 7 [⟨?v0_2, fun _ z => []⟩, ⟨?v1_2, fun _ z => []⟩, ⟨?v2_2, fun _ z => []⟩, ⟨?v3_2, fun _ z => []⟩, ⟨?v4_2, fun _ z => []⟩, ⟨?v5_2, fun _ z => []⟩, ⟨?v6_2, fun _ z => []⟩] [[], [0], [1], [], [3], [4], [2, 5]] [6] (by kernel_rfl) (by kernel_rfl) (by kernel_rfl) (by kernel_rfl) ?loc_2 ?ops_2 ?rest_2
    case ops_2 =>
      simp only [AllQ, Nat.reduceAdd, and_true]
      refine ⟨?_, ?_, ?_, ?_, ?_, ?_, ?_⟩
      all_goals (intro c z0 Φr Lr K hK; dsimp only [dstOf, kval, kfac, ancE, ancF, getD_z, getD_s, List.getElem?_cons_zero, List.getElem?_cons_succ, List.getElem?_nil, Option.getD_some, Option.getD_none, List.nil_append, List.cons_append, Option.getD] at hK ⊢)
      · refine stp ?_; exact hK z0
      · refine o_index rfl rfl rfl rfl (by omega) (by omega) (o' := i - 1) (by omega) ?_; exact hK z0
      · refine o_load1 rfl rfl rfl (word_at x (by omega)) ?_; exact hK z0
      · refine stp ?_; exact hK z0
      · refine o_index rfl rfl rfl rfl (by omega) (by omega) (o' := i - 1) (by omega) ?_; exact hK z0
      · refine o_load1 rfl rfl rfl (word_at y (by omega)) ?_; exact hK z0
      · refine o_int rfl rfl rfl rfl (by first | exact i_lss_t (by omega) | exact i_lss_f (by omega) | exact i_lss_d | exact i_leq_t (by omega) | exact i_leq_f (by omega) | exact i_leq_d | exact i_gtr_t (by omega) | exact i_gtr_f (by omega) | exact i_gtr_d | exact i_geq_t (by omega) | exact i_geq_f (by omega) | exact i_geq_d | exact i_eql_t (by omega) | exact i_eql_f (by omega) | exact i_eql_d | exact i_neq_t (by omega) | exact i_neq_f (by omega) | exact i_neq_d | exact i_add (by omega) (by omega) | exact i_sub (by omega) (by omega) | exact i_mul (by omega) (by omega) | exact i_rem (by omega)) ?_; exact hK z0
    case loc_2 =>
      simp only [AllL, Nat.reduceAdd, and_true]
      refine ⟨?_, ?_, ?_, ?_, ?_, ?_, ?_⟩
      all_goals exact fun _ _ _ _ => ⟨rfl, rfl⟩
    intro c
    dsimp only [dstOf, kval, kfac, ancE,  ancF, getD_z, getD_s, List.getElem?_cons_zero, List.getElem?_cons_succ, List.getElem?_nil, Option.getD_some, Option.getD_none, List.nil_append, List.cons_append, List.drop_succ_cons, List.drop_zero, Option.getD]
    repeat (first | refine stp ?_ | (refine sti ?_; intro _) | refine stf ?_ | (refine stb ?_; intro _))
    refine W.cond rfl (fun hb => ?_) (fun hb => ?_)
    · have hb := of_decide_eq_true hb
      rw [if_pos (by omega)] at hd
      repeat (first | refine stp ?_ | (refine sti ?_; intro _) | refine stf ?_ | (refine stb ?_; intro _))
      refine G.ret rfl (.cons (.tmp rfl) .nil) (Φ' := []) (M' := []) inferInstance (List.nil_sublist _) ⟨?_, rfl, rfl⟩
      simp [tup, hd]
    have hb := of_decide_eq_false hb
    rw [if_neg (by omega)] at hd
    repeat (first | refine stp ?_ | (refine sti ?_; intro _) | refine stf ?_ | (refine stb ?_; intro _))
    refine G.again (i - 1) (by omega) ⟨by omega, hd.symm⟩ inferInstance (look_sub_cons rfl (look_sub_cons rfl (look_sub_cons ?_ look_sub_nil))) (List.Sublist.refl _)
    rw [show ((i - 1 : Nat) : Int) - 1 = (i : Int) - 1 - 1 from by omega]
    rfl
end Go.Rail
