/- How words, addresses and keys compare. -/
import Derived.Test.YtoiepfapghnccaaRailB
import Derived.Test.YtoiepfapghnccaaAFacts
namespace Go.Rail
open Go Go.Proofs
set_option linter.unusedSimpArgs false
theorem info_some {P : Program} {t : TypeId} (h : (P.info? t).isSome = true) : ∃ i, P.info? t = some i := Option.isSome_iff_exists.1 h

theorem eq_word (d : Nat) (x y : Word) (w : World) : (Op.equalIn (d + 2) 29 x.v y.v).run Try.prog w = .ok (decide (x = y)) w := by
  obtain ⟨i, hi⟩ := info_some (P := Try.prog) (t := 27) (by kernel_rfl)
  have h := run_equalIn_ints (P := Try.prog) (d := d) (k := .u64) Try.underlying29 Try.underlying27 hi (by kernel_rfl) Try.isAgg27 (x.parts.map fun u => (u.toNat : Int)) (y.parts.map fun u => (u.toNat : Int)) rfl rfl w
  have e : (x.parts.map fun u => (u.toNat : Int)) = (y.parts.map fun u => (u.toNat : Int)) ↔ x = y := by
    cases x; cases y
    simp only [Word.parts, List.map_cons, List.map_nil, List.cons.injEq, Int.natCast_inj, UInt64.toNat_inj, and_true, Word.mk.injEq]
  have e2 : decide ((x.parts.map fun u => (u.toNat : Int)) = (y.parts.map fun u => (u.toNat : Int))) = decide (x = y) := decide_eq_decide.2 e
  rw [← e2]; exact h
instance (x y : Word) : EqOn Try.prog 29 x.v y.v (decide (x = y)) where
  eq := fun w => by
    have h : (Op.equalIn 10000 29 x.v y.v).run Try.prog w = _ := eq_word 9998 x y w
    unfold Word.v at h ⊢
    rw [run_eql_struct, h]; simp only [Result.andThen_ok]
  ne := fun w => by
    have h : (Op.equalIn 10000 29 x.v y.v).run Try.prog w = _ := eq_word 9998 x y w
    unfold Word.v at h ⊢
    rw [run_neq_struct, h]; simp only [Result.andThen_ok]
  guard := fun op p q w => by simp only [Word.v]; exact run_eqGuard_agg _ _ _ _ _ _ _ (by kernel_rfl)

theorem map_u8_inj : ∀ {l m : List UInt8}, l.map (fun u => (u.toNat : Int)) = m.map (fun u => (u.toNat : Int)) → l = m
  | [], [], _ => rfl
  | x :: l, y :: m, h => by
    simp only [List.map_cons, List.cons.injEq] at h
    have h1 : x = y := UInt8.toNat_inj.1 (by omega)
    rw [map_u8_inj h.2, h1]
  | [], _ :: _, h => by cases h
  | _ :: _, [], h => by cases h
theorem eq_addr (d : Nat) (x y : Addr20) (w : World) : (Op.equalIn (d + 2) 26 x.v y.v).run Try.prog w = .ok (decide (x = y)) w := by
  obtain ⟨i, hi⟩ := info_some (P := Try.prog) (t := 5) (by kernel_rfl)
  have h := run_equalIn_ints (P := Try.prog) (d := d) (k := .u8) Try.underlying26 Try.underlying5 hi (by kernel_rfl) Try.isAgg5 (x.b.map fun u => (u.toNat : Int)) (y.b.map fun u => (u.toNat : Int)) (by simp [x.h]) (by simp [y.h]) w
  have e : (x.b.map fun u => (u.toNat : Int)) = (y.b.map fun u => (u.toNat : Int)) ↔ x = y := by
    constructor
    · intro h; cases x; cases y; have := map_u8_inj h; simp_all
    · intro h; rw [h]
  have e2 : decide ((x.b.map fun u => (u.toNat : Int)) = (y.b.map fun u => (u.toNat : Int))) = decide (x = y) := decide_eq_decide.2 e
  have ev : ∀ z : Addr20, z.v = .agg ((z.b.map fun u => (u.toNat : Int)).map (Value.int .u8)).toArray := fun z => by simp [Addr20.v, Addr20.cells, Function.comp_def]
  rw [← e2, ev, ev]; exact h
instance (x y : Addr20) : EqOn Try.prog 26 x.v y.v (decide (x = y)) where
  eq := fun w => by
    have h : (Op.equalIn 10000 26 x.v y.v).run Try.prog w = _ := eq_addr 9998 x y w
    unfold Addr20.v at h ⊢
    rw [run_eql_struct, h]; simp only [Result.andThen_ok]
  ne := fun w => by
    have h : (Op.equalIn 10000 26 x.v y.v).run Try.prog w = _ := eq_addr 9998 x y w
    unfold Addr20.v at h ⊢
    rw [run_neq_struct, h]; simp only [Result.andThen_ok]
  guard := fun op p q w => by simp only [Addr20.v]; exact run_eqGuard_agg _ _ _ _ _ _ _ (by kernel_rfl)

theorem eq_key (d : Nat) (x y : Key) (w : World) : (Op.equalIn (d + 3) 31 x.v y.v).run Try.prog w = .ok (decide (x = y)) w := by
  have hS : Try.prog.underlying 31 = some (.struct (Try.prog.fieldsOf 31)) := by kernel_rfl
  have hp : Try.prog.stoodInHeld 31 = false := by kernel_rfl
  have h1 := eq_addr (d := d) x.at_ y.at_ w
  have h2 := eq_word (d := d) x.key y.key w
  have p1 : ∀ k : Key, (part 26 k.cells.toArray 0).run Try.prog w = .ok k.at_.v w := fun k => by
    simp [part, Try.isAgg26, Try.sizeOf26, Sem.run_bind, Result.andThen, Sem.run_pure, Addr20.v]; simpa using Key.cells_at k
  have p2 : ∀ k : Key, (part 4 k.cells.toArray 20).run Try.prog w = .ok (.bool k.slot) w := fun k => by
    have := Key.cells_slot k
    simp [part, Try.isAgg4, Sem.run_bind, Result.andThen, Sem.run_pure, this]
  have p3 : ∀ k : Key, (part 29 k.cells.toArray 21).run Try.prog w = .ok k.key.v w := fun k => by
    simp [part, Try.isAgg29, Try.sizeOf29, Sem.run_bind, Result.andThen, Sem.run_pure, Word.v]; simpa using Key.cells_key k
  have hb : (Op.equalIn (d + 2) 4 (.bool x.slot) (.bool y.slot)).run Try.prog w = .ok (x.slot == y.slot) w := run_equalIn_bool' w (d + 1) _ _ _ Try.underlying4
  simp only [Key.v]
  rw [run_equalIn_agg w (d + 2) 31 _ _ hS hp]
  simp only [Program.fieldsOf, Try.underlying31]
  have step : ∀ (f : Field) (fs : List Field) (t off : Nat) (a b : Value) (r : Bool), (part t x.cells.toArray off).run Try.prog w = .ok a w → (part t y.cells.toArray off).run Try.prog w = .ok b w → (Op.equalIn (d + 2) t a b).run Try.prog w = .ok r w →
      f.type = t → f.offset = off → f.name ≠ "_" → (Op.eqFields (d + 2) x.cells.toArray y.cells.toArray (f :: fs)).run Try.prog w = if r then (Op.eqFields (d + 2) x.cells.toArray y.cells.toArray fs).run Try.prog w else .ok false w := by
    intro f fs t off a b r ha hb' hr et eo hn
    subst et eo
    simp only [Op.eqFields, hn, ne_eq, not_false_eq_true, if_true, Sem.run_bind, ha, hb', hr, Result.andThen_ok]
    cases r <;> simp [Sem.run_pure]
  rw [step _ _ _ _ _ _ _ (p1 x) (p1 y) h1, step _ _ _ _ _ _ _ (p2 x) (p2 y) hb, step _ _ _ _ _ _ _ (p3 x) (p3 y) h2]
  any_goals (first | rfl | (simp; done))
  simp only [Op.eqFields, Sem.run_pure]
  obtain ⟨xa, xs, xk⟩ := x
  obtain ⟨ya, ys, yk⟩ := y
  by_cases e1 : xa = ya <;> by_cases e2 : xs = ys <;> by_cases e3 : xk = yk <;> simp [e1, e2, e3]
instance (x y : Key) : EqOn Try.prog 31 x.v y.v (decide (x = y)) where
  eq := fun w => by
    have h : (Op.equalIn 10000 31 x.v y.v).run Try.prog w = _ := eq_key 9997 x y w
    unfold Key.v at h ⊢
    rw [run_eql_struct, h]; simp only [Result.andThen_ok]
  ne := fun w => by
    have h : (Op.equalIn 10000 31 x.v y.v).run Try.prog w = _ := eq_key 9997 x y w
    unfold Key.v at h ⊢
    rw [run_neq_struct, h]; simp only [Result.andThen_ok]
  guard := fun op p q w => by simp only [Key.v]; exact run_eqGuard_agg _ _ _ _ _ _ _ (by kernel_rfl)
instance (a b : Bool) : EqOn Try.prog 4 (.bool a) (.bool b) (a == b) where
  eq := fun w => by
    have h : (Op.equalIn 10000 4 (.bool a) (.bool b)).run Try.prog w = .ok (a == b) w := run_equalIn_bool' w 9999 4 a b Try.underlying4
    have e : binOp .eql 4 (.bool a) (.bool b) = (do pure (Value.bool (← Op.equalIn 10000 4 (.bool a) (.bool b)))) := rfl
    rw [e, Sem.run_bind, h]; simp only [Result.andThen_ok, Sem.run_pure]
  ne := fun w => by
    have h : (Op.equalIn 10000 4 (.bool a) (.bool b)).run Try.prog w = .ok (a == b) w := run_equalIn_bool' w 9999 4 a b Try.underlying4
    have e : binOp .neq 4 (.bool a) (.bool b) = (do pure (Value.bool (!(← Op.equalIn 10000 4 (.bool a) (.bool b))))) := rfl
    rw [e, Sem.run_bind, h]; simp only [Result.andThen_ok, Sem.run_pure]
  guard := fun op p q w => run_eqGuard_bool w
end Go.Rail
namespace Go.Rail
open Go Go.Proofs
set_option linter.unusedSimpArgs false
set_option linter.unusedVariables false
set_option maxHeartbeats 400000
set_option maxRecDepth 4000
attribute [local irreducible] OpK G W LW wpListIn Exit.then Exit.inBlock Post rounds opRun bodyPostM intOp
attribute [local irreducible] lexN cmpW cmpA cmpK
theorem key_slot (k : Key) : k.cells[0 + 20]? = some (.bool k.slot) := Key.cells_slot k
theorem same_spec (v u : Value) (xs ys : List Key) (hx : xs.length ≤ 4611686018427387904) (hy : ys.length ≤ 4611686018427387904) : FnV Try.prog 64 [v, u] [fRp v xs, fRp u ys] (.bool (decide (xs = ys))) := by
  refine Fn.enter Try.func64 rfl Try.ntmps64 (by simp) (fun I0 w0 => ?_)
  by_cases hl : xs.length = ys.length
  · repeat (first | refine stp ?_ | (refine sti ?_; intro _) | refine stf ?_ | (refine stb ?_; intro _))
    refine W.loopI (fun (i : Nat) => ([fRp v xs, fRp u ys], [(0, v), (1, u), (5, .int .i64 i)], _)) (fun i => i ≤ xs.length ∧ xs.take i = ys.take i) (fun i => xs.length - i) 0 ⟨by omega, by simp⟩ inferInstance (look_sub_cons rfl (look_sub_cons rfl (look_sub_cons rfl look_sub_nil))) (List.Sublist.refl _) ?_
    intro i ⟨hi, hw⟩
    dsimp only
    by_cases hi0 : i = xs.length
    · subst hi0
      repeat (first | refine stp ?_ | (refine sti ?_; intro _) | refine stf ?_ | (refine stb ?_; intro _))
      refine G.ret rfl (.cons (.tmp rfl) .nil) (Φ' := []) (M' := []) inferInstance (List.nil_sublist _) ⟨?_, rfl, rfl⟩
      rw [List.take_length, hl, List.take_length] at hw
      simp [tup, hw]
    · have hi1 : i < xs.length := by omega
      have hi2 : i < ys.length := by omega
      repeat (first | refine stp ?_ | (refine sti ?_; intro _) | refine stf ?_ | (refine stb ?_; intro _))
      refine W.draw 9 [⟨?v0_4, fun _ z => []⟩, ⟨?v1_4, fun _ z => []⟩, ⟨fun _ z => z, fun _ z => [fPt z xs[i]]⟩, ⟨?v3_4, fun _ z => []⟩, ⟨?v4_4, fun _ z => []⟩, ⟨?v5_4, fun _ z => []⟩, ⟨fun _ z => z, fun _ z => [fPt z ys[i]]⟩, ⟨?v7_4, fun _ z => []⟩, ⟨?v8_4, fun _ z => []⟩] [[], [], [0, 1], [2], [], [], [4, 5], [6], [3, 7]] [8] (by kernel_rfl) (by kernel_rfl) (by kernel_rfl) (by kernel_rfl) ?loc_4 ?ops_4 ?rest_4
      case ops_4 =>
        simp only [AllQ, Nat.reduceAdd, and_true]
        refine ⟨?_, ?_, ?_, ?_, ?_, ?_, ?_, ?_, ?_⟩
        all_goals (intro c z0 Φr Lr K hK; dsimp only [dstOf, kval, kfac, ancE, ancF, getD_z, getD_s, List.getElem?_cons_zero, List.getElem?_cons_succ, List.getElem?_nil, Option.getD_some, Option.getD_none, List.nil_append, List.cons_append, Option.getD] at hK ⊢)
        · refine stp ?_; exact hK z0
        · refine stp ?_; exact hK z0
        · refine o_idxN i rfl rfl rfl rfl rfl hi1 ?_; intro p; exact hK _
        iterate 3 ((first | refine stp ?_ | refine stf ?_); exact hK z0)
        · refine o_idxN i rfl rfl rfl rfl rfl hi2 ?_; intro p; exact hK _
        · (first | refine stp ?_ | refine stf ?_); exact hK z0
        · refine stp ?_; exact hK z0
      case loc_4 =>
        simp only [AllL, Nat.reduceAdd, and_true]
        refine ⟨?_, ?_, ?_, ?_, ?_, ?_, ?_, ?_, ?_⟩
        all_goals (intro c c' z h; first | exact ⟨rfl, rfl⟩ | (skip))
      intro c
      dsimp only [dstOf, kval, kfac, ancE,  ancF, getD_z, getD_s, List.getElem?_cons_zero, List.getElem?_cons_succ, List.getElem?_nil, Option.getD_some, Option.getD_none, List.nil_append, List.cons_append, List.drop_succ_cons, List.drop_zero, Option.getD]
      repeat (first | refine stp ?_ | (refine sti ?_; intro _) | refine stf ?_ | (refine stb ?_; intro _))
      by_cases he : xs[i] = ys[i]
      · refine W.cond_false (congrArg (fun b => some (Value.bool !b)) (decide_eq_true he)) ?_
        repeat (first | refine stp ?_ | (refine sti ?_; intro _) | refine stf ?_ | (refine stb ?_; intro _))
        refine G.again (i + 1) (by omega) ⟨by omega, by rw [List.take_succ_eq_append_getElem hi1, List.take_succ_eq_append_getElem hi2, hw, he]⟩ inferInstance (look_sub_cons rfl (look_sub_cons rfl (look_sub_cons rfl look_sub_nil))) (List.Sublist.refl _)
      · refine W.cond_true (congrArg (fun b => some (Value.bool !b)) (decide_eq_false he)) ?_
        repeat (first | refine stp ?_ | (refine sti ?_; intro _) | refine stf ?_ | (refine stb ?_; intro _))
        refine G.ret rfl (.cons (.tmp rfl) .nil) (Φ' := []) (M' := []) inferInstance (List.nil_sublist _) ⟨?_, rfl, rfl⟩
        have hne : xs ≠ ys := fun e => he (by subst e; rfl)
        simp [tup, hne]
  · have hne : xs ≠ ys := fun e => hl (by rw [e])
    repeat (first | refine stp ?_ | (refine sti ?_; intro _) | refine stf ?_ | (refine stb ?_; intro _))
    refine G.ret rfl (.cons (.tmp rfl) .nil) (Φ' := []) (M' := []) inferInstance (List.nil_sublist _) ⟨?_, rfl, rfl⟩
    simp [tup, hne]
theorem same2_spec (v u : Value) (s t : Sets) (h1 : s.reads.length ≤ 4611686018427387904 ∧ s.writes.length ≤ 4611686018427387904) (h2 : t.reads.length ≤ 4611686018427387904 ∧ t.writes.length ≤ 4611686018427387904) : FnV Try.prog 23 [v, u] [fRp v s, fRp u t] (.bool (decide (s.reads = t.reads ∧ s.writes = t.writes))) := by
  refine Fn.enter Try.func23 rfl Try.ntmps23 (by simp) (fun I0 w0 => ?_)
  refine W.bare (G.sets v s ?_)
  intro r w hv
  refine G.sets u t ?_
  intro r' w' hu
  subst hv hu
  by_cases hr : s.reads = t.reads
  · repeat (first | refine stp ?_ | (refine sti ?_; intro _) | refine stf ?_ | (refine stb ?_; intro _))
    refine o_callV rfl rfl rfl rfl (same_spec r r' s.reads t.reads h1.1 h2.1) (congrArg Value.bool (decide_eq_true hr)) ?_
    repeat (first | refine stp ?_ | (refine sti ?_; intro _) | refine stf ?_ | (refine stb ?_; intro _))
    refine o_callV rfl rfl rfl rfl (same_spec w w' s.writes t.writes h1.2 h2.2) rfl ?_
    repeat (first | refine stp ?_ | (refine sti ?_; intro _) | refine stf ?_ | (refine stb ?_; intro _))
    refine G.ret rfl (.cons (.tmp rfl) .nil) (Φ' := []) (M' := []) inferInstance (List.nil_sublist _) ⟨?_, rfl, rfl⟩
    simp [tup, hr]
  · repeat (first | refine stp ?_ | (refine sti ?_; intro _) | refine stf ?_ | (refine stb ?_; intro _))
    refine o_callV rfl rfl rfl rfl (same_spec r r' s.reads t.reads h1.1 h2.1) (congrArg Value.bool (decide_eq_false hr)) ?_
    repeat (first | refine stp ?_ | (refine sti ?_; intro _) | refine stf ?_ | (refine stb ?_; intro _))
    refine G.ret rfl (.cons (.tmp rfl) .nil) (Φ' := []) (M' := []) inferInstance (List.nil_sublist _) ⟨?_, rfl, rfl⟩
    simp [tup, hr]

end Go.Rail
namespace Go.Rail
open Go Go.Proofs
set_option linter.unusedSimpArgs false
set_option linter.unusedVariables false
set_option maxHeartbeats 400000
set_option maxRecDepth 4000
attribute [local irreducible] OpK G W LW wpListIn Exit.then Exit.inBlock Post rounds opRun bodyPostM intOp
attribute [local irreducible] lexN cmpW cmpA cmpK
/-- Sets and an error. -/
def RSets (s : Sets × Int) : Value → List Fa → Own → Prop := fun u Φ' M' => ∃ sv, u = .tuple #[sv, .int .i64 s.2] ∧ Φ' = [fRp sv s.1] ∧ M' = []
theorem RSets.mk {s : Sets × Int} {s1 : Sets} {e : Int} {sv : Value} (h : s = (s1, e)) : RSets s (tup [sv, .int .i64 e]) [fRp sv s1] [] := by subst h; exact ⟨sv, rfl, rfl, rfl⟩
end Go.Rail
namespace Go.Rail
open Go Go.Proofs
set_option linter.unusedSimpArgs false
set_option linter.unusedVariables false
set_option maxHeartbeats 400000
set_option maxRecDepth 4000
attribute [local irreducible] OpK G W LW wpListIn Exit.then Exit.inBlock Post rounds opRun bodyPostM intOp
attribute [local irreducible] lexN cmpW cmpA cmpK
theorem odd_spec (k : Key) : FnV Try.prog 60 [k.v] [] (.bool (!mayK k)) := by
  refine Fn.enter Try.func60 rfl Try.ntmps60 (by simp) (fun I0 w0 => ?_)
  repeat (first | refine stp ?_ | (refine sti ?_; intro _) | refine stf ?_ | (refine stb ?_; intro _))
  cases hs : k.slot with
  | true =>
    refine o_load1 rfl rfl rfl ((key_slot k).trans (by rw [hs])) ?_
    repeat (first | refine stp ?_ | (refine sti ?_; intro _) | refine stf ?_ | (refine stb ?_; intro _))
    refine G.ret rfl (.cons (.tmp rfl) .nil) (Φ' := []) (M' := []) inferInstance (List.nil_sublist _) ⟨?_, rfl, rfl⟩
    simp [tup, mayK, hs]
  | false =>
    refine o_load1 rfl rfl rfl ((key_slot k).trans (by rw [hs])) ?_
    repeat (first | refine stp ?_ | (refine sti ?_; intro _) | refine stf ?_ | (refine stb ?_; intro _))
    refine o_neq (v := Word.zero.v) rfl rfl rfl rfl rfl ?_
    repeat (first | refine stp ?_ | (refine sti ?_; intro _) | refine stf ?_ | (refine stb ?_; intro _))
    refine G.ret rfl (.cons (.tmp rfl) .nil) (Φ' := []) (M' := []) inferInstance (List.nil_sublist _) ⟨?_, rfl, rfl⟩
    simp [tup, mayK, hs]
theorem kind_spec (k : Key) : FnV Try.prog 53 [k.v] [] (.int .i64 (kindI k)) := by
  refine Fn.enter Try.func53 rfl Try.ntmps53 (by simp) (fun I0 w0 => ?_)
  repeat (first | refine stp ?_ | (refine sti ?_; intro _) | refine stf ?_ | (refine stb ?_; intro _))
  cases hs : k.slot with
  | true =>
    refine o_load1 rfl rfl rfl ((key_slot k).trans (by rw [hs])) ?_
    repeat (first | refine stp ?_ | (refine sti ?_; intro _) | refine stf ?_ | (refine stb ?_; intro _))
    refine G.ret rfl (.cons (.tmp rfl) .nil) (Φ' := []) (M' := []) inferInstance (List.nil_sublist _) ⟨?_, rfl, rfl⟩
    simp [tup, kindI, hs]
  | false =>
    refine o_load1 rfl rfl rfl ((key_slot k).trans (by rw [hs])) ?_
    repeat (first | refine stp ?_ | (refine sti ?_; intro _) | refine stf ?_ | (refine stb ?_; intro _))
    refine G.ret rfl (.cons (.tmp rfl) .nil) (Φ' := []) (M' := []) inferInstance (List.nil_sublist _) ⟨?_, rfl, rfl⟩
    simp [tup, kindI, hs]
theorem nan_spec (n : Int) : FnV Try.prog 95 [.int .i64 n] [] (.bool false) := by
  refine Fn.enter Try.func95 rfl Try.ntmps95 (by simp) (fun I0 w0 => ?_)
  repeat (first | refine stp ?_ | (refine sti ?_; intro _) | refine stf ?_ | (refine stb ?_; intro _))
  refine G.ret rfl (.cons (.tmp rfl) .nil) (Φ' := []) (M' := []) inferInstance (List.nil_sublist _) ⟨?_, rfl, rfl⟩
  rfl
theorem nan64_spec (n : Int) : FnV Try.prog 124 [.int .u64 n] [] (.bool false) := by
  refine Fn.enter Try.func124 rfl Try.ntmps124 (by simp) (fun I0 w0 => ?_)
  repeat (first | refine stp ?_ | (refine sti ?_; intro _) | refine stf ?_ | (refine stb ?_; intro _))
  refine G.ret rfl (.cons (.tmp rfl) .nil) (Φ' := []) (M' := []) inferInstance (List.nil_sublist _) ⟨?_, rfl, rfl⟩
  rfl
def cmpI (p q : Int) : Int := if p < q then -1 else if q < p then 1 else 0
theorem compare_spec (p q : Int) : FnV Try.prog 56 [.int .i64 p, .int .i64 q] [] (.int .i64 (cmpI p q)) := by
  refine Fn.enter Try.func56 rfl Try.ntmps56 (by simp) (fun I0 w0 => ?_)
  unfold cmpI
  rcases Int.lt_trichotomy p q with h | h | h
  all_goals
    repeat (first | refine stp ?_ | (refine sti ?_; intro _) | refine stf ?_ | (refine stb ?_; intro _))
    refine o_callV rfl rfl rfl rfl (nan_spec p) rfl ?_
    repeat (first | refine stp ?_ | (refine sti ?_; intro _) | refine stf ?_ | (refine stb ?_; intro _))
    refine o_callV rfl rfl rfl rfl (nan_spec q) rfl ?_
    repeat (first | refine stp ?_ | (refine sti ?_; intro _) | refine stf ?_ | (refine stb ?_; intro _))
    refine G.ret rfl (.cons (.tmp rfl) .nil) (Φ' := []) (M' := []) inferInstance (List.nil_sublist _) ⟨?_, rfl, rfl⟩
  · rw [if_pos h]; rfl
  · rw [if_neg (by omega), if_neg (by omega)]; rfl
  · rw [if_neg (by omega), if_pos h]; rfl
theorem compare64_spec (p q : Int) : FnV Try.prog 98 [.int .u64 p, .int .u64 q] [] (.int .i64 (cmpI p q)) := by
  refine Fn.enter Try.func98 rfl Try.ntmps98 (by simp) (fun I0 w0 => ?_)
  unfold cmpI
  rcases Int.lt_trichotomy p q with h | h | h
  all_goals
    repeat (first | refine stp ?_ | (refine sti ?_; intro _) | refine stf ?_ | (refine stb ?_; intro _))
    refine o_callV rfl rfl rfl rfl (nan64_spec p) rfl ?_
    repeat (first | refine stp ?_ | (refine sti ?_; intro _) | refine stf ?_ | (refine stb ?_; intro _))
    refine o_callV rfl rfl rfl rfl (nan64_spec q) rfl ?_
    repeat (first | refine stp ?_ | (refine sti ?_; intro _) | refine stf ?_ | (refine stb ?_; intro _))
    refine G.ret rfl (.cons (.tmp rfl) .nil) (Φ' := []) (M' := []) inferInstance (List.nil_sublist _) ⟨?_, rfl, rfl⟩
  · rw [if_pos h]; rfl
  · rw [if_neg (by omega), if_neg (by omega)]; rfl
  · rw [if_neg (by omega), if_pos h]; rfl
/-- Where a key stands first. -/
def idxK (p : Key → Bool) (xs : List Key) : Int := if xs.any p then (xs.findIdx p : Int) else -1
theorem idxK_none {p : Key → Bool} {xs : List Key} (h : ∀ k ∈ xs, p k = false) : idxK p xs = -1 := by
  rw [idxK, if_neg]; simpa using h
theorem idxK_at {p : Key → Bool} {xs : List Key} {i : Nat} (hi : i < xs.length) (h : ∀ k ∈ xs.take i, p k = false) (hp : p xs[i] = true) : idxK p xs = i := by
  rw [idxK, if_pos (List.any_eq_true.2 ⟨_, List.getElem_mem hi, hp⟩)]
  congr 1
  refine (List.findIdx_eq hi).2 ⟨hp, fun j hj => ?_⟩
  exact h _ (List.mem_take_iff_getElem.2 ⟨j, by omega, rfl⟩)
theorem idxK_nn (p : Key → Bool) (xs : List Key) : decide (idxK p xs ≥ 0) = xs.any p := by
  unfold idxK
  cases xs.any p <;> simp
theorem idxOdd_spec (v : Value) (xs : List Key) (hx : xs.length ≤ 4611686018427387904) : FnV Try.prog 99 [v, .func (.func 60) #[] #[]] [fRp v xs] (.int .i64 (idxK (fun k => !mayK k) xs)) := by
  refine Fn.enter Try.func99 rfl Try.ntmps99 (by simp) (fun I0 w0 => ?_)
  repeat (first | refine stp ?_ | (refine sti ?_; intro _) | refine stf ?_ | (refine stb ?_; intro _))
  refine W.loopI (fun (i : Nat) => ([fRp v xs], [(0, v), (1, _), (7, .int .i64 xs.length), (8, .int .i64 i)], [])) (fun i => i ≤ xs.length ∧ ∀ k ∈ xs.take i, (!mayK k) = false) (fun i => xs.length - i) 0 ⟨by omega, by simp⟩ inferInstance (look_sub_cons rfl (look_sub_cons rfl (look_sub_cons rfl (look_sub_cons rfl look_sub_nil)))) (List.Sublist.refl _) ?_
  intro i ⟨hi, hm⟩
  dsimp only
  by_cases hi0 : i = xs.length
  · subst hi0
    rw [List.take_length] at hm
    repeat (first | refine stp ?_ | (refine sti ?_; intro _) | refine stf ?_ | (refine stb ?_; intro _))
    refine G.ret rfl (.cons (.tmp rfl) .nil) (Φ' := []) (M' := []) inferInstance (List.nil_sublist _) ⟨?_, rfl, rfl⟩
    rw [idxK_none hm]; rfl
  · have hi1 : i < xs.length := by omega
    repeat (first | refine stp ?_ | (refine sti ?_; intro _) | refine stf ?_ | (refine stb ?_; intro _))
    cases hk : mayK xs[i] with
    | true =>
      refine o_callV rfl rfl rfl rfl (odd_spec _) (congrArg (fun b => Value.bool !b) hk) ?_
      repeat (first | refine stp ?_ | (refine sti ?_; intro _) | refine stf ?_ | (refine stb ?_; intro _))
      refine G.again (i + 1) (by omega) ⟨by omega, fun k hk' => ((mem_take_succ hi1).1 hk').elim (hm k) (fun e => by rw [← e, hk]; rfl)⟩ inferInstance (look_sub_cons rfl (look_sub_cons rfl (look_sub_cons rfl (look_sub_cons rfl look_sub_nil)))) (List.Sublist.refl _)
    | false =>
      refine o_callV rfl rfl rfl rfl (odd_spec _) (congrArg (fun b => Value.bool !b) hk) ?_
      repeat (first | refine stp ?_ | (refine sti ?_; intro _) | refine stf ?_ | (refine stb ?_; intro _))
      refine G.ret rfl (.cons (.tmp rfl) .nil) (Φ' := []) (M' := []) inferInstance (List.nil_sublist _) ⟨?_, rfl, rfl⟩
      rw [idxK_at hi1 hm (by rw [hk]; rfl)]; rfl
theorem anyOdd_spec (v : Value) (xs : List Key) (hx : xs.length ≤ 4611686018427387904) : FnV Try.prog 59 [v, .func (.func 60) #[] #[]] [fRp v xs] (.bool (xs.any fun k => !mayK k)) := by
  refine Fn.enter Try.func59 rfl Try.ntmps59 (by simp) (fun I0 w0 => ?_)
  repeat (first | refine stp ?_ | (refine sti ?_; intro _) | refine stf ?_ | (refine stb ?_; intro _))
  refine o_callV rfl rfl rfl rfl (idxOdd_spec v xs hx) rfl ?_
  repeat (first | refine stp ?_ | (refine sti ?_; intro _) | refine stf ?_ | (refine stb ?_; intro _))
  refine G.ret rfl (.cons (.tmp rfl) .nil) (Φ' := []) (M' := []) inferInstance (List.nil_sublist _) ⟨?_, rfl, rfl⟩
  rw [← idxK_nn]; rfl
end Go.Rail
