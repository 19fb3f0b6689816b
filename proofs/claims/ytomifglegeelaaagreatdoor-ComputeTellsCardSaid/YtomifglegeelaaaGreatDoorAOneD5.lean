/- Raw numbers, words, addresses and keys: what the document's functions make of them. -/
import Derived.Test.YtomifglegeelaaaGreatDoorAEqD2
import Derived.Test.YtomifglegeelaaaGreatDoorRailB
import Derived.Test.YtomifglegeelaaaGreatDoorAD3D4
namespace Go.Rail
open Go Go.Proofs
set_option linter.unusedSimpArgs false
set_option linter.unusedVariables false
set_option maxHeartbeats 400000
set_option maxRecDepth 4000
attribute [local irreducible] OpK G W LW wpListIn Exit.then Exit.inBlock Post rounds opRun bodyPostM intOp
attribute [local irreducible] u8 u64
attribute [local irreducible] pickI
theorem of_spec (n : Int) : FnV Tryz.prog 10 [.int .i64 n] [] (Word.of n).v := by
  refine Fn.enter Tryz.func10 rfl Tryz.ntmps10 (by simp) (fun I0 w0 => ?_)
  by_cases hc : n < 0
  · repeat (first | refine stp ?_ | (refine sti ?_; intro _) | refine stf ?_ | (refine stb ?_; intro _))
    refine W.loopN 4 ?_
    repeat (first | refine stp ?_ | (refine sti ?_; intro _) | refine stf ?_ | (refine stb ?_; intro _))
    refine G.ret rfl (.cons (.cellA rfl rfl) .nil) (Φ' := []) (M' := []) inferInstance (List.nil_sublist _) ⟨?_, rfl, rfl⟩
    simp [tup, Word.of, hc, Word.v, Word.cells, cellsL]
  · repeat (first | refine stp ?_ | (refine sti ?_; intro _) | refine stf ?_ | (refine stb ?_; intro _))
    refine G.ret rfl (.cons (.cellA rfl rfl) .nil) (Φ' := []) (M' := []) inferInstance (List.nil_sublist _) ⟨?_, rfl, rfl⟩
    simp [tup, Word.of, hc, Word.v, Word.cells, cellsL]
theorem word_at (w : Word) {i : Nat} (h : i < 4) : w.cells[i]? = some (.int .u64 (w.parts.getD i 0).toNat) := by
  match i, h with
  | 0, _ => rfl
  | 1, _ => rfl
  | 2, _ => rfl
  | 3, _ => rfl
theorem cmpW_drop (x y : Word) (i : Nat) (h : i < 4) : lexN (x.code.drop (3 - i)) (y.code.drop (3 - i)) = if (x.parts.getD i 0).toNat < (y.parts.getD i 0).toNat then -1 else if (y.parts.getD i 0).toNat < (x.parts.getD i 0).toNat then 1 else lexN (x.code.drop (3 - i + 1)) (y.code.drop (3 - i + 1)) := by
  match i, h with
  | 0, _ => rfl
  | 1, _ => rfl
  | 2, _ => rfl
  | 3, _ => rfl
theorem cmp_spec (x y : Word) : FnV Tryz.prog 57 [x.v, y.v] [] (.int .i64 (cmpW x y)) := by
  refine Fn.enter Tryz.func57 rfl Tryz.ntmps57 (by simp) (fun I0 w0 => ?_)
  repeat (first | refine stp ?_ | (refine sti ?_; intro _) | refine stf ?_ | (refine stb ?_; intro _))
  refine W.loopI (fun (i : Nat) => ([], [(2, _), (3, _), (5, .int .i64 ((i : Int) - 1))], _)) (fun i => i ≤ 4 ∧ lexN (x.code.drop (4 - i)) (y.code.drop (4 - i)) = cmpW x y) (fun i => i) 4 ⟨by omega, rfl⟩ inferInstance (look_sub_cons rfl (look_sub_cons rfl (look_sub_cons rfl look_sub_nil))) (List.Sublist.refl _) ?_
  intro i ⟨hi, hw⟩
  dsimp only
  by_cases hi0 : i = 0
  · subst hi0
    repeat (first | refine stp ?_ | (refine sti ?_; intro _) | refine stf ?_ | (refine stb ?_; intro _))
    refine G.ret rfl (.cons (.tmp rfl) .nil) (Φ' := []) (M' := []) inferInstance (List.nil_sublist _) ⟨?_, rfl, rfl⟩
    have hw : 0 = cmpW x y := hw
    simp [tup, ← hw]
  · have hd := cmpW_drop x y (i - 1) (by omega)
    rw [show 3 - (i - 1) = 4 - i from by omega, show 4 - i + 1 = 4 - (i - 1) from by omega, hw] at hd
    repeat (first | refine stp ?_ | (refine sti ?_; intro _) | refine stf ?_ | (refine stb ?_; intro _))
    refine W.draw 7 [⟨?v0_1, fun _ z => []⟩, ⟨?v1_1, fun _ z => []⟩, ⟨?v2_1, fun _ z => []⟩, ⟨?v3_1, fun _ z => []⟩, ⟨?v4_1, fun _ z => []⟩, ⟨?v5_1, fun _ z => []⟩, ⟨?v6_1, fun _ z => []⟩] [[], [0], [1], [], [3], [4], [2, 5]] [6] (by kernel_rfl) (by kernel_rfl) (by kernel_rfl) (by kernel_rfl) ?loc_1 ?ops_1 ?rest_1
    case ops_1 =>
      simp only [AllQ, Nat.reduceAdd, and_true]
      refine ⟨?_, ?_, ?_, ?_, ?_, ?_, ?_⟩
      all_goals (intro c z0 Φr Lr K hK; dsimp only [dstOf, kval, kfac, ancE, ancF, getD_z, getD_s, List.getElem?_cons_zero, List.getElem?_cons_succ, List.getElem?_nil, Option.getD_some, Option.getD_none, List.nil_append, List.cons_append, Option.getD] at hK ⊢)
      · refine stp ?_; exact hK z0
      · refine o_index rfl rfl rfl rfl (by omega) (by omega) (o' := i - 1) (by omega) ?_; exact hK z0
      · refine o_load1 rfl rfl rfl (word_at x (by omega)) ?_; exact hK z0
      · refine stp ?_; exact hK z0
      · refine o_index rfl rfl rfl rfl (by omega) (by omega) (o' := i - 1) (by omega) ?_; exact hK z0
      · refine o_load1 rfl rfl rfl (word_at y (by omega)) ?_; exact hK z0
      · refine o_int rfl rfl rfl rfl (by first | exact i_lss_t (by omega) | exact i_lss_f (by omega) | exact i_lss_d | exact i_leq_t (by omega) | exact i_leq_f (by omega) | exact i_leq_d | exact i_gtr_t (by omega) | exact i_gtr_f (by omega) | exact i_gtr_d | exact i_geq_t (by omega) | exact i_geq_f (by omega) | exact i_geq_d | exact i_eql_t (by omega) | exact i_eql_f (by omega) | exact i_eql_d | exact i_neq_t (by omega) | exact i_neq_f (by omega) | exact i_neq_d | exact i_add (by omega) (by omega) | exact i_sub (by omega) (by omega) | exact i_mul (by omega) (by omega) | exact i_rem (by omega)) ?_; exact hK z0
    case loc_1 =>
      simp only [AllL, Nat.reduceAdd, and_true]
      refine ⟨?_, ?_, ?_, ?_, ?_, ?_, ?_⟩
      all_goals exact fun _ _ _ _ => ⟨rfl, rfl⟩
    intro c
    dsimp only [dstOf, kval, kfac, ancE,  ancF, getD_z, getD_s, List.getElem?_cons_zero, List.getElem?_cons_succ, List.getElem?_nil, Option.getD_some, Option.getD_none, List.nil_append, List.cons_append, List.drop_succ_cons, List.drop_zero, Option.getD]
    repeat (first | refine stp ?_ | (refine sti ?_; intro _) | refine stf ?_ | (refine stb ?_; intro _))
    refine W.cond rfl (fun hb => ?_) (fun hb => ?_)
    · have hb := of_decide_eq_true hb
      rw [if_pos (by omega)] at hd
      repeat (first | refine stp ?_ | (refine sti ?_; intro _) | refine stf ?_ | (refine stb ?_; intro _))
      refine G.ret rfl (.cons (.tmp rfl) .nil) (Φ' := []) (M' := []) inferInstance (List.nil_sublist _) ⟨?_, rfl, rfl⟩
      simp [tup, hd]
    have hb := of_decide_eq_false hb
    rw [if_neg (by omega)] at hd
    repeat (first | refine stp ?_ | (refine sti ?_; intro _) | refine stf ?_ | (refine stb ?_; intro _))
    refine W.draw 7 [⟨?v0_2, fun _ z => []⟩, ⟨?v1_2, fun _ z => []⟩, ⟨?v2_2, fun _ z => []⟩, ⟨?v3_2, fun _ z => []⟩, ⟨?v4_2, fun _ z => []⟩, ⟨?v5_2, fun _ z => []⟩, ⟨?v6_2, fun _ z => []⟩] [[], [0], [1], [], [3], [4], [2, 5]] [6] (by kernel_rfl) (by kernel_rfl) (by kernel_rfl) (by kernel_rfl) ?loc_2 ?ops_2 ?rest_2
    case ops_2 =>
      simp only [AllQ, Nat.reduceAdd, and_true]
      refine ⟨?_, ?_, ?_, ?_, ?_, ?_, ?_⟩
      all_goals (intro c z0 Φr Lr K hK; dsimp only [dstOf, kval, kfac, ancE, ancF, getD_z, getD_s, List.getElem?_cons_zero, List.getElem?_cons_succ, List.getElem?_nil, Option.getD_some, Option.getD_none, List.nil_append, List.cons_append, Option.getD] at hK ⊢)
      · refine stp ?_; exact hK z0
      · refine o_index rfl rfl rfl rfl (by omega) (by omega) (o' := i - 1) (by omega) ?_; exact hK z0
      · refine o_load1 rfl rfl rfl (word_at x (by omega)) ?_; exact hK z0
      · refine stp ?_; exact hK z0
      · refine o_index rfl rfl rfl rfl (by omega) (by omega) (o' := i - 1) (by omega) ?_; exact hK z0
      · refine o_load1 rfl rfl rfl (word_at y (by omega)) ?_; exact hK z0
      · refine o_int rfl rfl rfl rfl (by first | exact i_lss_t (by omega) | exact i_lss_f (by omega) | exact i_lss_d | exact i_leq_t (by omega) | exact i_leq_f (by omega) | exact i_leq_d | exact i_gtr_t (by omega) | exact i_gtr_f (by omega) | exact i_gtr_d | exact i_geq_t (by omega) | exact i_geq_f (by omega) | exact i_geq_d | exact i_eql_t (by omega) | exact i_eql_f (by omega) | exact i_eql_d | exact i_neq_t (by omega) | exact i_neq_f (by omega) | exact i_neq_d | exact i_add (by omega) (by omega) | exact i_sub (by omega) (by omega) | exact i_mul (by omega) (by omega) | exact i_rem (by omega)) ?_; exact hK z0
    case loc_2 =>
      simp only [AllL, Nat.reduceAdd, and_true]
      refine ⟨?_, ?_, ?_, ?_, ?_, ?_, ?_⟩
      all_goals exact fun _ _ _ _ => ⟨rfl, rfl⟩
    intro c
    dsimp only [dstOf, kval, kfac, ancE,  ancF, getD_z, getD_s, List.getElem?_cons_zero, List.getElem?_cons_succ, List.getElem?_nil, Option.getD_some, Option.getD_none, List.nil_append, List.cons_append, List.drop_succ_cons, List.drop_zero, Option.getD]
    repeat (first | refine stp ?_ | (refine sti ?_; intro _) | refine stf ?_ | (refine stb ?_; intro _))
    refine W.cond rfl (fun hb => ?_) (fun hb => ?_)
    · have hb := of_decide_eq_true hb
      rw [if_pos (by omega)] at hd
      repeat (first | refine stp ?_ | (refine sti ?_; intro _) | refine stf ?_ | (refine stb ?_; intro _))
      refine G.ret rfl (.cons (.tmp rfl) .nil) (Φ' := []) (M' := []) inferInstance (List.nil_sublist _) ⟨?_, rfl, rfl⟩
      simp [tup, hd]
    have hb := of_decide_eq_false hb
    rw [if_neg (by omega)] at hd
    repeat (first | refine stp ?_ | (refine sti ?_; intro _) | refine stf ?_ | (refine stb ?_; intro _))
    refine G.again (i - 1) (by omega) ⟨by omega, hd.symm⟩ inferInstance (look_sub_cons rfl (look_sub_cons rfl (look_sub_cons ?_ look_sub_nil))) (List.Sublist.refl _)
    rw [show ((i - 1 : Nat) : Int) - 1 = (i : Int) - 1 - 1 from by omega]
    rfl
end Go.Rail
namespace Go.Rail
open Go Go.Proofs
set_option linter.unusedSimpArgs false
set_option linter.unusedVariables false
set_option maxHeartbeats 400000
set_option maxRecDepth 4000
attribute [local irreducible] OpK G W LW wpListIn Exit.then Exit.inBlock Post rounds opRun bodyPostM intOp
set_option maxHeartbeats 4000000
attribute [local irreducible] Word.num Word.nat
instance cvD5_1 (a b : Word) {Φ : List Fa} : CV Tryz.prog 45 [a.v, b.v] Φ (addW a b).v := ⟨Fn.weaken (radd_spec a b)⟩
instance cvD5_2 (a b : Word) {Φ : List Fa} : CV Tryz.prog 47 [a.v, b.v] Φ (subW a b).v := ⟨Fn.weaken (rsub_spec a b)⟩
instance cvD5_3 (a b : Word) {Φ : List Fa} : CV Tryz.prog 46 [a.v, b.v] Φ (mulW a b).v := ⟨Fn.weaken (rmul_spec a b)⟩
instance cvD5_4 (a b : Word) {Φ : List Fa} : CV Tryz.prog 57 [a.v, b.v] Φ (.int .i64 (cmpW a b)) := ⟨Fn.weaken (cmp_spec a b)⟩
instance (priority := low) cvD5_5 (n : Int) {Φ : List Fa} : CV Tryz.prog 10 [.int .i64 n] Φ (Word.of n).v := ⟨Fn.weaken (of_spec n)⟩
theorem none_spec (w : Word) : FnV Tryz.prog 103 [w.v] [] (.bool (decide (w = .zero))) := by
  refine Fn.enter Tryz.func103 rfl Tryz.ntmps103 (by simp) (fun I0 w0 => ?_)
  repeat (first | (refine sty ?_; try intro _) | (refine st ?_; try intro _) | (refine stz ?_; try intro _))
  refine G.retV ?_
  rfl
instance cvD5_6 (a : Word) {Φ : List Fa} : CV Tryz.prog 103 [a.v] Φ (.bool (decide (a = .zero))) := ⟨Fn.weaken (none_spec a)⟩
theorem rbelow_spec (w : Word) : FnV Tryz.prog 106 [w.v] [] (.bool (negW w)) := by
  refine Fn.enter Tryz.func106 rfl Tryz.ntmps106 (by simp) (fun I0 w0 => ?_)
  repeat (first | (refine sty ?_; try intro _) | (refine st ?_; try intro _) | (refine stz ?_; try intro _))
  refine G.retV ?_
  refine congrArg Value.bool (decide_eq_decide.2 ?_)
  omega
instance cvD5_7 (a : Word) {Φ : List Fa} : CV Tryz.prog 106 [a.v] Φ (.bool (negW a)) := ⟨Fn.weaken (rbelow_spec a)⟩
theorem minus_spec (w : Word) : FnV Tryz.prog 107 [w.v] [] (minusW w).v := by
  refine Fn.enter Tryz.func107 rfl Tryz.ntmps107 (by simp) (fun I0 w0 => ?_)
  repeat (first | (refine sty ?_; try intro _) | (refine st ?_; try intro _) | (refine stz ?_; try intro _))
  refine G.retV ?_
  rfl
instance cvD5_8 (a : Word) {Φ : List Fa} : CV Tryz.prog 107 [a.v] Φ (minusW a).v := ⟨Fn.weaken (minus_spec a)⟩
theorem size_spec (w : Word) : FnV Tryz.prog 105 [w.v] [] (sizeW w).v := by
  refine Fn.enter Tryz.func105 rfl Tryz.ntmps105 (by simp) (fun I0 w0 => ?_)
  unfold sizeW
  cases h : negW w
  · rw [if_neg (by decide)]
    repeat (first | (refine sty ?_; try intro _) | (refine st ?_; try intro _) | (refine stz ?_; try intro _))
    refine G.retV ?_
    rfl
  · rw [if_pos rfl]
    repeat (first | (refine sty ?_; try intro _) | (refine st ?_; try intro _) | (refine stz ?_; try intro _))
    refine G.retV ?_
    rfl
instance cvD5_9 (a : Word) {Φ : List Fa} : CV Tryz.prog 105 [a.v] Φ (sizeW a).v := ⟨Fn.weaken (size_spec a)⟩
def subP (w n : Word) (over : Bool) : Word := if over || decide (n.num ≤ w.num) then subW w n else w
theorem rless_spec (w n : Word) (over : Bool) : FnV Tryz.prog 108 [w.v, .bool over, n.v] [] (.tuple #[(subP w n over).v, .bool (over || decide (n.num ≤ w.num))]) := by
  have hc := cmpW_num w n
  refine Fn.enter Tryz.func108 rfl Tryz.ntmps108 (by simp) (fun I0 w0 => ?_)
  unfold subP
  cases over
  · by_cases h : n.num ≤ w.num
    · rw [decide_eq_true h]
      have h2 : 0 ≤ cmpW w n := by rw [hc, if_neg (by omega)]; split <;> decide
      repeat (first | (refine sty ?_; try intro _) | (refine st ?_; try intro _) | (refine stz ?_; try intro _))
      refine G.retV ?_
      rfl
    · rw [decide_eq_false h]
      have h2 : cmpW w n < 0 := by rw [hc, if_pos (by omega)]; decide
      repeat (first | (refine sty ?_; try intro _) | (refine st ?_; try intro _) | (refine stz ?_; try intro _))
      refine G.retV ?_
      rfl
  · repeat (first | (refine sty ?_; try intro _) | (refine st ?_; try intro _) | (refine stz ?_; try intro _))
    refine G.retV ?_
    rfl
theorem num_add (a b : Word) : (addW a b).num = (a.num + b.num) % top256 := Word.num_nat _
theorem num_of1 : (Word.of 1).num = 1 := by kernel_rfl
theorem over_iff (w : Word) : 9223372036854775808 ≤ w.d.toNat ↔ top256 ≤ 2 * w.num := by
  have := w.a.toNat_lt; have := w.b.toNat_lt; have := w.c.toNat_lt; have := w.d.toNat_lt
  unfold Word.num
  simp only [top256]
  omega
def dblX (w : Word) (b : Bool) : Word := if b then addW (addW w w) (Word.of 1) else addW w w
theorem dblX_num (w : Word) (b : Bool) : (dblX w b).num = (2 * w.num + b.toNat) % top256 := by
  have := w.num_lt
  unfold dblX
  cases b
  · rw [if_neg (by decide), num_add, show w.num + w.num = 2 * w.num + 0 from by omega]; rfl
  · rw [if_pos rfl, num_add, num_add, num_of1]; simp only [Bool.toNat_true, top256] at *; omega
theorem dbl_law (w n : Word) (b : Bool) (h : w.num < n.num) (over : Bool) (ho : over = decide (9223372036854775808 ≤ w.d.toNat)) :
    Value.tuple #[(subP (dblX w b) n over).v, .bool (over || decide (n.num ≤ (dblX w b).num))] = .tuple #[(Word.nat ((2 * w.num + b.toNat) % n.num)).v, .bool (decide (n.num ≤ 2 * w.num + b.toNat))] := by
  have hn := n.num_lt
  have hb : b.toNat ≤ 1 := by cases b <;> decide
  have hx := dblX_num w b
  have key : (over || decide (n.num ≤ (dblX w b).num)) = decide (n.num ≤ 2 * w.num + b.toNat) := by
    subst ho
    by_cases h1 : 9223372036854775808 ≤ w.d.toNat
    · rw [decide_eq_true h1, Bool.true_or]
      have := (over_iff w).1 h1
      rw [decide_eq_true (by omega)]
    · rw [decide_eq_false h1, Bool.false_or, hx]
      have := mt (over_iff w).2 h1
      simp only [top256] at *
      rw [Nat.mod_eq_of_lt (by omega)]
  have key2 : subP (dblX w b) n over = Word.nat ((2 * w.num + b.toNat) % n.num) := by
    unfold subP
    rw [key]
    by_cases h2 : n.num ≤ 2 * w.num + b.toNat
    · rw [if_pos (decide_eq_true h2), Nat.mod_eq_sub_mod h2, Nat.mod_eq_of_lt (a := 2 * w.num + b.toNat - n.num) (by omega)]
      refine Word.nat_eq ?_
      rw [hx]
      simp only [top256] at *
      omega
    · rw [if_neg (by rw [decide_eq_false h2]; decide), Nat.mod_eq_of_lt (a := 2 * w.num + b.toNat) (by omega)]
      refine Word.num_inj.1 ?_
      rw [Word.num_nat, hx]
  rw [key, key2]
theorem double_spec (w n : Word) (b : Bool) (h : w.num < n.num) : FnV Tryz.prog 110 [w.v, .bool b, n.v] [] (.tuple #[(Word.nat ((2 * w.num + b.toNat) % n.num)).v, .bool (decide (n.num ≤ 2 * w.num + b.toNat))]) := by
  have hl := fun over => dbl_law w n b h over
  have hs := fun over => rless_spec (dblX w b) n over
  refine Fn.enter Tryz.func110 rfl Tryz.ntmps110 (by simp) (fun I0 w0 => ?_)
  unfold dblX at hl hs
  by_cases ho : 9223372036854775808 ≤ w.d.toNat
  · have hl := hl true (decide_eq_true ho).symm
    have hs := hs true
    cases b
    · rw [if_neg (by decide)] at hl hs
      repeat (first | (refine sty ?_; try intro _) | (refine st ?_; try intro _) | (refine stz ?_; try intro _))
      refine o_callV rfl rfl rfl rfl hs hl ?_
      repeat (first | (refine sty ?_; try intro _) | (refine st ?_; try intro _) | (refine stz ?_; try intro _))
      refine G.retV ?_
      rfl
    · rw [if_pos rfl] at hl hs
      repeat (first | (refine sty ?_; try intro _) | (refine st ?_; try intro _) | (refine stz ?_; try intro _))
      refine W.drawA 2 [dq _, dq _] [[], []] [0, 1] (hrest := fun c => nrm ?_) (hops := by
        iterate 2 refine AllQ.az ?_
        exact AllQ.nil)
      repeat (first | (refine sty ?_; try intro _) | (refine st ?_; try intro _) | (refine stz ?_; try intro _))
      refine o_callV rfl rfl rfl rfl hs hl ?_
      repeat (first | (refine sty ?_; try intro _) | (refine st ?_; try intro _) | (refine stz ?_; try intro _))
      refine G.retV ?_
      rfl
  · have hl := hl false (decide_eq_false ho).symm
    have hs := hs false
    cases b
    · rw [if_neg (by decide)] at hl hs
      repeat (first | (refine sty ?_; try intro _) | (refine st ?_; try intro _) | (refine stz ?_; try intro _))
      refine o_callV rfl rfl rfl rfl hs hl ?_
      repeat (first | (refine sty ?_; try intro _) | (refine st ?_; try intro _) | (refine stz ?_; try intro _))
      refine G.retV ?_
      rfl
    · rw [if_pos rfl] at hl hs
      repeat (first | (refine sty ?_; try intro _) | (refine st ?_; try intro _) | (refine stz ?_; try intro _))
      refine W.drawA 2 [dq _, dq _] [[], []] [0, 1] (hrest := fun c => nrm ?_) (hops := by
        iterate 2 refine AllQ.az ?_
        exact AllQ.nil)
      repeat (first | (refine sty ?_; try intro _) | (refine st ?_; try intro _) | (refine stz ?_; try intro _))
      refine o_callV rfl rfl rfl rfl hs hl ?_
      repeat (first | (refine sty ?_; try intro _) | (refine st ?_; try intro _) | (refine stz ?_; try intro _))
      refine G.retV ?_
      rfl
end Go.Rail
