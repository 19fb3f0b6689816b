/- lanes.Pick, lanes.Run. -/
import Derived.Test.YtoiepfapghnccaaGreatAN7
import Derived.Test.YtoiepfapghnccaaGreatAEqOne
import Derived.Lib.Mul64
import Derived.Laws.Bits64b
namespace Go.Rail
open Go Go.Proofs
set_option linter.unusedSimpArgs false
set_option linter.unusedVariables false
set_option maxHeartbeats 400000
set_option maxRecDepth 4000
attribute [local irreducible] OpK G W LW wpListIn Exit.then Exit.inBlock Post rounds opRun bodyPostM intOp
attribute [local irreducible] badM rightS mayG clashS edgesG edgesI clG rightL donesL heldL shapeL idxG errG edgesR idleR readyR errR fillLot pickL noP
theorem ppick_spec (v : Value) (l : Lot) (hl : FitL l) (lane : Int) : Fn Tryz.prog 13 [v, .int .i64 lane] [fRp v l] [] (RLot (fun a => .tuple #[a, .bool (isR l lane), .int .i64 (errL l)]) (pickR l lane)) := by
  have hr := fun w => lright_spec w l hl
  refine Fn.enter Tryz.func13 rfl Tryz.ntmps13 (by simp) (fun I0 w0 => ?_)
  refine W.bare (G.lot v l ?_)
  intro a1 c1 a2 c2 a3 c3 a4 c4 a5 c5 e
  subst e
  unfold isR errL pickR
  cases h : rightL l with
  | false =>
    rw [h] at hr
    repeat (first | refine stp ?_ | (refine sti ?_; intro _) | refine stf ?_ | (refine stb ?_; intro _))
    refine o_callV rfl rfl rfl rfl (hr _) rfl ?_
    repeat (first | refine stp ?_ | (refine sti ?_; intro _) | refine stf ?_ | (refine stb ?_; intro _))
    refine OpK.call rfl rfl rfl rfl (Fn.givenLot (own_spec _ l hl)) inferInstance (Mr := _) (List.Perm.refl _) ?_
    rintro u Φ' Mc' ⟨_, rfl, rfl, rfl⟩
    dsimp only [List.cons_append, List.nil_append, id]
    refine G.lot u l ?_
    intro a10 c10 a20 c20 a30 c30 a40 c40 a50 c50 e
    subst e
    repeat (first | refine stp ?_ | (refine sti ?_; intro _) | refine stf ?_ | (refine stb ?_; intro _))
    exact G.ret rfl (.cons (.cellA rfl rfl) (.cons (.tmp rfl) (.cons (.tmp rfl) .nil))) (Φ' := [fRp (.agg #[.slice a10 l.sets.length c10, .slice a20 l.left.length c20, .slice a30 l.at_.length c30, .slice a40 l.begun.length c40, .slice a50 l.done.length c50]) l]) (M' := []) inferInstance (List.nil_sublist _) ⟨_, rfl, rfl, rfl⟩
  | true =>
    rw [h] at hr
    have hri := rightL_iff.1 h
    have hri' := pick_right hri lane
    rw [if_pos rfl, if_pos rfl]
    have hpk := fun w => Fn.givenLot (lpick_spec w l hl hri lane)
    generalize pickL l lane = l2 at hpk hri' ⊢
    repeat (first | refine stp ?_ | (refine sti ?_; intro _) | refine stf ?_ | (refine stb ?_; intro _))
    refine o_callV rfl rfl rfl rfl (hr _) rfl ?_
    repeat (first | refine stp ?_ | (refine sti ?_; intro _) | refine stf ?_ | (refine stb ?_; intro _))
    refine OpK.call rfl rfl rfl rfl (hpk _) inferInstance (Mr := _) (List.Perm.refl _) ?_
    rintro u Φ' Mc' ⟨v', rfl, rfl, rfl⟩
    dsimp only [List.cons_append, List.nil_append]
    refine G.lot v' l2 ?_
    intro a10 c10 a20 c20 a30 c30 a40 c40 a50 c50 e
    subst e
    repeat (first | refine stp ?_ | (refine sti ?_; intro _) | refine stf ?_ | (refine stb ?_; intro _))
    exact G.ret rfl (.cons (.cellA rfl rfl) (.cons (.tmp rfl) (.cons (.tmp rfl) .nil))) (Φ' := [fRp (.agg #[.slice a10 l2.sets.length c10, .slice a20 l2.left.length c20, .slice a30 l2.at_.length c30, .slice a40 l2.begun.length c40, .slice a50 l2.done.length c50]) l2]) (M' := []) inferInstance (List.nil_sublist _) ⟨_, rfl, rfl, rfl⟩
structure RnSt where
  i : Nat
  s : Lot
  n : Int
  is : Bool
  a1 : Option Addr
  c1 : Nat
  a2 : Option Addr
  c2 : Nat
  a3 : Option Addr
  c3 : Nat
  a4 : Option Addr
  c4 : Nat
  a5 : Option Addr
  c5 : Nat
theorem run_spec (v vp : Value) (l : Lot) (ps : List Int) (hl : FitL l) (hp : ps.length ≤ 4611686018427387904) : Fn Tryz.prog 15 [v, vp] [fRp v l, fRp vp ps] [] (RLot (fun a => .tuple #[a, .int .i64 (cntL l ps), .int .i64 (errRun l ps)]) (runL l ps)) := by
  have hr := fun w => lright_spec w l hl
  refine Fn.enter Tryz.func15 rfl Tryz.ntmps15 (by simp) (fun I0 w0 => ?_)
  refine W.bare (G.lot v l ?_)
  intro a1 c1 a2 c2 a3 c3 a4 c4 a5 c5 e
  subst e
  unfold cntL errRun runL
  cases h : rightL l with
  | false =>
    rw [h] at hr
    repeat (first | refine stp ?_ | (refine sti ?_; intro _) | refine stf ?_ | (refine stb ?_; intro _))
    refine o_callV rfl rfl rfl rfl (hr _) rfl ?_
    repeat (first | refine stp ?_ | (refine sti ?_; intro _) | refine stf ?_ | (refine stb ?_; intro _))
    refine OpK.call rfl rfl rfl rfl (Fn.givenLot (own_spec _ l hl)) inferInstance (Mr := _) (List.Perm.refl _) ?_
    rintro u Φ' Mc' ⟨_, rfl, rfl, rfl⟩
    dsimp only [List.cons_append, List.nil_append, id]
    refine G.lot u l ?_
    intro a10 c10 a20 c20 a30 c30 a40 c40 a50 c50 e
    subst e
    repeat (first | refine stp ?_ | (refine sti ?_; intro _) | refine stf ?_ | (refine stb ?_; intro _))
    exact G.ret rfl (.cons (.cellA rfl rfl) (.cons (.tmp rfl) (.cons (.tmp rfl) .nil))) (Φ' := [fRp (.agg #[.slice a10 l.sets.length c10, .slice a20 l.left.length c20, .slice a30 l.at_.length c30, .slice a40 l.begun.length c40, .slice a50 l.done.length c50]) l]) (M' := []) inferInstance (List.nil_sublist _) ⟨_, rfl, rfl, rfl⟩
  | true =>
    rw [h] at hr
    have hri := rightL_iff.1 h
    rw [if_pos rfl, if_pos rfl, if_pos rfl]
    by_cases hlong : ps.length > 20000
    · rw [if_pos hlong, if_pos hlong, if_pos hlong]
      repeat (first | refine stp ?_ | (refine sti ?_; intro _) | refine stf ?_ | (refine stb ?_; intro _))
      refine o_callV rfl rfl rfl rfl (hr _) rfl ?_
      repeat (first | refine stp ?_ | (refine sti ?_; intro _) | refine stf ?_ | (refine stb ?_; intro _))
      refine OpK.call rfl rfl rfl rfl (Fn.givenLot (own_spec _ l hl)) inferInstance (Mr := _) (List.Perm.refl _) ?_
      rintro u Φ' Mc' ⟨_, rfl, rfl, rfl⟩
      dsimp only [List.cons_append, List.nil_append, id]
      refine G.lot u l ?_
      intro a10 c10 a20 c20 a30 c30 a40 c40 a50 c50 e
      subst e
      repeat (first | refine stp ?_ | (refine sti ?_; intro _) | refine stf ?_ | (refine stb ?_; intro _))
      exact G.ret rfl (.cons (.cellA rfl rfl) (.cons (.tmp rfl) (.cons (.tmp rfl) .nil))) (Φ' := [fRp (.agg #[.slice a10 l.sets.length c10, .slice a20 l.left.length c20, .slice a30 l.at_.length c30, .slice a40 l.begun.length c40, .slice a50 l.done.length c50]) l]) (M' := []) inferInstance (List.nil_sublist _) ⟨_, rfl, rfl, rfl⟩
    rw [if_neg hlong, if_neg hlong, if_neg hlong]
    repeat (first | refine stp ?_ | (refine sti ?_; intro _) | refine stf ?_ | (refine stb ?_; intro _))
    rename_i b2 b4
    refine o_callV rfl rfl rfl rfl (hr _) rfl ?_
    repeat (first | refine stp ?_ | (refine sti ?_; intro _) | refine stf ?_ | (refine stb ?_; intro _))
    refine OpK.call rfl rfl rfl rfl (Fn.givenLot (own_spec _ l hl)) inferInstance (Mr := _) (List.Perm.refl _) ?_
    rintro u Φ' Mc' ⟨_, rfl, rfl, rfl⟩
    dsimp only [List.cons_append, List.nil_append, id]
    refine G.lot u l ?_
    intro a10 c10 a20 c20 a30 c30 a40 c40 a50 c50 e
    subst e
    repeat (first | refine stp ?_ | (refine sti ?_; intro _) | refine stf ?_ | (refine stb ?_; intro _))
    refine W.loopI (fun (s : RnSt) => ([fRp (.agg #[.slice s.a1 s.s.sets.length s.c1, .slice s.a2 s.s.left.length s.c2, .slice s.a3 s.s.at_.length s.c3, .slice s.a4 s.s.begun.length s.c4, .slice s.a5 s.s.done.length s.c5]) s.s, fRp vp ps], [(2, .pointer (some ⟨b2, 0, none⟩)), (4, .pointer (some ⟨b4, 0, none⟩)), (7, .int .i64 s.n), (25, vp), (26, .int .i64 ps.length), (27, .int .i64 s.i)], [(b4, Ob [.slice none 0 0, .slice none 0 0, .slice none 0 0, .slice none 0 0, .slice none 0 0] 28), (b2, Ob [.slice s.a1 s.s.sets.length s.c1, .slice s.a2 s.s.left.length s.c2, .slice s.a3 s.s.at_.length s.c3, .slice s.a4 s.s.begun.length s.c4, .slice s.a5 s.s.done.length s.c5] 28)])) (fun s => s.i ≤ ps.length ∧ 0 ≤ s.n ∧ s.n ≤ s.i ∧ RightI s.s ∧ s.s.sets = l.sets ∧ runS s.s s.n (ps.drop s.i) = runS l 0 ps) (fun s => ps.length - s.i) ⟨0, l, 0, false, a10, c10, a20, c20, a30, c30, a40, c40, a50, c50⟩ ⟨Nat.zero_le _, Int.le_refl _, Int.le_refl _, hri, rfl, rfl⟩ inferInstance (look_sub_cons rfl (look_sub_cons rfl (look_sub_cons rfl (look_sub_cons rfl (look_sub_cons rfl (look_sub_cons rfl look_sub_nil)))))) (List.Sublist.refl _) ?_
    rintro ⟨i, s, n, is, a1, c1, a2, c2, a3, c3, a4, c4, a5, c5⟩ ⟨hi, hn0, hn1, hs, hss, hrun⟩
    dsimp only at hi hn0 hn1 hs hss hrun ⊢
    have hfs := FitL.of hl hs hss
    by_cases hi0 : i = ps.length
    · subst hi0
      rw [List.drop_length] at hrun
      rw [← hrun]
      unfold runS
      repeat (first | refine stp ?_ | (refine sti ?_; intro _) | refine stf ?_ | (refine stb ?_; intro _))
      exact G.ret rfl (.cons (.cellA rfl rfl) (.cons (.tmp rfl) (.cons (.tmp rfl) .nil))) (Φ' := [fRp (.agg #[.slice a1 s.sets.length c1, .slice a2 s.left.length c2, .slice a3 s.at_.length c3, .slice a4 s.begun.length c4, .slice a5 s.done.length c5]) s]) (M' := []) inferInstance (List.nil_sublist _) ⟨_, rfl, rfl, rfl⟩
    · have hi1 : i < ps.length := by omega
      rw [List.drop_eq_getElem_cons hi1, runS] at hrun
      have hpk := fun w => Fn.givenLot (lpick_spec w s hfs hs ps[i])
      have hs2 := pick_right hs ps[i]
      have hss2 : (pickL s ps[i]).sets = l.sets := by rw [pickL_sets]; exact hss
      generalize pickL s ps[i] = s2 at hpk hs2 hss2 hrun
      cases hno : noP s ps[i] with
      | true =>
        rw [hno] at hpk hrun
        rw [if_pos rfl] at hrun
        repeat (first | refine stp ?_ | (refine sti ?_; intro _) | refine stf ?_ | (refine stb ?_; intro _))
        refine OpK.call rfl rfl rfl rfl (hpk _) inferInstance (Mr := _) (List.Perm.refl _) ?_
        rintro u Φ' Mc' ⟨v', rfl, rfl, rfl⟩
        dsimp only [List.cons_append, List.nil_append]
        refine G.lot v' s2 ?_
        intro a10 c10 a20 c20 a30 c30 a40 c40 a50 c50 e
        subst e
        repeat (first | refine stp ?_ | (refine sti ?_; intro _) | refine stf ?_ | (refine stb ?_; intro _))
        exact G.again (S := RnSt) ⟨i + 1, s2, n, false, a10, c10, a20, c20, a30, c30, a40, c40, a50, c50⟩ (by dsimp only; omega) ⟨hi1, hn0, by dsimp only; omega, hs2, hss2, hrun⟩ inferInstance (look_sub_cons rfl (look_sub_cons rfl (look_sub_cons rfl (look_sub_cons rfl (look_sub_cons rfl (look_sub_cons rfl look_sub_nil)))))) (List.Sublist.refl _)
      | false =>
        rw [hno] at hpk hrun
        rw [if_neg (by simp)] at hrun
        repeat (first | refine stp ?_ | (refine sti ?_; intro _) | refine stf ?_ | (refine stb ?_; intro _))
        refine OpK.call rfl rfl rfl rfl (hpk _) inferInstance (Mr := _) (List.Perm.refl _) ?_
        rintro u Φ' Mc' ⟨v', rfl, rfl, rfl⟩
        dsimp only [List.cons_append, List.nil_append]
        refine G.lot v' s2 ?_
        intro a10 c10 a20 c20 a30 c30 a40 c40 a50 c50 e
        subst e
        repeat (first | refine stp ?_ | (refine sti ?_; intro _) | refine stf ?_ | (refine stb ?_; intro _))
        exact G.again (S := RnSt) ⟨i + 1, s2, n + 1, true, a10, c10, a20, c20, a30, c30, a40, c40, a50, c50⟩ (by dsimp only; omega) ⟨hi1, by dsimp only; omega, by dsimp only; omega, hs2, hss2, hrun⟩ inferInstance (look_sub_cons rfl (look_sub_cons rfl (look_sub_cons rfl (look_sub_cons rfl (look_sub_cons rfl (look_sub_cons rfl look_sub_nil)))))) (List.Sublist.refl _)
end Go.Rail
namespace Go.Rail
open Go Go.Proofs
set_option linter.unusedSimpArgs false
set_option linter.unusedVariables false
set_option maxHeartbeats 400000
set_option maxRecDepth 4000
attribute [local irreducible] OpK G W LW wpListIn Exit.then Exit.inBlock Post rounds opRun bodyPostM intOp
theorem u_mask (a : Nat) (ha : a < 18446744073709551616) : intOp .and .u64 (a : Int) 4294967295 = some (.int .u64 ((a % 4294967296 : Nat) : Int)) := by
  have h := bits_and_u64_nat a 4294967295 ha (by omega)
  have e : a &&& 4294967295 = a % 4294967296 := Nat.and_two_pow_sub_one_eq_mod a 32
  rw [e] at h
  unfold intOp
  exact congrArg (fun v => some (Value.int .u64 v)) h
theorem u_mul (a b : Nat) (h : a * b < 18446744073709551616) : intOp .mul .u64 (a : Int) (b : Int) = some (.int .u64 ((a * b : Nat) : Int)) := by
  unfold intOp
  refine congrArg (fun v => some (Value.int .u64 v)) ?_
  rw [← Int.natCast_mul, IntKind.wrap_u64]
  omega
theorem u_mulw (a b : Nat) : intOp .mul .u64 (a : Int) (b : Int) = some (.int .u64 ((a * b % 18446744073709551616 : Nat) : Int)) := by
  unfold intOp
  refine congrArg (fun v => some (Value.int .u64 v)) ?_
  rw [← Int.natCast_mul, IntKind.wrap_u64]
  omega
theorem u_add (a b : Nat) (h : a + b < 18446744073709551616) : intOp .add .u64 (a : Int) (b : Int) = some (.int .u64 ((a + b : Nat) : Int)) := by
  unfold intOp
  refine congrArg (fun v => some (Value.int .u64 v)) ?_
  rw [← Int.natCast_add, IntKind.wrap_u64]
  omega
theorem u_half (a : Nat) : Value.int .u64 ((a : Int).fdiv (2 ^ (min (32 : Int).toNat IntKind.u64.bits))) = .int .u64 ((a / 4294967296 : Nat) : Int) := by
  refine congrArg (Value.int .u64) ?_
  have e : (2 : Int) ^ (min (32 : Int).toNat IntKind.u64.bits) = 4294967296 := by decide
  rw [e, Int.fdiv_eq_ediv_of_nonneg _ (by omega)]
  omega
theorem mul64_spec (x y : Nat) (hx : x < 18446744073709551616) (hy : y < 18446744073709551616) : FnV Tryz.prog 75 [.int .u64 x, .int .u64 y] [] (.tuple #[.int .u64 ((x * y / 18446744073709551616 : Nat) : Int), .int .u64 ((x * y % 18446744073709551616 : Nat) : Int)]) := by
  obtain ⟨bd, bt, bw, hhi⟩ := Lib.mul64_hi x y hx hy
  have ba := Lib.half_mul_le (a := x / 4294967296) (b := y / 4294967296) (by omega) (by omega)
  have bb := Lib.half_mul_le (a := x / 4294967296) (b := y % 4294967296) (by omega) (by omega)
  have bc := Lib.half_mul_le (a := x % 4294967296) (b := y / 4294967296) (by omega) (by omega)
  refine Fn.enter Tryz.func75 rfl Tryz.ntmps75 (by simp) (fun I0 w0 => ?_)
  repeat (first | refine stp ?_ | (refine sti ?_; intro _) | refine stf ?_ | (refine stb ?_; intro _))
  refine o_int rfl rfl rfl rfl (u_mask x hx) ?_
  repeat (first | refine stp ?_ | (refine sti ?_; intro _) | refine stf ?_ | (refine stb ?_; intro _))
  refine o_shr rfl rfl rfl rfl (by decide) (u_half x) ?_
  repeat (first | refine stp ?_ | (refine sti ?_; intro _) | refine stf ?_ | (refine stb ?_; intro _))
  refine o_int rfl rfl rfl rfl (u_mask y hy) ?_
  repeat (first | refine stp ?_ | (refine sti ?_; intro _) | refine stf ?_ | (refine stb ?_; intro _))
  refine o_shr rfl rfl rfl rfl (by decide) (u_half y) ?_
  repeat (first | refine stp ?_ | (refine sti ?_; intro _) | refine stf ?_ | (refine stb ?_; intro _))
  refine o_int rfl rfl rfl rfl (u_mul _ _ (by omega)) ?_
  repeat (first | refine stp ?_ | (refine sti ?_; intro _) | refine stf ?_ | (refine stb ?_; intro _))
  refine o_int rfl rfl rfl rfl (u_mul _ _ (by omega)) ?_
  repeat (first | refine stp ?_ | (refine sti ?_; intro _) | refine stf ?_ | (refine stb ?_; intro _))
  refine o_shr rfl rfl rfl rfl (by decide) (u_half _) ?_
  repeat (first | refine stp ?_ | (refine sti ?_; intro _) | refine stf ?_ | (refine stb ?_; intro _))
  refine o_int rfl rfl rfl rfl (u_add _ _ (by omega)) ?_
  repeat (first | refine stp ?_ | (refine sti ?_; intro _) | refine stf ?_ | (refine stb ?_; intro _))
  refine o_int rfl rfl rfl rfl (u_mask _ (by omega)) ?_
  repeat (first | refine stp ?_ | (refine sti ?_; intro _) | refine stf ?_ | (refine stb ?_; intro _))
  refine o_shr rfl rfl rfl rfl (by decide) (u_half _) ?_
  repeat (first | refine stp ?_ | (refine sti ?_; intro _) | refine stf ?_ | (refine stb ?_; intro _))
  refine o_int rfl rfl rfl rfl (u_mul _ _ (by omega)) ?_
  repeat (first | refine stp ?_ | (refine sti ?_; intro _) | refine stf ?_ | (refine stb ?_; intro _))
  refine o_int rfl rfl rfl rfl (u_add _ _ (by omega)) ?_
  repeat (first | refine stp ?_ | (refine sti ?_; intro _) | refine stf ?_ | (refine stb ?_; intro _))
  refine o_int rfl rfl rfl rfl (u_mul _ _ (by omega)) ?_
  repeat (first | refine stp ?_ | (refine sti ?_; intro _) | refine stf ?_ | (refine stb ?_; intro _))
  refine o_int rfl rfl rfl rfl (u_add _ _ (by omega)) ?_
  repeat (first | refine stp ?_ | (refine sti ?_; intro _) | refine stf ?_ | (refine stb ?_; intro _))
  refine o_shr rfl rfl rfl rfl (by decide) (u_half _) ?_
  repeat (first | refine stp ?_ | (refine sti ?_; intro _) | refine stf ?_ | (refine stb ?_; intro _))
  refine o_int rfl rfl rfl rfl (u_add _ _ (by omega)) ?_
  repeat (first | refine stp ?_ | (refine sti ?_; intro _) | refine stf ?_ | (refine stb ?_; intro _))
  refine o_int rfl rfl rfl rfl (u_mulw x y) ?_
  repeat (first | refine stp ?_ | (refine sti ?_; intro _) | refine stf ?_ | (refine stb ?_; intro _))
  refine G.ret rfl (.cons (.tmp rfl) (.cons (.tmp rfl) .nil)) (Φ' := []) (M' := []) inferInstance (List.nil_sublist _) ⟨?_, rfl, rfl⟩
  rw [hhi]; rfl
theorem mulB_spec (x y : Nat) (hx : x < 18446744073709551616) (hy : y < 18446744073709551616) : FnV Tryz.prog 60 [.int .u64 x, .int .u64 y] [] (.tuple #[.int .u64 ((x * y / 18446744073709551616 : Nat) : Int), .int .u64 ((x * y % 18446744073709551616 : Nat) : Int)]) := by
  refine Fn.enter Tryz.func60 rfl Tryz.ntmps60 (by simp) (fun I0 w0 => ?_)
  repeat (first | refine stp ?_ | (refine sti ?_; intro _) | refine stf ?_ | (refine stb ?_; intro _))
  refine o_callV rfl rfl rfl rfl (mul64_spec x y hx hy) rfl ?_
  repeat (first | refine stp ?_ | (refine sti ?_; intro _) | refine stf ?_ | (refine stb ?_; intro _))
  refine G.ret rfl (.cons (.tmp rfl) (.cons (.tmp rfl) .nil)) (Φ' := []) (M' := []) inferInstance (List.nil_sublist _) ⟨rfl, rfl, rfl⟩
end Go.Rail
