/- How words, addresses and keys compare. -/
import Derived.Test.YtomifglegeelaaaGreatDoorRailB
import Derived.Test.YtomifglegeelaaaGreatDoorAFacts
import Derived.Test.YtomifglegeelaaaGreatDoorRailH
namespace Go.Rail
open Go Go.Proofs
set_option linter.unusedSimpArgs false
theorem info_some {P : Program} {t : TypeId} (h : (P.info? t).isSome = true) : ∃ i, P.info? t = some i := Option.isSome_iff_exists.1 h

theorem eq_word (d : Nat) (x y : Word) (w : World) : (Op.equalIn (d + 2) 24 x.v y.v).run Tryz.prog w = .ok (decide (x = y)) w := by
  obtain ⟨i, hi⟩ := info_some (P := Tryz.prog) (t := 22) (by kernel_rfl)
  have h := run_equalIn_ints (P := Tryz.prog) (d := d) (k := .u64) Tryz.underlying24 Tryz.underlying22 hi (by kernel_rfl) Tryz.isAgg22 (x.parts.map fun u => (u.toNat : Int)) (y.parts.map fun u => (u.toNat : Int)) rfl rfl w
  have e : (x.parts.map fun u => (u.toNat : Int)) = (y.parts.map fun u => (u.toNat : Int)) ↔ x = y := by
    cases x; cases y
    simp only [Word.parts, List.map_cons, List.map_nil, List.cons.injEq, Int.natCast_inj, UInt64.toNat_inj, and_true, Word.mk.injEq]
  have e2 : decide ((x.parts.map fun u => (u.toNat : Int)) = (y.parts.map fun u => (u.toNat : Int))) = decide (x = y) := decide_eq_decide.2 e
  rw [← e2]; exact h
instance (x y : Word) : EqOn Tryz.prog 24 x.v y.v (decide (x = y)) where
  eq := fun w => by
    have h : (Op.equalIn 10000 24 x.v y.v).run Tryz.prog w = _ := eq_word 9998 x y w
    unfold Word.v at h ⊢
    rw [run_eql_struct, h]; simp only [Result.andThen_ok]
  ne := fun w => by
    have h : (Op.equalIn 10000 24 x.v y.v).run Tryz.prog w = _ := eq_word 9998 x y w
    unfold Word.v at h ⊢
    rw [run_neq_struct, h]; simp only [Result.andThen_ok]
  guard := fun op p q w => by simp only [Word.v]; exact run_eqGuard_agg _ _ _ _ _ _ _ (by kernel_rfl)

instance (a b : Bool) : EqOn Tryz.prog 4 (.bool a) (.bool b) (a == b) where
  eq := fun w => by
    have h : (Op.equalIn 10000 4 (.bool a) (.bool b)).run Tryz.prog w = .ok (a == b) w := run_equalIn_bool' w 9999 4 a b Tryz.underlying4
    have e : binOp .eql 4 (.bool a) (.bool b) = (do pure (Value.bool (← Op.equalIn 10000 4 (.bool a) (.bool b)))) := rfl
    rw [e, Sem.run_bind, h]; simp only [Result.andThen_ok, Sem.run_pure]
  ne := fun w => by
    have h : (Op.equalIn 10000 4 (.bool a) (.bool b)).run Tryz.prog w = .ok (a == b) w := run_equalIn_bool' w 9999 4 a b Tryz.underlying4
    have e : binOp .neq 4 (.bool a) (.bool b) = (do pure (Value.bool (!(← Op.equalIn 10000 4 (.bool a) (.bool b))))) := rfl
    rw [e, Sem.run_bind, h]; simp only [Result.andThen_ok, Sem.run_pure]
  guard := fun op p q w => run_eqGuard_bool w
end Go.Rail
namespace Go.Rail
open Go Go.Proofs
set_option linter.unusedSimpArgs false
set_option linter.unusedVariables false
set_option maxHeartbeats 400000
set_option maxRecDepth 4000
attribute [local irreducible] OpK G W LW wpListIn Exit.then Exit.inBlock Post rounds opRun bodyPostM intOp
set_option maxHeartbeats 4000000
theorem p64 (i : Nat) : (2 : Nat) ^ (64 * i) = 256 ^ (8 * i) := by
  have := Nat.pow_mul 2 8 (8 * i)
  rw [show 8 * (8 * i) = 64 * i from by omega] at this
  exact this
theorem dig_word {n i k : Nat} (hk : k < 8) : n / 2 ^ (64 * i) % 18446744073709551616 / 256 ^ k % 256 = dg n (8 * i + k) := by
  rw [show (18446744073709551616 : Nat) = 256 ^ 8 from rfl, dig_mod (by decide) hk, Nat.div_div_eq_div_mul, p64, ← Nat.pow_add]
theorem digitsN_spec (n : Nat) : Fn Tryz.prog 100 [.agg (numC 4 n).toArray] [] [] (ROwn 3 (rowN 32 (dg n))) := by
  refine Fn.enter Tryz.func100 rfl Tryz.ntmps100 (by simp) (fun I0 w0 => ?_)
  repeat (first | (refine sty ?_; try intro _) | (refine st ?_; try intro _) | (refine stz ?_; try intro _))
  rename_i b
  refine W.lp (S := Nat × Value × OR) (fun s => ([fRow (ocells s.2.2) (rowN (8 * s.1) (dg n))], [(4, .int .i64 (s.1 : Int)), (3, s.2.1), (1, .pointer (some ⟨b, 0, none⟩))], [(b, Ob (numC 4 n) 24)] ++ ownM 3 s.2.2)) (fun s => s.1 ≤ 4 ∧ IsOwn 1 s.2.1 (8 * s.1) s.2.2) (fun s => 4 - s.1) (0, .slice none 0 0, none) ?_ (h0 := ⟨Nat.zero_le _, rfl, rfl⟩) (hΦ := by dsimp only [Nat.mul_zero, rowN, rowZ_zero, ocells]; infer_instance) (hM := by (repeat (first | exact List.Sublist.refl _ | apply List.Sublist.cons_cons | apply List.Sublist.cons)))
  rintro ⟨i, v, o⟩ ⟨hi, hown⟩
  dsimp only [List.cons_append, List.nil_append] at hi hown ⊢
  by_cases hi4 : i = 4
  · subst hi4
    repeat (first | (refine sty ?_; try intro _) | (refine st ?_; try intro _) | (refine stz ?_; try intro _))
    exact G.ret rfl (.cons (.tmp rfl) .nil) (M' := ownM 3 o) inferInstance (List.Sublist.cons _ (List.Sublist.refl _)) ⟨o, by rw [rowZ_length]; exact hown, rfl, rfl⟩
  · repeat (first | (refine sty ?_; try intro _) | (refine st ?_; try intro _) | (refine stz ?_; try intro _))
    refine W.lp (S := Nat × Nat × Value × OR) (fun s => ([fRow (ocells s.2.2.2) (rowN (8 * i + s.1) (dg n))], [(6, .int .i64 (s.1 : Int)), (5, .int .u64 (s.2.1 : Int)), (4, .int .i64 (i : Int)), (3, s.2.2.1), (1, .pointer (some ⟨b, 0, none⟩))], [(b, Ob (numC 4 n) 24)] ++ ownM 3 s.2.2.2)) (fun s => s.1 ≤ 8 ∧ s.2.1 = n / 2 ^ (64 * i) % 18446744073709551616 / 256 ^ s.1 ∧ s.2.1 < 18446744073709551616 ∧ IsOwn 1 s.2.2.1 (8 * i + s.1) s.2.2.2) (fun s => 8 - s.1) (0, n / 2 ^ (64 * i) % 18446744073709551616, v, o) ?_ (h0 := ⟨Nat.zero_le _, by simp, Nat.mod_lt _ (by decide), hown⟩)
    rintro ⟨k, x, w, p⟩ ⟨hk, hx, hx64, hown2⟩
    dsimp only [List.cons_append, List.nil_append] at hk hx hx64 hown2 ⊢
    by_cases hk8 : k = 8
    · subst hk8
      repeat (first | (refine sty ?_; try intro _) | (refine st ?_; try intro _) | (refine stz ?_; try intro _))
      exact G.ag (S := Nat × Value × OR) (i + 1, w, p) (hpre := ⟨by dsimp only; omega, hown2⟩)
    · have hd := dig_word (n := n) (i := i) (k := k) (by omega)
      rw [← hx] at hd
      have hd2 := rowZ_succ (8 * i + k) (fun i => ((dg n i : Nat) : Int))
      rw [← hd] at hd2
      have hx2 : x / 256 = n / 2 ^ (64 * i) % 18446744073709551616 / 256 ^ (k + 1) := by rw [hx, Nat.div_div_eq_div_mul, Nat.pow_succ]
      repeat (first | (refine sty ?_; try intro _) | (refine st ?_; try intro _) | (refine stz ?_; try intro _))
      refine o_app2 (Mr := [(b, Ob (numC 4 n) 24)]) p (xs := rowN (8 * i + k) (dg n)) (ys := [((x % 256 : Nat) : Int)]) (by rw [rowZ_length]; exact hown2) ⟨by simp [rowZ_length]; omega, by simp [rowZ_length]; omega, rfl⟩ rfl rfl rfl rfl inferInstance inferInstance (List.Perm.refl _) ?_
      intro w' p' hown'
      rw [← hd2] at hown' ⊢
      rw [rowZ_length] at hown'
      dsimp only [List.cons_append, List.nil_append]
      repeat (first | (refine sty ?_; try intro _) | (refine st ?_; try intro _) | (refine stz ?_; try intro _))
      exact G.ag (S := Nat × Nat × Value × OR) (k + 1, x / 256, w', p') (hpre := ⟨by dsimp only; omega, hx2, by dsimp only; omega, hown'⟩)
end Go.Rail
namespace Go.Rail
open Go Go.Proofs
set_option linter.unusedSimpArgs false
set_option linter.unusedVariables false
set_option maxHeartbeats 400000
set_option maxRecDepth 4000
attribute [local irreducible] OpK G W LW wpListIn Exit.then Exit.inBlock Post rounds opRun bodyPostM intOp
set_option maxHeartbeats 4000000
/-- What four parts hold when the digits from s on are told. -/
def stF (g : Nat → Nat) (s j : Nat) : Nat := sumB 256 (fun k => g (max s (8 * j) + k)) (8 * j + 8 - max s (8 * j))
theorem stF_step (g : Nat → Nat) (m : Nat) : stF g m = fun j => if j = m / 8 then stF g (m + 1) (m / 8) * 256 + g m else stF g (m + 1) j := by
  funext j
  by_cases h : j = m / 8
  · subst h
    rw [if_pos rfl]
    unfold stF
    rw [Nat.max_eq_left (by omega), Nat.max_eq_left (by omega), show 8 * (m / 8) + 8 - m = 1 + (8 * (m / 8) + 8 - (m + 1)) from by omega, sumB_split]
    simp only [sumB, Nat.pow_zero, Nat.mul_one, Nat.zero_add, Nat.pow_one, Nat.add_zero]
    rw [Nat.add_comm, Nat.mul_comm]
    congr 2
    exact sumB_congr (fun i _ => by rw [show m + (1 + i) = m + 1 + i from by omega])
  · rw [if_neg h]
    unfold stF
    by_cases h2 : m / 8 < j
    · rw [Nat.max_eq_right (by omega), Nat.max_eq_right (by omega)]
    · rw [show 8 * j + 8 - max m (8 * j) = 0 from by omega, show 8 * j + 8 - max (m + 1) (8 * j) = 0 from by omega]; rfl
theorem stF_lt {g : Nat → Nat} (hg : ∀ i < 32, g i < 256) {s j : Nat} (hj : j < 4) : stF g s j < 256 ^ (8 * j + 8 - max s (8 * j)) := by
  unfold stF
  refine sumB_lt (by decide) (fun i hi => hg _ (by omega))
theorem pow_le7 {n : Nat} (h : n ≤ 7) : (256 : Nat) ^ n ≤ 72057594037927936 := Nat.pow_le_pow_right (n := 256) (by decide) h
theorem stF_word (g : Nat → Nat) (hg : ∀ i < 32, g i < 256) : .agg (cU 4 (stF g 0)).toArray = (Word.nat (sumB 256 g 32)).v := by
  have h0 := stF_lt hg (s := 0) (j := 0) (by decide)
  have h1 := stF_lt hg (s := 0) (j := 1) (by decide)
  have h2 := stF_lt hg (s := 0) (j := 2) (by decide)
  have h3 := stF_lt hg (s := 0) (j := 3) (by decide)
  have hl := sumB_lt (b := 256) (by decide) hg
  refine Word.v_nat ?_ h0 h1 h2 h3
  rw [Nat.mod_eq_of_lt (Nat.lt_of_lt_of_eq hl (by kernel_rfl)), show (32 : Nat) = 8 + 24 from rfl, sumB_split, show (24 : Nat) = 8 + 16 from rfl, sumB_split, show (16 : Nat) = 8 + 8 from rfl, sumB_split]
  simp only [stF, Nat.mul_zero, Nat.max_self, Nat.zero_add, Nat.sub_zero, Nat.mul_one, Nat.zero_max, Nat.reduceMul, Nat.reduceAdd, Nat.reduceSub, Nat.reducePow, Nat.max_eq_right (Nat.zero_le _)]
  simp only [← Nat.add_assoc, Nat.reduceAdd]
  have e : sumB 256 (fun k => g k) 8 = sumB 256 g 8 := rfl
  rw [e]
  omega
def iV (s : Nat) : Value := match s with
  | 0 => .int .i64 (-1)
  | m + 1 => .int .i64 (m : Int)
theorem fromDigits_spec (v : Value) (g : Nat → Nat) (hg : ∀ i < 32, g i < 256) : FnV Tryz.prog 101 [v] [fRp v (rowN 32 g)] (Word.nat (sumB 256 g 32)).v := by
  refine Fn.enter Tryz.func101 rfl Tryz.ntmps101 (by simp) (fun I0 w0 => ?_)
  refine W.bare (G.slice v (rowN 32 g) ?_); intro a1 c1 e1 k1; subst e1
  rw [rowZ_length] at k1 ⊢
  refine G.code ?_
  repeat (first | (refine sty ?_; try intro _) | (refine st ?_; try intro _) | (refine stz ?_; try intro _))
  rename_i b2 b3
  refine W.lp (fun (s : Nat) => ([fRp (.slice a1 32 c1) (rowN 32 g)], [(4, iV s), (3, .pointer (some ⟨b3, 0, none⟩)), (2, .pointer (some ⟨b2, 0, none⟩)), (0, .slice a1 32 c1)], [(b3, Ob (cU 4 (stF g s)) 24), (b2, Ob Word.zero.cells 24)])) (fun s => s ≤ 32) (fun s => s) 32 ?_
  intro s hs
  dsimp only
  cases s with
  | zero =>
    dsimp only [iV]
    repeat (first | (refine sty ?_; try intro _) | (refine st ?_; try intro _) | (refine stz ?_; try intro _))
    refine G.retV ?_
    exact stF_word g hg
  | succ m =>
    dsimp only [iV]
    have h1 := stF_lt hg (s := m + 1) (j := m / 8) (by omega)
    have h2 := hg m (by omega)
    have h3 := pow_le7 (n := 8 * (m / 8) + 8 - (m + 1)) (by omega)
    rw [Nat.max_eq_left (by omega)] at h1
    repeat (first | (refine sty ?_; try intro _) | (refine st ?_; try intro _) | (refine stz ?_; try intro _))
    refine W.drawA 13 [dq _, dq _, dq _, dq _, dq _, dq _, dq _, dq _, dq _, dk _, dq _, dq _, dq _] [[], [0], [], [2], [3], [4], [5], [], [], [7,8], [9], [10], [6,11]] [1, 12] (hrest := fun c => nrm ?_) (hops := by
      iterate 13 refine AllQ.az ?_
      exact AllQ.nil)
    repeat (first | (refine sty ?_; try intro _) | (refine st ?_; try intro _) | (refine stz ?_; try intro _))
    rw [← stF_step]
    repeat (first | (refine sty ?_; try intro _) | (refine st ?_; try intro _) | (refine stz ?_; try intro _))
    cases m with
    | zero => exact G.ag 0
    | succ m =>
      rw [show ((m + 1 : Nat) : Int) - 1 = (m : Int) from by omega]
      exact G.ag (m + 1)
theorem carried_spec (v : Value) (f : Nat → Int) (hf : ∀ i < 32, -4503599627370496 ≤ f i ∧ f i ≤ 4503599627370496) : FnD Tryz.prog 102 [v] [fRp v (rowZ 32 f)] (fun u => [fRp u (rowN 32 (cD f))]) := by
  refine Fn.enter Tryz.func102 rfl Tryz.ntmps102 (by simp) (fun I0 w0 => ?_)
  refine W.bare (G.slice v (rowZ 32 f) ?_); intro a1 c1 e1 k1; subst e1
  rw [rowZ_length] at k1 ⊢
  refine G.code ?_
  repeat (first | (refine sty ?_; try intro _) | (refine st ?_; try intro _) | (refine stz ?_; try intro _))
  refine W.lp (S := Nat × Value × OR) (fun s => ([fRow (ocells s.2.2) (rowN s.1 (cD f)), fRp (.slice a1 32 c1) (rowZ 32 f)], [(5, .int .i64 (s.1 : Int)), (4, .int .i64 (cR f s.1)), (3, s.2.1), (0, .slice a1 32 c1)], ownM 3 s.2.2)) (fun s => s.1 ≤ 32 ∧ IsOwn 1 s.2.1 s.1 s.2.2) (fun s => 32 - s.1) (0, .slice none 0 0, none) ?_ (h0 := ⟨Nat.zero_le _, rfl, rfl⟩)
  rintro ⟨i, w, o⟩ ⟨hi, hown⟩
  dsimp only at hi hown ⊢
  by_cases hi32 : i = 32
  · subst hi32
    refine W.bare (G.giveOwn2 (Mr := []) w (rowN 32 (cD f)) o 3 (by rw [rowZ_length]; exact hown) inferInstance (List.Perm.refl _) ?_)
    refine G.code ?_
    repeat (first | (refine sty ?_; try intro _) | (refine st ?_; try intro _) | (refine stz ?_; try intro _))
    exact G.retD rfl rfl
  · have h1 := hf i (by omega)
    have h2 := cR_le (f := f) (B := 4503599627370496) (by decide) (n := i) (fun j hj => hf j (by omega))
    obtain ⟨n, hn⟩ : ∃ n, n = f i + cR f i := ⟨_, rfl⟩
    have hc1 : cR f (i + 1) = n / 256 := by rw [hn]; rfl
    have hd1 : ((cD f i : Nat) : Int) = n % 256 := by unfold cD; rw [hn]; omega
    have hs : rowN (i + 1) (cD f) = rowN i (cD f) ++ [n % 256] := by rw [rowN, rowZ_succ, hd1]
    have hq : intOp .quo .i64 (n - n % 256) 256 = some (.int .i64 (cR f (i + 1))) := by
      have e : (n - n % 256).tdiv 256 = n / 256 := by
        rw [show n - n % 256 = 256 * (n / 256) from by omega, Int.mul_tdiv_cancel_left _ (by decide)]
      rw [i_quoI (by decide) (by rw [e]; omega) (by rw [e]; omega), e, hc1]
    repeat (first | (refine sty ?_; try intro _) | (refine st ?_; try intro _) | (refine stz ?_; try intro _))
    rw [← hn]
    by_cases h0 : 0 ≤ n
    · rw [Int.tmod_eq_emod_of_nonneg h0]
      repeat (first | (refine sty ?_; try intro _) | (refine st ?_; try intro _) | (refine stz ?_; try intro _))
      refine o_app2 (Mr := []) o (xs := rowN i (cD f)) (ys := [n % 256]) (by rw [rowZ_length]; exact hown) ⟨by simp [rowZ_length]; omega, by simp [rowZ_length]; omega, rfl⟩ rfl rfl rfl rfl inferInstance inferInstance (List.Perm.refl _) ?_
      intro w' o' hown'
      rw [← hs] at hown' ⊢
      rw [rowZ_length] at hown'
      dsimp only [List.nil_append]
      repeat (first | (refine sty ?_; try intro _) | (refine st ?_; try intro _) | (refine stz ?_; try intro _))
      refine o_int rfl rfl rfl rfl hq ?_
      repeat (first | (refine sty ?_; try intro _) | (refine st ?_; try intro _) | (refine stz ?_; try intro _))
      exact G.ag (S := Nat × Value × OR) (i + 1, w', o') (hpre := ⟨by dsimp only; omega, hown'⟩)
    · have e : n.tmod 256 = -((-n) % 256) := by
        rw [← Int.tmod_eq_emod_of_nonneg (a := -n) (by omega), ← Int.neg_tmod, Int.neg_neg]
      rw [e]
      by_cases h7 : -((-n) % 256) < 0
      · repeat (first | (refine sty ?_; try intro _) | (refine st ?_; try intro _) | (refine stz ?_; try intro _))
        rw [show -((-n) % 256) + 256 = n % 256 from by omega]
        refine o_app2 (Mr := []) o (xs := rowN i (cD f)) (ys := [n % 256]) (by rw [rowZ_length]; exact hown) ⟨by simp [rowZ_length]; omega, by simp [rowZ_length]; omega, rfl⟩ rfl rfl rfl rfl inferInstance inferInstance (List.Perm.refl _) ?_
        intro w' o' hown'
        rw [← hs] at hown' ⊢
        rw [rowZ_length] at hown'
        dsimp only [List.nil_append]
        repeat (first | (refine sty ?_; try intro _) | (refine st ?_; try intro _) | (refine stz ?_; try intro _))
        refine o_int rfl rfl rfl rfl hq ?_
        repeat (first | (refine sty ?_; try intro _) | (refine st ?_; try intro _) | (refine stz ?_; try intro _))
        exact G.ag (S := Nat × Value × OR) (i + 1, w', o') (hpre := ⟨by dsimp only; omega, hown'⟩)
      · rw [show -((-n) % 256) = n % 256 from by omega]
        repeat (first | (refine sty ?_; try intro _) | (refine st ?_; try intro _) | (refine stz ?_; try intro _))
        refine o_app2 (Mr := []) o (xs := rowN i (cD f)) (ys := [n % 256]) (by rw [rowZ_length]; exact hown) ⟨by simp [rowZ_length]; omega, by simp [rowZ_length]; omega, rfl⟩ rfl rfl rfl rfl inferInstance inferInstance (List.Perm.refl _) ?_
        intro w' o' hown'
        rw [← hs] at hown' ⊢
        rw [rowZ_length] at hown'
        dsimp only [List.nil_append]
        repeat (first | (refine sty ?_; try intro _) | (refine st ?_; try intro _) | (refine stz ?_; try intro _))
        refine o_int rfl rfl rfl rfl hq ?_
        repeat (first | (refine sty ?_; try intro _) | (refine st ?_; try intro _) | (refine stz ?_; try intro _))
        exact G.ag (S := Nat × Value × OR) (i + 1, w', o') (hpre := ⟨by dsimp only; omega, hown'⟩)
end Go.Rail
