/- Keys as the program has them: order, membership. -/
import Derived.Test.YtoiepfapghnccaaGreatAPut
import Derived.Test.YtoiepfapghnccaaGreatRailB
import Derived.Test.YtoiepfapghnccaaGreatRailC
namespace Go.Rail
open Go Go.Proofs
set_option linter.unusedSimpArgs false
set_option linter.unusedVariables false
set_option maxHeartbeats 400000
set_option maxRecDepth 4000
attribute [local irreducible] OpK G W LW wpListIn Exit.then Exit.inBlock Post rounds opRun bodyPostM intOp
attribute [local irreducible] lexN cmpW cmpA cmpK
theorem odd_spec (k : Key) : FnV Tryz.prog 83 [k.v] [] (.bool (!mayK k)) := by
  refine Fn.enter Tryz.func83 rfl Tryz.ntmps83 (by simp) (fun I0 w0 => ?_)
  repeat (first | refine stp ?_ | (refine sti ?_; intro _) | refine stf ?_ | (refine stb ?_; intro _))
  cases hs : k.slot with
  | true =>
    refine o_load1 rfl rfl rfl ((key_slot k).trans (by rw [hs])) ?_
    repeat (first | refine stp ?_ | (refine sti ?_; intro _) | refine stf ?_ | (refine stb ?_; intro _))
    refine G.ret rfl (.cons (.tmp rfl) .nil) (Φ' := []) (M' := []) inferInstance (List.nil_sublist _) ⟨?_, rfl, rfl⟩
    simp [tup, mayK, hs]
  | false =>
    refine o_load1 rfl rfl rfl ((key_slot k).trans (by rw [hs])) ?_
    repeat (first | refine stp ?_ | (refine sti ?_; intro _) | refine stf ?_ | (refine stb ?_; intro _))
    refine o_neq (v := Word.zero.v) rfl rfl rfl rfl rfl ?_
    repeat (first | refine stp ?_ | (refine sti ?_; intro _) | refine stf ?_ | (refine stb ?_; intro _))
    refine G.ret rfl (.cons (.tmp rfl) .nil) (Φ' := []) (M' := []) inferInstance (List.nil_sublist _) ⟨?_, rfl, rfl⟩
    simp [tup, mayK, hs]
theorem kind_spec (k : Key) : FnV Tryz.prog 95 [k.v] [] (.int .i64 (kindI k)) := by
  refine Fn.enter Tryz.func95 rfl Tryz.ntmps95 (by simp) (fun I0 w0 => ?_)
  repeat (first | refine stp ?_ | (refine sti ?_; intro _) | refine stf ?_ | (refine stb ?_; intro _))
  cases hs : k.slot with
  | true =>
    refine o_load1 rfl rfl rfl ((key_slot k).trans (by rw [hs])) ?_
    repeat (first | refine stp ?_ | (refine sti ?_; intro _) | refine stf ?_ | (refine stb ?_; intro _))
    refine G.ret rfl (.cons (.tmp rfl) .nil) (Φ' := []) (M' := []) inferInstance (List.nil_sublist _) ⟨?_, rfl, rfl⟩
    simp [tup, kindI, hs]
  | false =>
    refine o_load1 rfl rfl rfl ((key_slot k).trans (by rw [hs])) ?_
    repeat (first | refine stp ?_ | (refine sti ?_; intro _) | refine stf ?_ | (refine stb ?_; intro _))
    refine G.ret rfl (.cons (.tmp rfl) .nil) (Φ' := []) (M' := []) inferInstance (List.nil_sublist _) ⟨?_, rfl, rfl⟩
    simp [tup, kindI, hs]
theorem nan_spec (n : Int) : FnV Tryz.prog 106 [.int .i64 n] [] (.bool false) := by
  refine Fn.enter Tryz.func106 rfl Tryz.ntmps106 (by simp) (fun I0 w0 => ?_)
  repeat (first | refine stp ?_ | (refine sti ?_; intro _) | refine stf ?_ | (refine stb ?_; intro _))
  refine G.ret rfl (.cons (.tmp rfl) .nil) (Φ' := []) (M' := []) inferInstance (List.nil_sublist _) ⟨?_, rfl, rfl⟩
  rfl
theorem nan64_spec (n : Int) : FnV Tryz.prog 113 [.int .u64 n] [] (.bool false) := by
  refine Fn.enter Tryz.func113 rfl Tryz.ntmps113 (by simp) (fun I0 w0 => ?_)
  repeat (first | refine stp ?_ | (refine sti ?_; intro _) | refine stf ?_ | (refine stb ?_; intro _))
  refine G.ret rfl (.cons (.tmp rfl) .nil) (Φ' := []) (M' := []) inferInstance (List.nil_sublist _) ⟨?_, rfl, rfl⟩
  rfl
def cmpI (p q : Int) : Int := if p < q then -1 else if q < p then 1 else 0
theorem compare_spec (p q : Int) : FnV Tryz.prog 98 [.int .i64 p, .int .i64 q] [] (.int .i64 (cmpI p q)) := by
  refine Fn.enter Tryz.func98 rfl Tryz.ntmps98 (by simp) (fun I0 w0 => ?_)
  unfold cmpI
  rcases Int.lt_trichotomy p q with h | h | h
  all_goals
    repeat (first | refine stp ?_ | (refine sti ?_; intro _) | refine stf ?_ | (refine stb ?_; intro _))
    refine o_callV rfl rfl rfl rfl (nan_spec p) rfl ?_
    repeat (first | refine stp ?_ | (refine sti ?_; intro _) | refine stf ?_ | (refine stb ?_; intro _))
    refine o_callV rfl rfl rfl rfl (nan_spec q) rfl ?_
    repeat (first | refine stp ?_ | (refine sti ?_; intro _) | refine stf ?_ | (refine stb ?_; intro _))
    refine G.ret rfl (.cons (.tmp rfl) .nil) (Φ' := []) (M' := []) inferInstance (List.nil_sublist _) ⟨?_, rfl, rfl⟩
  · rw [if_pos h]; rfl
  · rw [if_neg (by omega), if_neg (by omega)]; rfl
  · rw [if_neg (by omega), if_pos h]; rfl
theorem compare64_spec (p q : Int) : FnV Tryz.prog 109 [.int .u64 p, .int .u64 q] [] (.int .i64 (cmpI p q)) := by
  refine Fn.enter Tryz.func109 rfl Tryz.ntmps109 (by simp) (fun I0 w0 => ?_)
  unfold cmpI
  rcases Int.lt_trichotomy p q with h | h | h
  all_goals
    repeat (first | refine stp ?_ | (refine sti ?_; intro _) | refine stf ?_ | (refine stb ?_; intro _))
    refine o_callV rfl rfl rfl rfl (nan64_spec p) rfl ?_
    repeat (first | refine stp ?_ | (refine sti ?_; intro _) | refine stf ?_ | (refine stb ?_; intro _))
    refine o_callV rfl rfl rfl rfl (nan64_spec q) rfl ?_
    repeat (first | refine stp ?_ | (refine sti ?_; intro _) | refine stf ?_ | (refine stb ?_; intro _))
    refine G.ret rfl (.cons (.tmp rfl) .nil) (Φ' := []) (M' := []) inferInstance (List.nil_sublist _) ⟨?_, rfl, rfl⟩
  · rw [if_pos h]; rfl
  · rw [if_neg (by omega), if_neg (by omega)]; rfl
  · rw [if_neg (by omega), if_pos h]; rfl
/-- Where a key stands first. -/
def idxK (p : Key → Bool) (xs : List Key) : Int := if xs.any p then (xs.findIdx p : Int) else -1
theorem idxK_none {p : Key → Bool} {xs : List Key} (h : ∀ k ∈ xs, p k = false) : idxK p xs = -1 := by
  rw [idxK, if_neg]; simpa using h
theorem idxK_at {p : Key → Bool} {xs : List Key} {i : Nat} (hi : i < xs.length) (h : ∀ k ∈ xs.take i, p k = false) (hp : p xs[i] = true) : idxK p xs = i := by
  rw [idxK, if_pos (List.any_eq_true.2 ⟨_, List.getElem_mem hi, hp⟩)]
  congr 1
  refine (List.findIdx_eq hi).2 ⟨hp, fun j hj => ?_⟩
  exact h _ (List.mem_take_iff_getElem.2 ⟨j, by omega, rfl⟩)
theorem idxK_nn (p : Key → Bool) (xs : List Key) : decide (idxK p xs ≥ 0) = xs.any p := by
  unfold idxK
  cases xs.any p <;> simp
theorem idxOdd_spec (v : Value) (xs : List Key) (hx : xs.length ≤ 4611686018427387904) : FnV Tryz.prog 94 [v, .func (.func 83) #[] #[]] [fRp v xs] (.int .i64 (idxK (fun k => !mayK k) xs)) := by
  refine Fn.enter Tryz.func94 rfl Tryz.ntmps94 (by simp) (fun I0 w0 => ?_)
  repeat (first | refine stp ?_ | (refine sti ?_; intro _) | refine stf ?_ | (refine stb ?_; intro _))
  refine W.loopI (fun (i : Nat) => ([fRp v xs], [(0, v), (1, _), (7, .int .i64 xs.length), (8, .int .i64 i)], [])) (fun i => i ≤ xs.length ∧ ∀ k ∈ xs.take i, (!mayK k) = false) (fun i => xs.length - i) 0 ⟨by omega, by simp⟩ inferInstance (look_sub_cons rfl (look_sub_cons rfl (look_sub_cons rfl (look_sub_cons rfl look_sub_nil)))) (List.Sublist.refl _) ?_
  intro i ⟨hi, hm⟩
  dsimp only
  by_cases hi0 : i = xs.length
  · subst hi0
    rw [List.take_length] at hm
    repeat (first | refine stp ?_ | (refine sti ?_; intro _) | refine stf ?_ | (refine stb ?_; intro _))
    refine G.ret rfl (.cons (.tmp rfl) .nil) (Φ' := []) (M' := []) inferInstance (List.nil_sublist _) ⟨?_, rfl, rfl⟩
    rw [idxK_none hm]; rfl
  · have hi1 : i < xs.length := by omega
    repeat (first | refine stp ?_ | (refine sti ?_; intro _) | refine stf ?_ | (refine stb ?_; intro _))
    cases hk : mayK xs[i] with
    | true =>
      refine o_callV rfl rfl rfl rfl (odd_spec _) (congrArg (fun b => Value.bool !b) hk) ?_
      repeat (first | refine stp ?_ | (refine sti ?_; intro _) | refine stf ?_ | (refine stb ?_; intro _))
      refine G.again (i + 1) (by omega) ⟨by omega, fun k hk' => ((mem_take_succ hi1).1 hk').elim (hm k) (fun e => by rw [← e, hk]; rfl)⟩ inferInstance (look_sub_cons rfl (look_sub_cons rfl (look_sub_cons rfl (look_sub_cons rfl look_sub_nil)))) (List.Sublist.refl _)
    | false =>
      refine o_callV rfl rfl rfl rfl (odd_spec _) (congrArg (fun b => Value.bool !b) hk) ?_
      repeat (first | refine stp ?_ | (refine sti ?_; intro _) | refine stf ?_ | (refine stb ?_; intro _))
      refine G.ret rfl (.cons (.tmp rfl) .nil) (Φ' := []) (M' := []) inferInstance (List.nil_sublist _) ⟨?_, rfl, rfl⟩
      rw [idxK_at hi1 hm (by rw [hk]; rfl)]; rfl
theorem anyOdd_spec (v : Value) (xs : List Key) (hx : xs.length ≤ 4611686018427387904) : FnV Tryz.prog 82 [v, .func (.func 83) #[] #[]] [fRp v xs] (.bool (xs.any fun k => !mayK k)) := by
  refine Fn.enter Tryz.func82 rfl Tryz.ntmps82 (by simp) (fun I0 w0 => ?_)
  repeat (first | refine stp ?_ | (refine sti ?_; intro _) | refine stf ?_ | (refine stb ?_; intro _))
  refine o_callV rfl rfl rfl rfl (idxOdd_spec v xs hx) rfl ?_
  repeat (first | refine stp ?_ | (refine sti ?_; intro _) | refine stf ?_ | (refine stb ?_; intro _))
  refine G.ret rfl (.cons (.tmp rfl) .nil) (Φ' := []) (M' := []) inferInstance (List.nil_sublist _) ⟨?_, rfl, rfl⟩
  rw [← idxK_nn]; rfl
end Go.Rail
namespace Go.Rail
open Go Go.Proofs
set_option linter.unusedSimpArgs false
set_option linter.unusedVariables false
set_option maxHeartbeats 400000
set_option maxRecDepth 4000
attribute [local irreducible] OpK G W LW wpListIn Exit.then Exit.inBlock Post rounds opRun bodyPostM intOp
attribute [local irreducible] lexN cmpW cmpA cmpK cmpI
instance : ExtF Tryz.prog 105 Extern.BytealgCompare.compare := ⟨fun args w => run_callFunc_extern Tryz.func105 (by kernel_rfl) (by kernel_rfl) (by kernel_rfl) (by kernel_rfl) args w⟩
theorem bcmp_spec (v u : Value) (xs ys : List UInt8) : FnV Tryz.prog 97 [v, u] [fRp v xs, fRp u ys] (.int .i64 (lexN (xs.map UInt8.toNat) (ys.map UInt8.toNat))) := by
  refine Fn.enter Tryz.func97 rfl Tryz.ntmps97 (by simp) (fun I0 w0 => ?_)
  repeat (first | refine stp ?_ | (refine sti ?_; intro _) | refine stf ?_ | (refine stb ?_; intro _))
  refine o_cmpB (xs := xs) (ys := ys) rfl rfl rfl rfl rfl ?_
  repeat (first | refine stp ?_ | (refine sti ?_; intro _) | refine stf ?_ | (refine stb ?_; intro _))
  refine G.ret rfl (.cons (.tmp rfl) .nil) (Φ' := []) (M' := []) inferInstance (List.nil_sublist _) ⟨?_, rfl, rfl⟩
  rfl
/-- The first one that is not nought. -/
def orI : List Int → Int
  | [] => 0
  | n :: l => if n = 0 then orI l else n
theorem orI_drop {xs : List Int} {i : Nat} (hi : i < xs.length) : orI (xs.drop i) = if xs[i] = 0 then orI (xs.drop (i + 1)) else xs[i] := by
  rw [List.drop_eq_getElem_cons hi, orI]
theorem or_spec (v : Value) (xs : List Int) (hx : xs.length ≤ 4611686018427387904) : FnV Tryz.prog 96 [v] [fRp v xs] (.int .i64 (orI xs)) := by
  refine Fn.enter Tryz.func96 rfl Tryz.ntmps96 (by simp) (fun I0 w0 => ?_)
  repeat (first | refine stp ?_ | (refine sti ?_; intro _) | refine stf ?_ | (refine stb ?_; intro _))
  refine W.loopI (fun (i : Nat) => ([fRp v xs], [(6, v), (3, .int .i64 0), (7, .int .i64 xs.length), (8, .int .i64 i)], [])) (fun i => i ≤ xs.length ∧ orI (xs.drop i) = orI xs) (fun i => xs.length - i) 0 ⟨by omega, by simp⟩ inferInstance (look_sub_cons rfl (look_sub_cons rfl (look_sub_cons rfl (look_sub_cons rfl look_sub_nil)))) (List.Sublist.refl _) ?_
  intro i ⟨hi, hm⟩
  dsimp only
  by_cases hi0 : i = xs.length
  · subst hi0
    rw [List.drop_length] at hm
    repeat (first | refine stp ?_ | (refine sti ?_; intro _) | refine stf ?_ | (refine stb ?_; intro _))
    refine G.ret rfl (.cons (.tmp rfl) .nil) (Φ' := []) (M' := []) inferInstance (List.nil_sublist _) ⟨?_, rfl, rfl⟩
    rw [← hm]; rfl
  · have hi1 : i < xs.length := by omega
    rw [orI_drop hi1] at hm
    by_cases h0 : xs[i] = 0
    · rw [if_pos h0] at hm
      repeat (first | refine stp ?_ | (refine sti ?_; intro _) | refine stf ?_ | (refine stb ?_; intro _))
      refine G.again (i + 1) (by omega) ⟨by omega, hm⟩ inferInstance (look_sub_cons rfl (look_sub_cons rfl (look_sub_cons rfl (look_sub_cons rfl look_sub_nil)))) (List.Sublist.refl _)
    · rw [if_neg h0] at hm
      repeat (first | refine stp ?_ | (refine sti ?_; intro _) | refine stf ?_ | (refine stb ?_; intro _))
      refine G.ret rfl (.cons (.tmp rfl) .nil) (Φ' := []) (M' := []) inferInstance (List.nil_sublist _) ⟨?_, rfl, rfl⟩
      rw [← hm]; rfl

theorem clone64_spec (v : Value) (xs : List UInt64) (hx : xs.length ≤ 1000000) : Fn Tryz.prog 111 [v] [fRp v xs] [] (ROwn 54 xs) := by
  refine Fn.enter Tryz.func111 rfl Tryz.ntmps111 (by simp) (fun I0 w0 => ?_)
  refine W.bare (G.sliceN v xs ?_)
  intro a cap hv hc hnil
  subst hv
  cases a with
  | none =>
    have hx0 := hnil rfl
    subst hx0
    repeat (first | refine stp ?_ | (refine sti ?_; intro _) | refine stf ?_ | (refine stb ?_; intro _))
    refine o_eqNil rfl rfl rfl rfl rfl ?_
    repeat (first | refine stp ?_ | (refine sti ?_; intro _) | refine stf ?_ | (refine stb ?_; intro _))
    exact G.ret rfl (.cons (.tmp rfl) .nil) inferInstance (List.nil_sublist _) ⟨none, ⟨rfl, rfl⟩, rfl, rfl⟩
  | some ad =>
    repeat (first | refine stp ?_ | (refine sti ?_; intro _) | refine stf ?_ | (refine stb ?_; intro _))
    refine o_eqNil rfl rfl rfl rfl rfl ?_
    repeat (first | refine stp ?_ | (refine sti ?_; intro _) | refine stf ?_ | (refine stb ?_; intro _))
    refine o_litM (xs := xs.take 0) ⟨by simp, rfl, by decide⟩ rfl rfl rfl RpL.nil rfl ?_
    intro b cs hcs
    repeat (first | refine stp ?_ | (refine sti ?_; intro _) | refine stf ?_ | (refine stb ?_; intro _))
    refine o_app2 (Mr := []) (some (b, cs)) (xs := xs.take 0) (ys := xs) ⟨0, rfl, by simpa using hcs, by simp⟩ ⟨by simp; omega, by simp; omega, rfl⟩ rfl rfl rfl rfl (show Ent' _ (fRow cs (xs.take 0)) from inferInstance) inferInstance (List.Perm.refl _) ?_
    intro v' o' hown'
    rw [show xs.take 0 ++ xs = xs from rfl] at hown' ⊢
    repeat (first | refine stp ?_ | (refine sti ?_; intro _) | refine stf ?_ | (refine stb ?_; intro _))
    exact G.ret rfl (.cons (.tmp rfl) .nil) inferInstance (List.Sublist.refl _) ⟨o', hown', rfl, rfl⟩
theorem cloneK_spec (v : Value) (xs : List Key) (hx : xs.length ≤ 1000000) : Fn Tryz.prog 53 [v] [fRp v xs] [] (ROwn 58 xs) := by
  refine Fn.enter Tryz.func53 rfl Tryz.ntmps53 (by simp) (fun I0 w0 => ?_)
  refine W.bare (G.sliceN v xs ?_)
  intro a cap hv hc hnil
  subst hv
  cases a with
  | none =>
    have hx0 := hnil rfl
    subst hx0
    repeat (first | refine stp ?_ | (refine sti ?_; intro _) | refine stf ?_ | (refine stb ?_; intro _))
    refine o_eqNil rfl rfl rfl rfl rfl ?_
    repeat (first | refine stp ?_ | (refine sti ?_; intro _) | refine stf ?_ | (refine stb ?_; intro _))
    exact G.ret rfl (.cons (.tmp rfl) .nil) inferInstance (List.nil_sublist _) ⟨none, ⟨rfl, rfl⟩, rfl, rfl⟩
  | some ad =>
    repeat (first | refine stp ?_ | (refine sti ?_; intro _) | refine stf ?_ | (refine stb ?_; intro _))
    refine o_eqNil rfl rfl rfl rfl rfl ?_
    repeat (first | refine stp ?_ | (refine sti ?_; intro _) | refine stf ?_ | (refine stb ?_; intro _))
    refine o_litM (xs := xs.take 0) ⟨by simp, rfl, by decide⟩ rfl rfl rfl RpL.nil rfl ?_
    intro b cs hcs
    repeat (first | refine stp ?_ | (refine sti ?_; intro _) | refine stf ?_ | (refine stb ?_; intro _))
    refine o_app2 (Mr := []) (some (b, cs)) (xs := xs.take 0) (ys := xs) ⟨0, rfl, by simpa using hcs, by simp⟩ ⟨by simp; omega, by simp; omega, rfl⟩ rfl rfl rfl rfl (show Ent' _ (fRow cs (xs.take 0)) from inferInstance) inferInstance (List.Perm.refl _) ?_
    intro v' o' hown'
    rw [show xs.take 0 ++ xs = xs from rfl] at hown' ⊢
    repeat (first | refine stp ?_ | (refine sti ?_; intro _) | refine stf ?_ | (refine stb ?_; intro _))
    exact G.ret rfl (.cons (.tmp rfl) .nil) inferInstance (List.Sublist.refl _) ⟨o', hown', rfl, rfl⟩

end Go.Rail
