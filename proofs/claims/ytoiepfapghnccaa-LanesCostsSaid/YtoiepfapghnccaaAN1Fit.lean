/- Small parts of lanes: clones, places, odd numbers, marks. -/
import Derived.Test.YtoiepfapghnccaaAGReady
import Derived.Test.YtoiepfapghnccaaAGPairsGRef3
import Derived.Test.YtoiepfapghnccaaRailD
import Derived.Test.YtoiepfapghnccaaAClashGMay
import Derived.Test.YtoiepfapghnccaaRailE
namespace Go.Rail
open Go Go.Proofs
set_option linter.unusedSimpArgs false
set_option linter.unusedVariables false
set_option maxHeartbeats 400000
set_option maxRecDepth 4000
attribute [local irreducible] OpK G W LW wpListIn Exit.then Exit.inBlock Post rounds opRun bodyPostM intOp
attribute [local irreducible] badM
theorem cloneI_spec (v : Value) (xs : List Int) (hx : xs.length ≤ 1000000000) : Fn Try.prog 116 [v] [fRp v xs] [] (ROwn 3 xs) := by
  refine Fn.enter Try.func116 rfl Try.ntmps116 (by simp) (fun I0 w0 => ?_)
  refine W.bare (G.sliceN v xs ?_)
  intro a cap hv hc hnil
  subst hv
  cases a with
  | none =>
    have hx0 := hnil rfl
    subst hx0
    repeat (first | refine stp ?_ | (refine sti ?_; intro _) | refine stf ?_ | (refine stb ?_; intro _))
    refine o_eqNil rfl rfl rfl rfl rfl ?_
    repeat (first | refine stp ?_ | (refine sti ?_; intro _) | refine stf ?_ | (refine stb ?_; intro _))
    exact G.ret rfl (.cons (.tmp rfl) .nil) inferInstance (List.nil_sublist _) ⟨none, ⟨rfl, rfl⟩, rfl, rfl⟩
  | some ad =>
    repeat (first | refine stp ?_ | (refine sti ?_; intro _) | refine stf ?_ | (refine stb ?_; intro _))
    refine o_eqNil rfl rfl rfl rfl rfl ?_
    repeat (first | refine stp ?_ | (refine sti ?_; intro _) | refine stf ?_ | (refine stb ?_; intro _))
    refine o_litM (xs := xs.take 0) ⟨by simp, rfl, by decide⟩ rfl rfl rfl RpL.nil rfl ?_
    intro b cs hcs
    repeat (first | refine stp ?_ | (refine sti ?_; intro _) | refine stf ?_ | (refine stb ?_; intro _))
    refine o_app2 (Mr := []) (some (b, cs)) (xs := xs.take 0) (ys := xs) ⟨0, rfl, by simpa using hcs, by simp⟩ ⟨by simp; omega, by simp; omega, rfl⟩ rfl rfl rfl rfl (show Ent' _ (fRow cs (xs.take 0)) from inferInstance) inferInstance (List.Perm.refl _) ?_
    intro v' o' hown'
    rw [show xs.take 0 ++ xs = xs from rfl] at hown' ⊢
    repeat (first | refine stp ?_ | (refine sti ?_; intro _) | refine stf ?_ | (refine stb ?_; intro _))
    exact G.ret rfl (.cons (.tmp rfl) .nil) inferInstance (List.Sublist.refl _) ⟨o', hown', rfl, rfl⟩
theorem cloneBo_spec (v : Value) (xs : List Bool) (hx : xs.length ≤ 1000000000) : Fn Try.prog 117 [v] [fRp v xs] [] (ROwn 4 xs) := by
  refine Fn.enter Try.func117 rfl Try.ntmps117 (by simp) (fun I0 w0 => ?_)
  refine W.bare (G.sliceN v xs ?_)
  intro a cap hv hc hnil
  subst hv
  cases a with
  | none =>
    have hx0 := hnil rfl
    subst hx0
    repeat (first | refine stp ?_ | (refine sti ?_; intro _) | refine stf ?_ | (refine stb ?_; intro _))
    refine o_eqNil rfl rfl rfl rfl rfl ?_
    repeat (first | refine stp ?_ | (refine sti ?_; intro _) | refine stf ?_ | (refine stb ?_; intro _))
    exact G.ret rfl (.cons (.tmp rfl) .nil) inferInstance (List.nil_sublist _) ⟨none, ⟨rfl, rfl⟩, rfl, rfl⟩
  | some ad =>
    repeat (first | refine stp ?_ | (refine sti ?_; intro _) | refine stf ?_ | (refine stb ?_; intro _))
    refine o_eqNil rfl rfl rfl rfl rfl ?_
    repeat (first | refine stp ?_ | (refine sti ?_; intro _) | refine stf ?_ | (refine stb ?_; intro _))
    refine o_litM (xs := xs.take 0) ⟨by simp, rfl, by decide⟩ rfl rfl rfl RpL.nil rfl ?_
    intro b cs hcs
    repeat (first | refine stp ?_ | (refine sti ?_; intro _) | refine stf ?_ | (refine stb ?_; intro _))
    refine o_app2 (Mr := []) (some (b, cs)) (xs := xs.take 0) (ys := xs) ⟨0, rfl, by simpa using hcs, by simp⟩ ⟨by simp; omega, by simp; omega, rfl⟩ rfl rfl rfl rfl (show Ent' _ (fRow cs (xs.take 0)) from inferInstance) inferInstance (List.Perm.refl _) ?_
    intro v' o' hown'
    rw [show xs.take 0 ++ xs = xs from rfl] at hown' ⊢
    repeat (first | refine stp ?_ | (refine sti ?_; intro _) | refine stf ?_ | (refine stb ?_; intro _))
    exact G.ret rfl (.cons (.tmp rfl) .nil) inferInstance (List.Sublist.refl _) ⟨o', hown', rfl, rfl⟩
theorem cloneSe_spec (v : Value) (xs : List Sets) (hx : xs.length ≤ 1000000000) : Fn Try.prog 115 [v] [fRp v xs] [] (ROwn 24 xs) := by
  refine Fn.enter Try.func115 rfl Try.ntmps115 (by simp) (fun I0 w0 => ?_)
  refine W.bare (G.sliceN v xs ?_)
  intro a cap hv hc hnil
  subst hv
  cases a with
  | none =>
    have hx0 := hnil rfl
    subst hx0
    repeat (first | refine stp ?_ | (refine sti ?_; intro _) | refine stf ?_ | (refine stb ?_; intro _))
    refine o_eqNil rfl rfl rfl rfl rfl ?_
    repeat (first | refine stp ?_ | (refine sti ?_; intro _) | refine stf ?_ | (refine stb ?_; intro _))
    exact G.ret rfl (.cons (.tmp rfl) .nil) inferInstance (List.nil_sublist _) ⟨none, ⟨rfl, rfl⟩, rfl, rfl⟩
  | some ad =>
    repeat (first | refine stp ?_ | (refine sti ?_; intro _) | refine stf ?_ | (refine stb ?_; intro _))
    refine o_eqNil rfl rfl rfl rfl rfl ?_
    repeat (first | refine stp ?_ | (refine sti ?_; intro _) | refine stf ?_ | (refine stb ?_; intro _))
    refine o_litM (xs := xs.take 0) ⟨by simp, rfl, by decide⟩ rfl rfl rfl RpL.nil rfl ?_
    intro b cs hcs
    repeat (first | refine stp ?_ | (refine sti ?_; intro _) | refine stf ?_ | (refine stb ?_; intro _))
    refine o_app2 (Mr := []) (some (b, cs)) (xs := xs.take 0) (ys := xs) ⟨0, rfl, by simpa using hcs, by simp⟩ ⟨by simp; omega, by simp; omega, rfl⟩ rfl rfl rfl rfl (show Ent' _ (fRow cs (xs.take 0)) from inferInstance) inferInstance (List.Perm.refl _) ?_
    intro v' o' hown'
    rw [show xs.take 0 ++ xs = xs from rfl] at hown' ⊢
    repeat (first | refine stp ?_ | (refine sti ?_; intro _) | refine stf ?_ | (refine stb ?_; intro _))
    exact G.ret rfl (.cons (.tmp rfl) .nil) inferInstance (List.Sublist.refl _) ⟨o', hown', rfl, rfl⟩
theorem indexI_spec (v : Value) (xs : List Int) (hx : xs.length ≤ 4611686018427387904) (k : Int) : FnV Try.prog 114 [v, .int .i64 k] [fRp v xs] (.int .i64 (idxG (fun a => decide (k = a)) xs)) := by
  refine Fn.enter Try.func114 rfl Try.ntmps114 (by simp) (fun I0 w0 => ?_)
  repeat (first | refine stp ?_ | (refine sti ?_; intro _) | refine stf ?_ | (refine stb ?_; intro _))
  refine W.loopI (fun (i : Nat) => ([fRp v xs], [(0, v), (1, .int .i64 k), (7, .int .i64 xs.length), (8, .int .i64 i)], [])) (fun i => i ≤ xs.length ∧ ∀ a ∈ xs.take i, (decide (k = a)) = false) (fun i => xs.length - i) 0 ⟨by omega, by simp⟩ inferInstance (look_sub_cons rfl (look_sub_cons rfl (look_sub_cons rfl (look_sub_cons rfl look_sub_nil)))) (List.Sublist.refl _) ?_
  intro i ⟨hi, hm⟩
  dsimp only
  by_cases hi0 : i = xs.length
  · subst hi0
    rw [List.take_length] at hm
    repeat (first | refine stp ?_ | (refine sti ?_; intro _) | refine stf ?_ | (refine stb ?_; intro _))
    refine G.ret rfl (.cons (.tmp rfl) .nil) (Φ' := []) (M' := []) inferInstance (List.nil_sublist _) ⟨?_, rfl, rfl⟩
    rw [idxG_none hm]; rfl
  · have hi1 : i < xs.length := by omega
    by_cases hk : k = xs[i]
    · repeat (first | refine stp ?_ | (refine sti ?_; intro _) | refine stf ?_ | (refine stb ?_; intro _))
      refine G.ret rfl (.cons (.tmp rfl) .nil) (Φ' := []) (M' := []) inferInstance (List.nil_sublist _) ⟨?_, rfl, rfl⟩
      rw [idxG_at hi1 hm (decide_eq_true hk)]; rfl
    · repeat (first | refine stp ?_ | (refine sti ?_; intro _) | refine stf ?_ | (refine stb ?_; intro _))
      refine G.again (i + 1) (by omega) ⟨by omega, fun a ha => ((mem_take_succ hi1).1 ha).elim (hm a) (fun e => by rw [← e]; exact decide_eq_false hk)⟩ inferInstance (look_sub_cons rfl (look_sub_cons rfl (look_sub_cons rfl (look_sub_cons rfl look_sub_nil)))) (List.Sublist.refl _)
theorem idxF_spec (f : FuncId) [HasFn Try.prog f] (p : Int → Bool) (hf : ∀ k : Int, FnV Try.prog f [.int .i64 k] [] (.bool (p k))) (vo : Value) (o : List Int) (ho : o.length ≤ 4611686018427387904) : FnV Try.prog 110 [vo, .func (.func f) #[] #[]] [fRp vo o] (.int .i64 (idxG p o)) := by
  refine Fn.enter Try.func110 rfl Try.ntmps110 (by simp) (fun I0 w0 => ?_)
  repeat (first | refine stp ?_ | (refine sti ?_; intro _) | refine stf ?_ | (refine stb ?_; intro _))
  refine W.loopI (fun (i : Nat) => ([fRp vo o], [(0, vo), (1, .func (.func f) #[] #[]), (7, .int .i64 o.length), (8, .int .i64 i)], [])) (fun i => i ≤ o.length ∧ ∀ k ∈ o.take i, p k = false) (fun i => o.length - i) 0 ⟨by omega, by simp⟩ inferInstance (look_sub_cons rfl (look_sub_cons rfl (look_sub_cons rfl (look_sub_cons rfl look_sub_nil)))) (List.Sublist.refl _) ?_
  intro i ⟨hi, hm⟩
  dsimp only
  by_cases hi0 : i = o.length
  · subst hi0
    rw [List.take_length] at hm
    repeat (first | refine stp ?_ | (refine sti ?_; intro _) | refine stf ?_ | (refine stb ?_; intro _))
    refine G.ret rfl (.cons (.tmp rfl) .nil) (Φ' := []) (M' := []) inferInstance (List.nil_sublist _) ⟨?_, rfl, rfl⟩
    rw [idxG_none hm]; rfl
  · have hi1 : i < o.length := by omega
    repeat (first | refine stp ?_ | (refine sti ?_; intro _) | refine stf ?_ | (refine stb ?_; intro _))
    cases hk : p o[i] with
    | false =>
      refine o_callV (cap := []) rfl rfl rfl rfl (hf o[i]) (congrArg Value.bool hk) ?_
      repeat (first | refine stp ?_ | (refine sti ?_; intro _) | refine stf ?_ | (refine stb ?_; intro _))
      refine G.again (i + 1) (by omega) ⟨by omega, fun k hk' => ((mem_take_succ hi1).1 hk').elim (hm k) (fun e => by rw [← e]; exact hk)⟩ inferInstance (look_sub_cons rfl (look_sub_cons rfl (look_sub_cons rfl (look_sub_cons rfl look_sub_nil)))) (List.Sublist.refl _)
    | true =>
      refine o_callV (cap := []) rfl rfl rfl rfl (hf o[i]) (congrArg Value.bool hk) ?_
      repeat (first | refine stp ?_ | (refine sti ?_; intro _) | refine stf ?_ | (refine stb ?_; intro _))
      refine G.ret rfl (.cons (.tmp rfl) .nil) (Φ' := []) (M' := []) inferInstance (List.nil_sublist _) ⟨?_, rfl, rfl⟩
      rw [idxG_at hi1 hm hk]; rfl
theorem anyF_spec (f : FuncId) [HasFn Try.prog f] (p : Int → Bool) (hf : ∀ k : Int, FnV Try.prog f [.int .i64 k] [] (.bool (p k))) (vo : Value) (o : List Int) (ho : o.length ≤ 4611686018427387904) : FnV Try.prog 80 [vo, .func (.func f) #[] #[]] [fRp vo o] (.bool (o.any p)) := by
  refine Fn.enter Try.func80 rfl Try.ntmps80 (by simp) (fun I0 w0 => ?_)
  repeat (first | refine stp ?_ | (refine sti ?_; intro _) | refine stf ?_ | (refine stb ?_; intro _))
  refine o_callV rfl rfl rfl rfl (idxF_spec f p hf vo o ho) rfl ?_
  repeat (first | refine stp ?_ | (refine sti ?_; intro _) | refine stf ?_ | (refine stb ?_; intro _))
  refine G.ret rfl (.cons (.tmp rfl) .nil) (Φ' := []) (M' := []) inferInstance (List.nil_sublist _) ⟨?_, rfl, rfl⟩
  rw [← idxG_nn]; rfl
theorem shape1_spec (k : Int) : FnV Try.prog 129 [.int .i64 k] [] (.bool (oddLeft k)) := by
  refine Fn.enter Try.func129 rfl Try.ntmps129 (by simp) (fun I0 w0 => ?_)
  by_cases h1 : k < 0
  · repeat (first | refine stp ?_ | (refine sti ?_; intro _) | refine stf ?_ | (refine stb ?_; intro _))
    refine G.ret rfl (.cons (.tmp rfl) .nil) (Φ' := []) (M' := []) inferInstance (List.nil_sublist _) ⟨?_, rfl, rfl⟩
    simp [tup, oddLeft, h1]
  · by_cases h2 : 1099511627776 < k
    · repeat (first | refine stp ?_ | (refine sti ?_; intro _) | refine stf ?_ | (refine stb ?_; intro _))
      refine G.ret rfl (.cons (.tmp rfl) .nil) (Φ' := []) (M' := []) inferInstance (List.nil_sublist _) ⟨?_, rfl, rfl⟩
      simp [tup, oddLeft, h2]
    · repeat (first | refine stp ?_ | (refine sti ?_; intro _) | refine stf ?_ | (refine stb ?_; intro _))
      refine G.ret rfl (.cons (.tmp rfl) .nil) (Φ' := []) (M' := []) inferInstance (List.nil_sublist _) ⟨?_, rfl, rfl⟩
      simp [tup, oddLeft, h1, h2]
theorem new1_spec (k : Int) : FnV Try.prog 85 [.int .i64 k] [] (.bool (oddCost k)) := by
  refine Fn.enter Try.func85 rfl Try.ntmps85 (by simp) (fun I0 w0 => ?_)
  by_cases h1 : k < 1
  · repeat (first | refine stp ?_ | (refine sti ?_; intro _) | refine stf ?_ | (refine stb ?_; intro _))
    refine G.ret rfl (.cons (.tmp rfl) .nil) (Φ' := []) (M' := []) inferInstance (List.nil_sublist _) ⟨?_, rfl, rfl⟩
    simp [tup, oddCost, h1]
  · by_cases h2 : 1099511627776 < k
    · repeat (first | refine stp ?_ | (refine sti ?_; intro _) | refine stf ?_ | (refine stb ?_; intro _))
      refine G.ret rfl (.cons (.tmp rfl) .nil) (Φ' := []) (M' := []) inferInstance (List.nil_sublist _) ⟨?_, rfl, rfl⟩
      simp [tup, oddCost, h2]
    · repeat (first | refine stp ?_ | (refine sti ?_; intro _) | refine stf ?_ | (refine stb ?_; intro _))
      refine G.ret rfl (.cons (.tmp rfl) .nil) (Φ' := []) (M' := []) inferInstance (List.nil_sublist _) ⟨?_, rfl, rfl⟩
      simp [tup, oddCost, h1, h2]
end Go.Rail
namespace Go.Rail
open Go Go.Proofs
set_option linter.unusedSimpArgs false
set_option linter.unusedVariables false
set_option maxHeartbeats 400000
set_option maxRecDepth 4000
attribute [local irreducible] OpK G W LW wpListIn Exit.then Exit.inBlock Post rounds opRun bodyPostM intOp
attribute [local irreducible] badM
structure FitL (l : Lot) : Prop where
  fs : ∀ s ∈ l.sets, fit6 s
  ns : l.sets.length ≤ 1000000
  nl : l.left.length ≤ 1000000
  na : l.at_.length ≤ 1000000
  nb : l.begun.length ≤ 1000000
  nd : l.done.length ≤ 1000000
structure MkSt where
  i : Nat
  D : List Bool
/-- Marks, handed back, or nothing. -/
def RMark (e : TypeId) (n : Nat) (r : Option (List Bool)) : Value → List Fa → Own → Prop := fun u Φ' M' => match r with
  | none => u = .slice none 0 0 ∧ Φ' = [] ∧ M' = []
  | some D => ∃ b, u = .slice (some ⟨b, 0, none⟩) n n ∧ Φ' = [] ∧ M' = [(b, Ob (cB D) e)]
theorem markP_step {D : List Bool} {ks : List Int} {i : Nat} (h : i < ks.length) : markP D (ks.drop i) = if badM D ks[i] then none else markP (D.set ks[i].toNat true) (ks.drop (i + 1)) := by
  rw [List.drop_eq_getElem_cons h, markP]
theorem markA_step {D : List Bool} {ks : List Int} {i : Nat} (h : i < ks.length) : markA D (ks.drop i) = if ks[i] = -1 then markA D (ks.drop (i + 1)) else if badM D ks[i] then none else markA (D.set ks[i].toNat true) (ks.drop (i + 1)) := by
  rw [List.drop_eq_getElem_cons h, markA]
theorem badM_lt {D : List Bool} {k : Int} (h : k < 0) : badM D k = true := by unfold badM; simp [h]
theorem badM_ge {D : List Bool} {k : Int} (h : (D.length : Int) ≤ k) : badM D k = true := by unfold badM; simp [h]
theorem badM_in {D : List Bool} {k : Int} {j : Nat} (hk : k = (j : Int)) (hj : j < D.length) : badM D k = D[j] := by
  subst hk
  unfold badM
  have h1 : ¬ ((j : Int) < 0) := by omega
  have h2 : ¬ ((D.length : Int) ≤ (j : Int)) := by omega
  rw [decide_eq_false h1, decide_eq_false h2, Int.toNat_natCast, List.getD_eq_getElem?_getD, List.getElem?_eq_getElem hj]
  rfl
/-- ... with whether all is well. -/
def RMarkA (e : TypeId) (n : Nat) (r : Option (List Bool)) : Value → List Fa → Own → Prop := fun u Φ' M' => match r with
  | none => u = .tuple #[.slice none 0 0, .bool false] ∧ Φ' = [] ∧ M' = []
  | some D => ∃ b, u = .tuple #[.slice (some ⟨b, 0, none⟩) n n, .bool true] ∧ Φ' = [] ∧ M' = [(b, Ob (cB D) e)]
theorem FitL.of {l l' : Lot} (h : FitL l) (r : RightI l') (hs : l'.sets = l.sets) : FitL l' := by
  have h64 := may_len r.may
  have hd := right_done_len r
  have h1 := r.sl
  have h2 := r.sb
  have h3 := r.a2
  exact ⟨by rw [hs]; exact h.fs, by omega, by omega, by omega, by omega, by omega⟩
end Go.Rail
