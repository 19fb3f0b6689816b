/- Small parts of lanes: clones, places, odd numbers, marks. -/
import Derived.Test.YtoiepfapghnccaaGreatAGReadyLRaw
import Derived.Test.YtoiepfapghnccaaGreatAGRef2GEdges
import Derived.Test.YtoiepfapghnccaaGreatRailD
import Derived.Test.YtoiepfapghnccaaGreatAClashGMay
import Derived.Test.YtoiepfapghnccaaGreatAGLawM1
namespace Go.Rail
open Go Go.Proofs
set_option linter.unusedSimpArgs false
set_option linter.unusedVariables false
set_option maxHeartbeats 400000
set_option maxRecDepth 4000
attribute [local irreducible] OpK G W LW wpListIn Exit.then Exit.inBlock Post rounds opRun bodyPostM intOp
attribute [local irreducible] badM
theorem cloneI_spec (v : Value) (xs : List Int) (hx : xs.length ≤ 1000000000) : Fn Tryz.prog 54 [v] [fRp v xs] [] (ROwn 3 xs) := by
  refine Fn.enter Tryz.func54 rfl Tryz.ntmps54 (by simp) (fun I0 w0 => ?_)
  refine W.bare (G.sliceN v xs ?_)
  intro a cap hv hc hnil
  subst hv
  cases a with
  | none =>
    have hx0 := hnil rfl
    subst hx0
    repeat (first | refine stp ?_ | (refine sti ?_; intro _) | refine stf ?_ | (refine stb ?_; intro _))
    refine o_eqNil rfl rfl rfl rfl rfl ?_
    repeat (first | refine stp ?_ | (refine sti ?_; intro _) | refine stf ?_ | (refine stb ?_; intro _))
    exact G.ret rfl (.cons (.tmp rfl) .nil) inferInstance (List.nil_sublist _) ⟨none, ⟨rfl, rfl⟩, rfl, rfl⟩
  | some ad =>
    repeat (first | refine stp ?_ | (refine sti ?_; intro _) | refine stf ?_ | (refine stb ?_; intro _))
    refine o_eqNil rfl rfl rfl rfl rfl ?_
    repeat (first | refine stp ?_ | (refine sti ?_; intro _) | refine stf ?_ | (refine stb ?_; intro _))
    refine o_litM (xs := xs.take 0) ⟨by simp, rfl, by decide⟩ rfl rfl rfl RpL.nil rfl ?_
    intro b cs hcs
    repeat (first | refine stp ?_ | (refine sti ?_; intro _) | refine stf ?_ | (refine stb ?_; intro _))
    refine o_app2 (Mr := []) (some (b, cs)) (xs := xs.take 0) (ys := xs) ⟨0, rfl, by simpa using hcs, by simp⟩ ⟨by simp; omega, by simp; omega, rfl⟩ rfl rfl rfl rfl (show Ent' _ (fRow cs (xs.take 0)) from inferInstance) inferInstance (List.Perm.refl _) ?_
    intro v' o' hown'
    rw [show xs.take 0 ++ xs = xs from rfl] at hown' ⊢
    repeat (first | refine stp ?_ | (refine sti ?_; intro _) | refine stf ?_ | (refine stb ?_; intro _))
    exact G.ret rfl (.cons (.tmp rfl) .nil) inferInstance (List.Sublist.refl _) ⟨o', hown', rfl, rfl⟩
theorem cloneBo_spec (v : Value) (xs : List Bool) (hx : xs.length ≤ 1000000000) : Fn Tryz.prog 55 [v] [fRp v xs] [] (ROwn 4 xs) := by
  refine Fn.enter Tryz.func55 rfl Tryz.ntmps55 (by simp) (fun I0 w0 => ?_)
  refine W.bare (G.sliceN v xs ?_)
  intro a cap hv hc hnil
  subst hv
  cases a with
  | none =>
    have hx0 := hnil rfl
    subst hx0
    repeat (first | refine stp ?_ | (refine sti ?_; intro _) | refine stf ?_ | (refine stb ?_; intro _))
    refine o_eqNil rfl rfl rfl rfl rfl ?_
    repeat (first | refine stp ?_ | (refine sti ?_; intro _) | refine stf ?_ | (refine stb ?_; intro _))
    exact G.ret rfl (.cons (.tmp rfl) .nil) inferInstance (List.nil_sublist _) ⟨none, ⟨rfl, rfl⟩, rfl, rfl⟩
  | some ad =>
    repeat (first | refine stp ?_ | (refine sti ?_; intro _) | refine stf ?_ | (refine stb ?_; intro _))
    refine o_eqNil rfl rfl rfl rfl rfl ?_
    repeat (first | refine stp ?_ | (refine sti ?_; intro _) | refine stf ?_ | (refine stb ?_; intro _))
    refine o_litM (xs := xs.take 0) ⟨by simp, rfl, by decide⟩ rfl rfl rfl RpL.nil rfl ?_
    intro b cs hcs
    repeat (first | refine stp ?_ | (refine sti ?_; intro _) | refine stf ?_ | (refine stb ?_; intro _))
    refine o_app2 (Mr := []) (some (b, cs)) (xs := xs.take 0) (ys := xs) ⟨0, rfl, by simpa using hcs, by simp⟩ ⟨by simp; omega, by simp; omega, rfl⟩ rfl rfl rfl rfl (show Ent' _ (fRow cs (xs.take 0)) from inferInstance) inferInstance (List.Perm.refl _) ?_
    intro v' o' hown'
    rw [show xs.take 0 ++ xs = xs from rfl] at hown' ⊢
    repeat (first | refine stp ?_ | (refine sti ?_; intro _) | refine stf ?_ | (refine stb ?_; intro _))
    exact G.ret rfl (.cons (.tmp rfl) .nil) inferInstance (List.Sublist.refl _) ⟨o', hown', rfl, rfl⟩
theorem cloneSe_spec (v : Value) (xs : List Sets) (hx : xs.length ≤ 1000000000) : Fn Tryz.prog 52 [v] [fRp v xs] [] (ROwn 39 xs) := by
  refine Fn.enter Tryz.func52 rfl Tryz.ntmps52 (by simp) (fun I0 w0 => ?_)
  refine W.bare (G.sliceN v xs ?_)
  intro a cap hv hc hnil
  subst hv
  cases a with
  | none =>
    have hx0 := hnil rfl
    subst hx0
    repeat (first | refine stp ?_ | (refine sti ?_; intro _) | refine stf ?_ | (refine stb ?_; intro _))
    refine o_eqNil rfl rfl rfl rfl rfl ?_
    repeat (first | refine stp ?_ | (refine sti ?_; intro _) | refine stf ?_ | (refine stb ?_; intro _))
    exact G.ret rfl (.cons (.tmp rfl) .nil) inferInstance (List.nil_sublist _) ⟨none, ⟨rfl, rfl⟩, rfl, rfl⟩
  | some ad =>
    repeat (first | refine stp ?_ | (refine sti ?_; intro _) | refine stf ?_ | (refine stb ?_; intro _))
    refine o_eqNil rfl rfl rfl rfl rfl ?_
    repeat (first | refine stp ?_ | (refine sti ?_; intro _) | refine stf ?_ | (refine stb ?_; intro _))
    refine o_litM (xs := xs.take 0) ⟨by simp, rfl, by decide⟩ rfl rfl rfl RpL.nil rfl ?_
    intro b cs hcs
    repeat (first | refine stp ?_ | (refine sti ?_; intro _) | refine stf ?_ | (refine stb ?_; intro _))
    refine o_app2 (Mr := []) (some (b, cs)) (xs := xs.take 0) (ys := xs) ⟨0, rfl, by simpa using hcs, by simp⟩ ⟨by simp; omega, by simp; omega, rfl⟩ rfl rfl rfl rfl (show Ent' _ (fRow cs (xs.take 0)) from inferInstance) inferInstance (List.Perm.refl _) ?_
    intro v' o' hown'
    rw [show xs.take 0 ++ xs = xs from rfl] at hown' ⊢
    repeat (first | refine stp ?_ | (refine sti ?_; intro _) | refine stf ?_ | (refine stb ?_; intro _))
    exact G.ret rfl (.cons (.tmp rfl) .nil) inferInstance (List.Sublist.refl _) ⟨o', hown', rfl, rfl⟩
theorem indexI_spec (v : Value) (xs : List Int) (hx : xs.length ≤ 4611686018427387904) (k : Int) : FnV Tryz.prog 41 [v, .int .i64 k] [fRp v xs] (.int .i64 (idxG (fun a => decide (k = a)) xs)) := by
  refine Fn.enter Tryz.func41 rfl Tryz.ntmps41 (by simp) (fun I0 w0 => ?_)
  repeat (first | refine stp ?_ | (refine sti ?_; intro _) | refine stf ?_ | (refine stb ?_; intro _))
  refine W.loopI (fun (i : Nat) => ([fRp v xs], [(0, v), (1, .int .i64 k), (7, .int .i64 xs.length), (8, .int .i64 i)], [])) (fun i => i ≤ xs.length ∧ ∀ a ∈ xs.take i, (decide (k = a)) = false) (fun i => xs.length - i) 0 ⟨by omega, by simp⟩ inferInstance (look_sub_cons rfl (look_sub_cons rfl (look_sub_cons rfl (look_sub_cons rfl look_sub_nil)))) (List.Sublist.refl _) ?_
  intro i ⟨hi, hm⟩
  dsimp only
  by_cases hi0 : i = xs.length
  · subst hi0
    rw [List.take_length] at hm
    repeat (first | refine stp ?_ | (refine sti ?_; intro _) | refine stf ?_ | (refine stb ?_; intro _))
    refine G.ret rfl (.cons (.tmp rfl) .nil) (Φ' := []) (M' := []) inferInstance (List.nil_sublist _) ⟨?_, rfl, rfl⟩
    rw [idxG_none hm]; rfl
  · have hi1 : i < xs.length := by omega
    by_cases hk : k = xs[i]
    · repeat (first | refine stp ?_ | (refine sti ?_; intro _) | refine stf ?_ | (refine stb ?_; intro _))
      refine G.ret rfl (.cons (.tmp rfl) .nil) (Φ' := []) (M' := []) inferInstance (List.nil_sublist _) ⟨?_, rfl, rfl⟩
      rw [idxG_at hi1 hm (decide_eq_true hk)]; rfl
    · repeat (first | refine stp ?_ | (refine sti ?_; intro _) | refine stf ?_ | (refine stb ?_; intro _))
      refine G.again (i + 1) (by omega) ⟨by omega, fun a ha => ((mem_take_succ hi1).1 ha).elim (hm a) (fun e => by rw [← e]; exact decide_eq_false hk)⟩ inferInstance (look_sub_cons rfl (look_sub_cons rfl (look_sub_cons rfl (look_sub_cons rfl look_sub_nil)))) (List.Sublist.refl _)
theorem idxF_spec (f : FuncId) [HasFn Tryz.prog f] (p : Int → Bool) (hf : ∀ k : Int, FnV Tryz.prog f [.int .i64 k] [] (.bool (p k))) (vo : Value) (o : List Int) (ho : o.length ≤ 4611686018427387904) : FnV Tryz.prog 58 [vo, .func (.func f) #[] #[]] [fRp vo o] (.int .i64 (idxG p o)) := by
  refine Fn.enter Tryz.func58 rfl Tryz.ntmps58 (by simp) (fun I0 w0 => ?_)
  repeat (first | refine stp ?_ | (refine sti ?_; intro _) | refine stf ?_ | (refine stb ?_; intro _))
  refine W.loopI (fun (i : Nat) => ([fRp vo o], [(0, vo), (1, .func (.func f) #[] #[]), (7, .int .i64 o.length), (8, .int .i64 i)], [])) (fun i => i ≤ o.length ∧ ∀ k ∈ o.take i, p k = false) (fun i => o.length - i) 0 ⟨by omega, by simp⟩ inferInstance (look_sub_cons rfl (look_sub_cons rfl (look_sub_cons rfl (look_sub_cons rfl look_sub_nil)))) (List.Sublist.refl _) ?_
  intro i ⟨hi, hm⟩
  dsimp only
  by_cases hi0 : i = o.length
  · subst hi0
    rw [List.take_length] at hm
    repeat (first | refine stp ?_ | (refine sti ?_; intro _) | refine stf ?_ | (refine stb ?_; intro _))
    refine G.ret rfl (.cons (.tmp rfl) .nil) (Φ' := []) (M' := []) inferInstance (List.nil_sublist _) ⟨?_, rfl, rfl⟩
    rw [idxG_none hm]; rfl
  · have hi1 : i < o.length := by omega
    repeat (first | refine stp ?_ | (refine sti ?_; intro _) | refine stf ?_ | (refine stb ?_; intro _))
    cases hk : p o[i] with
    | false =>
      refine o_callV (cap := []) rfl rfl rfl rfl (hf o[i]) (congrArg Value.bool hk) ?_
      repeat (first | refine stp ?_ | (refine sti ?_; intro _) | refine stf ?_ | (refine stb ?_; intro _))
      refine G.again (i + 1) (by omega) ⟨by omega, fun k hk' => ((mem_take_succ hi1).1 hk').elim (hm k) (fun e => by rw [← e]; exact hk)⟩ inferInstance (look_sub_cons rfl (look_sub_cons rfl (look_sub_cons rfl (look_sub_cons rfl look_sub_nil)))) (List.Sublist.refl _)
    | true =>
      refine o_callV (cap := []) rfl rfl rfl rfl (hf o[i]) (congrArg Value.bool hk) ?_
      repeat (first | refine stp ?_ | (refine sti ?_; intro _) | refine stf ?_ | (refine stb ?_; intro _))
      refine G.ret rfl (.cons (.tmp rfl) .nil) (Φ' := []) (M' := []) inferInstance (List.nil_sublist _) ⟨?_, rfl, rfl⟩
      rw [idxG_at hi1 hm hk]; rfl
theorem anyF_spec (f : FuncId) [HasFn Tryz.prog f] (p : Int → Bool) (hf : ∀ k : Int, FnV Tryz.prog f [.int .i64 k] [] (.bool (p k))) (vo : Value) (o : List Int) (ho : o.length ≤ 4611686018427387904) : FnV Tryz.prog 34 [vo, .func (.func f) #[] #[]] [fRp vo o] (.bool (o.any p)) := by
  refine Fn.enter Tryz.func34 rfl Tryz.ntmps34 (by simp) (fun I0 w0 => ?_)
  repeat (first | refine stp ?_ | (refine sti ?_; intro _) | refine stf ?_ | (refine stb ?_; intro _))
  refine o_callV rfl rfl rfl rfl (idxF_spec f p hf vo o ho) rfl ?_
  repeat (first | refine stp ?_ | (refine sti ?_; intro _) | refine stf ?_ | (refine stb ?_; intro _))
  refine G.ret rfl (.cons (.tmp rfl) .nil) (Φ' := []) (M' := []) inferInstance (List.nil_sublist _) ⟨?_, rfl, rfl⟩
  rw [← idxG_nn]; rfl
theorem shape1_spec (k : Int) : FnV Tryz.prog 62 [.int .i64 k] [] (.bool (oddLeft k)) := by
  refine Fn.enter Tryz.func62 rfl Tryz.ntmps62 (by simp) (fun I0 w0 => ?_)
  by_cases h1 : k < 0
  · repeat (first | refine stp ?_ | (refine sti ?_; intro _) | refine stf ?_ | (refine stb ?_; intro _))
    refine G.ret rfl (.cons (.tmp rfl) .nil) (Φ' := []) (M' := []) inferInstance (List.nil_sublist _) ⟨?_, rfl, rfl⟩
    simp [tup, oddLeft, h1]
  · by_cases h2 : 1099511627776 < k
    · repeat (first | refine stp ?_ | (refine sti ?_; intro _) | refine stf ?_ | (refine stb ?_; intro _))
      refine G.ret rfl (.cons (.tmp rfl) .nil) (Φ' := []) (M' := []) inferInstance (List.nil_sublist _) ⟨?_, rfl, rfl⟩
      simp [tup, oddLeft, h2]
    · repeat (first | refine stp ?_ | (refine sti ?_; intro _) | refine stf ?_ | (refine stb ?_; intro _))
      refine G.ret rfl (.cons (.tmp rfl) .nil) (Φ' := []) (M' := []) inferInstance (List.nil_sublist _) ⟨?_, rfl, rfl⟩
      simp [tup, oddLeft, h1, h2]
theorem new1_spec (k : Int) : FnV Tryz.prog 32 [.int .i64 k] [] (.bool (oddCost k)) := by
  refine Fn.enter Tryz.func32 rfl Tryz.ntmps32 (by simp) (fun I0 w0 => ?_)
  by_cases h1 : k < 1
  · repeat (first | refine stp ?_ | (refine sti ?_; intro _) | refine stf ?_ | (refine stb ?_; intro _))
    refine G.ret rfl (.cons (.tmp rfl) .nil) (Φ' := []) (M' := []) inferInstance (List.nil_sublist _) ⟨?_, rfl, rfl⟩
    simp [tup, oddCost, h1]
  · by_cases h2 : 1099511627776 < k
    · repeat (first | refine stp ?_ | (refine sti ?_; intro _) | refine stf ?_ | (refine stb ?_; intro _))
      refine G.ret rfl (.cons (.tmp rfl) .nil) (Φ' := []) (M' := []) inferInstance (List.nil_sublist _) ⟨?_, rfl, rfl⟩
      simp [tup, oddCost, h2]
    · repeat (first | refine stp ?_ | (refine sti ?_; intro _) | refine stf ?_ | (refine stb ?_; intro _))
      refine G.ret rfl (.cons (.tmp rfl) .nil) (Φ' := []) (M' := []) inferInstance (List.nil_sublist _) ⟨?_, rfl, rfl⟩
      simp [tup, oddCost, h1, h2]
end Go.Rail
namespace Go.Rail
open Go Go.Proofs
set_option linter.unusedSimpArgs false
set_option linter.unusedVariables false
set_option maxHeartbeats 400000
set_option maxRecDepth 4000
attribute [local irreducible] OpK G W LW wpListIn Exit.then Exit.inBlock Post rounds opRun bodyPostM intOp
attribute [local irreducible] badM rightS mayG clashS
theorem shape_spec (v : Value) (l : Lot) (hl : FitL l) : FnV Tryz.prog 38 [v] [fRp v l] (.bool (shapeL l)) := by
  obtain ⟨fs, ns, nl, na, nb, nd⟩ := hl
  refine Fn.enter Tryz.func38 rfl Tryz.ntmps38 (by simp) (fun I0 w0 => ?_)
  refine W.bare (G.lot v l ?_)
  intro a1 c1 a2 c2 a3 c3 a4 c4 a5 c5 e
  subst e
  by_cases h1 : l.left.length = l.sets.length
  case neg =>
    repeat (first | refine stp ?_ | (refine sti ?_; intro _) | refine stf ?_ | (refine stb ?_; intro _))
    refine G.ret rfl (.cons (.tmp rfl) .nil) (Φ' := []) (M' := []) inferInstance (List.nil_sublist _) ⟨?_, rfl, rfl⟩
    simp [tup, shapeL, h1]
  by_cases h2 : l.begun.length = l.sets.length
  case neg =>
    repeat (first | refine stp ?_ | (refine sti ?_; intro _) | refine stf ?_ | (refine stb ?_; intro _))
    refine G.ret rfl (.cons (.tmp rfl) .nil) (Φ' := []) (M' := []) inferInstance (List.nil_sublist _) ⟨?_, rfl, rfl⟩
    simp [tup, shapeL, h2]
  by_cases h3 : 1 ≤ l.at_.length
  case neg =>
    repeat (first | refine stp ?_ | (refine sti ?_; intro _) | refine stf ?_ | (refine stb ?_; intro _))
    refine G.ret rfl (.cons (.tmp rfl) .nil) (Φ' := []) (M' := []) inferInstance (List.nil_sublist _) ⟨?_, rfl, rfl⟩
    have h3' : l.at_ = [] := List.length_eq_zero_iff.1 (by omega)
    simp [tup, shapeL, h3']
  by_cases h4 : l.at_.length ≤ 64
  case neg =>
    repeat (first | refine stp ?_ | (refine sti ?_; intro _) | refine stf ?_ | (refine stb ?_; intro _))
    refine G.ret rfl (.cons (.tmp rfl) .nil) (Φ' := []) (M' := []) inferInstance (List.nil_sublist _) ⟨?_, rfl, rfl⟩
    simp [tup, shapeL, h4]
  repeat (first | refine stp ?_ | (refine sti ?_; intro _) | refine stf ?_ | (refine stb ?_; intro _))
  refine o_callV rfl rfl rfl rfl (anyF_spec 62 oddLeft shape1_spec (.slice a2 l.left.length c2) l.left (by omega)) rfl ?_
  repeat (first | refine stp ?_ | (refine sti ?_; intro _) | refine stf ?_ | (refine stb ?_; intro _))
  refine G.ret rfl (.cons (.tmp rfl) .nil) (Φ' := []) (M' := []) inferInstance (List.nil_sublist _) ⟨?_, rfl, rfl⟩
  unfold shapeL
  rw [decide_eq_true h1, decide_eq_true h2, decide_eq_true h3, decide_eq_true h4]
  rfl
theorem dones_spec (v : Value) (l : Lot) (hl : FitL l) : Fn Tryz.prog 39 [v] [fRp v l] [] (RMark 4 l.sets.length (donesL l)) := by
  obtain ⟨fs, ns, nl, na, nb, nd⟩ := hl
  refine Fn.enter Tryz.func39 rfl Tryz.ntmps39 (by simp) (fun I0 w0 => ?_)
  refine W.bare (G.lot v l ?_)
  intro a1 c1 a2 c2 a3 c3 a4 c4 a5 c5 e
  subst e
  repeat (first | refine stp ?_ | (refine sti ?_; intro _) | refine stf ?_ | (refine stb ?_; intro _))
  refine o_makeB l.sets.length rfl rfl rfl rfl rfl rfl ns ?_
  intro b
  repeat (first | refine stp ?_ | (refine sti ?_; intro _) | refine stf ?_ | (refine stb ?_; intro _))
  refine W.loopI (fun (s : MkSt) => ([fRp (.slice a5 l.done.length c5) l.done], [(3, .slice (some ⟨b, 0, none⟩) l.sets.length l.sets.length), (11, .slice a5 l.done.length c5), (12, .int .i64 l.done.length), (13, .int .i64 s.i)], [(b, Ob (cB s.D) 4)])) (fun s => s.i ≤ l.done.length ∧ s.D.length = l.sets.length ∧ markP s.D (l.done.drop s.i) = donesL l) (fun s => l.done.length - s.i) ⟨0, List.replicate l.sets.length false⟩ ⟨Nat.zero_le _, by simp, by rw [List.drop_zero]; rfl⟩ inferInstance (look_sub_cons rfl (look_sub_cons rfl (look_sub_cons rfl (look_sub_cons rfl look_sub_nil)))) (.cons_cons _ (List.nil_sublist _)) ?_
  rintro ⟨i, D⟩ ⟨hi, hD, hM⟩
  dsimp only at hi hD hM ⊢
  by_cases hi0 : i = l.done.length
  · rw [List.drop_eq_nil_of_le (by omega), markP] at hM
    rw [← hM]
    repeat (first | refine stp ?_ | (refine sti ?_; intro _) | refine stf ?_ | (refine stb ?_; intro _))
    exact G.ret rfl (.cons (.tmp rfl) .nil) (Φ' := []) (M' := [(b, Ob (cB D) 4)]) inferInstance (List.Sublist.refl _) ⟨b, rfl, rfl, rfl⟩
  have hi1 : i < l.done.length := by omega
  rw [markP_step hi1] at hM
  by_cases hneg : l.done[i] < 0
  · rw [badM_lt hneg, if_pos rfl] at hM
    rw [← hM]
    repeat (first | refine stp ?_ | (refine sti ?_; intro _) | refine stf ?_ | (refine stb ?_; intro _))
    exact G.ret rfl (.cons (.tmp rfl) .nil) (Φ' := []) (M' := []) inferInstance (List.nil_sublist _) ⟨rfl, rfl, rfl⟩
  by_cases hbig : (l.sets.length : Int) ≤ l.done[i]
  · rw [badM_ge (by omega), if_pos rfl] at hM
    rw [← hM]
    repeat (first | refine stp ?_ | (refine sti ?_; intro _) | refine stf ?_ | (refine stb ?_; intro _))
    exact G.ret rfl (.cons (.tmp rfl) .nil) (Φ' := []) (M' := []) inferInstance (List.nil_sublist _) ⟨rfl, rfl, rfl⟩
  obtain ⟨k, hk⟩ : ∃ k : Nat, l.done[i] = (k : Int) := ⟨l.done[i].toNat, by omega⟩
  have hkD : k < D.length := by omega
  rw [badM_in hk hkD] at hM
  cases hb : D[k] with
  | true =>
    rw [hb, if_pos rfl] at hM
    rw [← hM]
    repeat (first | refine stp ?_ | (refine sti ?_; intro _) | refine stf ?_ | (refine stb ?_; intro _))
    refine o_idxO rfl rfl rfl rfl (by omega) (by omega) (o' := k) (by omega) ?_
    repeat (first | refine stp ?_ | (refine sti ?_; intro _) | refine stf ?_ | (refine stb ?_; intro _))
    refine o_loadB k hkD rfl rfl rfl rfl ?_
    rw [hb]
    repeat (first | refine stp ?_ | (refine sti ?_; intro _) | refine stf ?_ | (refine stb ?_; intro _))
    exact G.ret rfl (.cons (.tmp rfl) .nil) (Φ' := []) (M' := []) inferInstance (List.nil_sublist _) ⟨rfl, rfl, rfl⟩
  | false =>
    rw [hb, if_neg (by simp), hk, Int.toNat_natCast] at hM
    repeat (first | refine stp ?_ | (refine sti ?_; intro _) | refine stf ?_ | (refine stb ?_; intro _))
    refine o_idxO rfl rfl rfl rfl (by omega) (by omega) (o' := k) (by omega) ?_
    repeat (first | refine stp ?_ | (refine sti ?_; intro _) | refine stf ?_ | (refine stb ?_; intro _))
    refine o_loadB k hkD rfl rfl rfl rfl ?_
    rw [hb]
    repeat (first | refine stp ?_ | (refine sti ?_; intro _) | refine stf ?_ | (refine stb ?_; intro _))
    refine o_idxO rfl rfl rfl rfl (by omega) (by omega) (o' := k) (by omega) ?_
    refine G.cons ?_
    refine o_storeB k true hkD rfl rfl rfl rfl ?_
    repeat (first | refine stp ?_ | (refine sti ?_; intro _) | refine stf ?_ | (refine stb ?_; intro _))
    exact G.again (S := MkSt) ⟨i + 1, D.set k true⟩ (by dsimp only; omega) ⟨hi1, by dsimp only; rw [List.length_set]; exact hD, hM⟩ inferInstance (look_sub_cons rfl (look_sub_cons rfl (look_sub_cons rfl (look_sub_cons rfl look_sub_nil)))) (List.Sublist.refl _)
theorem held_spec (v : Value) (l : Lot) (hl : FitL l) : Fn Tryz.prog 40 [v] [fRp v l] [] (RMarkA 4 l.sets.length (heldL l)) := by
  obtain ⟨fs, ns, nl, na, nb, nd⟩ := hl
  refine Fn.enter Tryz.func40 rfl Tryz.ntmps40 (by simp) (fun I0 w0 => ?_)
  refine W.bare (G.lot v l ?_)
  intro a1 c1 a2 c2 a3 c3 a4 c4 a5 c5 e
  subst e
  repeat (first | refine stp ?_ | (refine sti ?_; intro _) | refine stf ?_ | (refine stb ?_; intro _))
  refine o_makeB l.sets.length rfl rfl rfl rfl rfl rfl ns ?_
  intro b
  repeat (first | refine stp ?_ | (refine sti ?_; intro _) | refine stf ?_ | (refine stb ?_; intro _))
  refine W.loopI (fun (s : MkSt) => ([fRp (.slice a3 l.at_.length c3) l.at_], [(4, .slice (some ⟨b, 0, none⟩) l.sets.length l.sets.length), (12, .slice a3 l.at_.length c3), (13, .int .i64 l.at_.length), (14, .int .i64 s.i)], [(b, Ob (cB s.D) 4)])) (fun s => s.i ≤ l.at_.length ∧ s.D.length = l.sets.length ∧ markA s.D (l.at_.drop s.i) = heldL l) (fun s => l.at_.length - s.i) ⟨0, List.replicate l.sets.length false⟩ ⟨Nat.zero_le _, by simp, by rw [List.drop_zero]; rfl⟩ inferInstance (look_sub_cons rfl (look_sub_cons rfl (look_sub_cons rfl (look_sub_cons rfl look_sub_nil)))) (.cons_cons _ (List.nil_sublist _)) ?_
  rintro ⟨i, D⟩ ⟨hi, hD, hM⟩
  dsimp only at hi hD hM ⊢
  by_cases hi0 : i = l.at_.length
  · rw [List.drop_eq_nil_of_le (by omega), markA] at hM
    rw [← hM]
    repeat (first | refine stp ?_ | (refine sti ?_; intro _) | refine stf ?_ | (refine stb ?_; intro _))
    exact G.ret rfl (.cons (.tmp rfl) (.cons (.tmp rfl) .nil)) (Φ' := []) (M' := [(b, Ob (cB D) 4)]) inferInstance (List.Sublist.refl _) ⟨b, rfl, rfl, rfl⟩
  have hi1 : i < l.at_.length := by omega
  rw [markA_step hi1] at hM
  by_cases hno : l.at_[i] = -1
  · rw [if_pos hno] at hM
    repeat (first | refine stp ?_ | (refine sti ?_; intro _) | refine stf ?_ | (refine stb ?_; intro _))
    exact G.again (S := MkSt) ⟨i + 1, D⟩ (by dsimp only; omega) ⟨hi1, hD, hM⟩ inferInstance (look_sub_cons rfl (look_sub_cons rfl (look_sub_cons rfl (look_sub_cons rfl look_sub_nil)))) (List.Sublist.refl _)
  rw [if_neg hno] at hM
  by_cases hneg : l.at_[i] < 0
  · rw [badM_lt hneg, if_pos rfl] at hM
    rw [← hM]
    repeat (first | refine stp ?_ | (refine sti ?_; intro _) | refine stf ?_ | (refine stb ?_; intro _))
    exact G.ret rfl (.cons (.tmp rfl) (.cons (.tmp rfl) .nil)) (Φ' := []) (M' := []) inferInstance (List.nil_sublist _) ⟨rfl, rfl, rfl⟩
  by_cases hbig : (l.sets.length : Int) ≤ l.at_[i]
  · rw [badM_ge (by omega), if_pos rfl] at hM
    rw [← hM]
    repeat (first | refine stp ?_ | (refine sti ?_; intro _) | refine stf ?_ | (refine stb ?_; intro _))
    exact G.ret rfl (.cons (.tmp rfl) (.cons (.tmp rfl) .nil)) (Φ' := []) (M' := []) inferInstance (List.nil_sublist _) ⟨rfl, rfl, rfl⟩
  obtain ⟨k, hk⟩ : ∃ k : Nat, l.at_[i] = (k : Int) := ⟨l.at_[i].toNat, by omega⟩
  have hkD : k < D.length := by omega
  rw [badM_in hk hkD] at hM
  cases hb : D[k] with
  | true =>
    rw [hb, if_pos rfl] at hM
    rw [← hM]
    repeat (first | refine stp ?_ | (refine sti ?_; intro _) | refine stf ?_ | (refine stb ?_; intro _))
    refine o_idxO rfl rfl rfl rfl (by omega) (by omega) (o' := k) (by omega) ?_
    repeat (first | refine stp ?_ | (refine sti ?_; intro _) | refine stf ?_ | (refine stb ?_; intro _))
    refine o_loadB k hkD rfl rfl rfl rfl ?_
    rw [hb]
    repeat (first | refine stp ?_ | (refine sti ?_; intro _) | refine stf ?_ | (refine stb ?_; intro _))
    exact G.ret rfl (.cons (.tmp rfl) (.cons (.tmp rfl) .nil)) (Φ' := []) (M' := []) inferInstance (List.nil_sublist _) ⟨rfl, rfl, rfl⟩
  | false =>
    rw [hb, if_neg (by simp), hk, Int.toNat_natCast] at hM
    repeat (first | refine stp ?_ | (refine sti ?_; intro _) | refine stf ?_ | (refine stb ?_; intro _))
    refine o_idxO rfl rfl rfl rfl (by omega) (by omega) (o' := k) (by omega) ?_
    repeat (first | refine stp ?_ | (refine sti ?_; intro _) | refine stf ?_ | (refine stb ?_; intro _))
    refine o_loadB k hkD rfl rfl rfl rfl ?_
    rw [hb]
    repeat (first | refine stp ?_ | (refine sti ?_; intro _) | refine stf ?_ | (refine stb ?_; intro _))
    refine o_idxO rfl rfl rfl rfl (by omega) (by omega) (o' := k) (by omega) ?_
    refine G.cons ?_
    refine o_storeB k true hkD rfl rfl rfl rfl ?_
    repeat (first | refine stp ?_ | (refine sti ?_; intro _) | refine stf ?_ | (refine stb ?_; intro _))
    exact G.again (S := MkSt) ⟨i + 1, D.set k true⟩ (by dsimp only; omega) ⟨hi1, by dsimp only; rw [List.length_set]; exact hD, hM⟩ inferInstance (look_sub_cons rfl (look_sub_cons rfl (look_sub_cons rfl (look_sub_cons rfl look_sub_nil)))) (List.Sublist.refl _)
end Go.Rail
