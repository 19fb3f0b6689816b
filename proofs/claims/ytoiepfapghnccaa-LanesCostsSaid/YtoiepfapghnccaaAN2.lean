/- The shape of a lot; what is done, what lanes have. -/
import Derived.Test.YtoiepfapghnccaaAN1Fit
import Derived.Test.YtoiepfapghnccaaRailD
namespace Go.Rail
open Go Go.Proofs
set_option linter.unusedSimpArgs false
set_option linter.unusedVariables false
set_option maxHeartbeats 400000
set_option maxRecDepth 4000
attribute [local irreducible] OpK G W LW wpListIn Exit.then Exit.inBlock Post rounds opRun bodyPostM intOp
attribute [local irreducible] badM rightS mayG clashS
theorem shape_spec (v : Value) (l : Lot) (hl : FitL l) : FnV Try.prog 111 [v] [fRp v l] (.bool (shapeL l)) := by
  obtain ⟨fs, ns, nl, na, nb, nd⟩ := hl
  refine Fn.enter Try.func111 rfl Try.ntmps111 (by simp) (fun I0 w0 => ?_)
  refine W.bare (G.lot v l ?_)
  intro a1 c1 a2 c2 a3 c3 a4 c4 a5 c5 e
  subst e
  by_cases h1 : l.left.length = l.sets.length
  case neg =>
    repeat (first | refine stp ?_ | (refine sti ?_; intro _) | refine stf ?_ | (refine stb ?_; intro _))
    refine G.ret rfl (.cons (.tmp rfl) .nil) (Φ' := []) (M' := []) inferInstance (List.nil_sublist _) ⟨?_, rfl, rfl⟩
    simp [tup, shapeL, h1]
  by_cases h2 : l.begun.length = l.sets.length
  case neg =>
    repeat (first | refine stp ?_ | (refine sti ?_; intro _) | refine stf ?_ | (refine stb ?_; intro _))
    refine G.ret rfl (.cons (.tmp rfl) .nil) (Φ' := []) (M' := []) inferInstance (List.nil_sublist _) ⟨?_, rfl, rfl⟩
    simp [tup, shapeL, h2]
  by_cases h3 : 1 ≤ l.at_.length
  case neg =>
    repeat (first | refine stp ?_ | (refine sti ?_; intro _) | refine stf ?_ | (refine stb ?_; intro _))
    refine G.ret rfl (.cons (.tmp rfl) .nil) (Φ' := []) (M' := []) inferInstance (List.nil_sublist _) ⟨?_, rfl, rfl⟩
    have h3' : l.at_ = [] := List.length_eq_zero_iff.1 (by omega)
    simp [tup, shapeL, h3']
  by_cases h4 : l.at_.length ≤ 64
  case neg =>
    repeat (first | refine stp ?_ | (refine sti ?_; intro _) | refine stf ?_ | (refine stb ?_; intro _))
    refine G.ret rfl (.cons (.tmp rfl) .nil) (Φ' := []) (M' := []) inferInstance (List.nil_sublist _) ⟨?_, rfl, rfl⟩
    simp [tup, shapeL, h4]
  repeat (first | refine stp ?_ | (refine sti ?_; intro _) | refine stf ?_ | (refine stb ?_; intro _))
  refine o_callV rfl rfl rfl rfl (anyF_spec 129 oddLeft shape1_spec (.slice a2 l.left.length c2) l.left (by omega)) rfl ?_
  repeat (first | refine stp ?_ | (refine sti ?_; intro _) | refine stf ?_ | (refine stb ?_; intro _))
  refine G.ret rfl (.cons (.tmp rfl) .nil) (Φ' := []) (M' := []) inferInstance (List.nil_sublist _) ⟨?_, rfl, rfl⟩
  unfold shapeL
  rw [decide_eq_true h1, decide_eq_true h2, decide_eq_true h3, decide_eq_true h4]
  rfl
theorem dones_spec (v : Value) (l : Lot) (hl : FitL l) : Fn Try.prog 112 [v] [fRp v l] [] (RMark 4 l.sets.length (donesL l)) := by
  obtain ⟨fs, ns, nl, na, nb, nd⟩ := hl
  refine Fn.enter Try.func112 rfl Try.ntmps112 (by simp) (fun I0 w0 => ?_)
  refine W.bare (G.lot v l ?_)
  intro a1 c1 a2 c2 a3 c3 a4 c4 a5 c5 e
  subst e
  repeat (first | refine stp ?_ | (refine sti ?_; intro _) | refine stf ?_ | (refine stb ?_; intro _))
  refine o_makeB l.sets.length rfl rfl rfl rfl rfl rfl ns ?_
  intro b
  repeat (first | refine stp ?_ | (refine sti ?_; intro _) | refine stf ?_ | (refine stb ?_; intro _))
  refine W.loopI (fun (s : MkSt) => ([fRp (.slice a5 l.done.length c5) l.done], [(3, .slice (some ⟨b, 0, none⟩) l.sets.length l.sets.length), (11, .slice a5 l.done.length c5), (12, .int .i64 l.done.length), (13, .int .i64 s.i)], [(b, Ob (cB s.D) 4)])) (fun s => s.i ≤ l.done.length ∧ s.D.length = l.sets.length ∧ markP s.D (l.done.drop s.i) = donesL l) (fun s => l.done.length - s.i) ⟨0, List.replicate l.sets.length false⟩ ⟨Nat.zero_le _, by simp, by rw [List.drop_zero]; rfl⟩ inferInstance (look_sub_cons rfl (look_sub_cons rfl (look_sub_cons rfl (look_sub_cons rfl look_sub_nil)))) (.cons_cons _ (List.nil_sublist _)) ?_
  rintro ⟨i, D⟩ ⟨hi, hD, hM⟩
  dsimp only at hi hD hM ⊢
  by_cases hi0 : i = l.done.length
  · rw [List.drop_eq_nil_of_le (by omega), markP] at hM
    rw [← hM]
    repeat (first | refine stp ?_ | (refine sti ?_; intro _) | refine stf ?_ | (refine stb ?_; intro _))
    exact G.ret rfl (.cons (.tmp rfl) .nil) (Φ' := []) (M' := [(b, Ob (cB D) 4)]) inferInstance (List.Sublist.refl _) ⟨b, rfl, rfl, rfl⟩
  have hi1 : i < l.done.length := by omega
  rw [markP_step hi1] at hM
  by_cases hneg : l.done[i] < 0
  · rw [badM_lt hneg, if_pos rfl] at hM
    rw [← hM]
    repeat (first | refine stp ?_ | (refine sti ?_; intro _) | refine stf ?_ | (refine stb ?_; intro _))
    exact G.ret rfl (.cons (.tmp rfl) .nil) (Φ' := []) (M' := []) inferInstance (List.nil_sublist _) ⟨rfl, rfl, rfl⟩
  by_cases hbig : (l.sets.length : Int) ≤ l.done[i]
  · rw [badM_ge (by omega), if_pos rfl] at hM
    rw [← hM]
    repeat (first | refine stp ?_ | (refine sti ?_; intro _) | refine stf ?_ | (refine stb ?_; intro _))
    exact G.ret rfl (.cons (.tmp rfl) .nil) (Φ' := []) (M' := []) inferInstance (List.nil_sublist _) ⟨rfl, rfl, rfl⟩
  obtain ⟨k, hk⟩ : ∃ k : Nat, l.done[i] = (k : Int) := ⟨l.done[i].toNat, by omega⟩
  have hkD : k < D.length := by omega
  rw [badM_in hk hkD] at hM
  cases hb : D[k] with
  | true =>
    rw [hb, if_pos rfl] at hM
    rw [← hM]
    repeat (first | refine stp ?_ | (refine sti ?_; intro _) | refine stf ?_ | (refine stb ?_; intro _))
    refine o_idxO rfl rfl rfl rfl (by omega) (by omega) (o' := k) (by omega) ?_
    repeat (first | refine stp ?_ | (refine sti ?_; intro _) | refine stf ?_ | (refine stb ?_; intro _))
    refine o_loadB k hkD rfl rfl rfl rfl ?_
    rw [hb]
    repeat (first | refine stp ?_ | (refine sti ?_; intro _) | refine stf ?_ | (refine stb ?_; intro _))
    exact G.ret rfl (.cons (.tmp rfl) .nil) (Φ' := []) (M' := []) inferInstance (List.nil_sublist _) ⟨rfl, rfl, rfl⟩
  | false =>
    rw [hb, if_neg (by simp), hk, Int.toNat_natCast] at hM
    repeat (first | refine stp ?_ | (refine sti ?_; intro _) | refine stf ?_ | (refine stb ?_; intro _))
    refine o_idxO rfl rfl rfl rfl (by omega) (by omega) (o' := k) (by omega) ?_
    repeat (first | refine stp ?_ | (refine sti ?_; intro _) | refine stf ?_ | (refine stb ?_; intro _))
    refine o_loadB k hkD rfl rfl rfl rfl ?_
    rw [hb]
    repeat (first | refine stp ?_ | (refine sti ?_; intro _) | refine stf ?_ | (refine stb ?_; intro _))
    refine o_idxO rfl rfl rfl rfl (by omega) (by omega) (o' := k) (by omega) ?_
    refine G.cons ?_
    refine o_storeB k true hkD rfl rfl rfl rfl ?_
    repeat (first | refine stp ?_ | (refine sti ?_; intro _) | refine stf ?_ | (refine stb ?_; intro _))
    exact G.again (S := MkSt) ⟨i + 1, D.set k true⟩ (by dsimp only; omega) ⟨hi1, by dsimp only; rw [List.length_set]; exact hD, hM⟩ inferInstance (look_sub_cons rfl (look_sub_cons rfl (look_sub_cons rfl (look_sub_cons rfl look_sub_nil)))) (List.Sublist.refl _)
theorem held_spec (v : Value) (l : Lot) (hl : FitL l) : Fn Try.prog 113 [v] [fRp v l] [] (RMarkA 4 l.sets.length (heldL l)) := by
  obtain ⟨fs, ns, nl, na, nb, nd⟩ := hl
  refine Fn.enter Try.func113 rfl Try.ntmps113 (by simp) (fun I0 w0 => ?_)
  refine W.bare (G.lot v l ?_)
  intro a1 c1 a2 c2 a3 c3 a4 c4 a5 c5 e
  subst e
  repeat (first | refine stp ?_ | (refine sti ?_; intro _) | refine stf ?_ | (refine stb ?_; intro _))
  refine o_makeB l.sets.length rfl rfl rfl rfl rfl rfl ns ?_
  intro b
  repeat (first | refine stp ?_ | (refine sti ?_; intro _) | refine stf ?_ | (refine stb ?_; intro _))
  refine W.loopI (fun (s : MkSt) => ([fRp (.slice a3 l.at_.length c3) l.at_], [(4, .slice (some ⟨b, 0, none⟩) l.sets.length l.sets.length), (12, .slice a3 l.at_.length c3), (13, .int .i64 l.at_.length), (14, .int .i64 s.i)], [(b, Ob (cB s.D) 4)])) (fun s => s.i ≤ l.at_.length ∧ s.D.length = l.sets.length ∧ markA s.D (l.at_.drop s.i) = heldL l) (fun s => l.at_.length - s.i) ⟨0, List.replicate l.sets.length false⟩ ⟨Nat.zero_le _, by simp, by rw [List.drop_zero]; rfl⟩ inferInstance (look_sub_cons rfl (look_sub_cons rfl (look_sub_cons rfl (look_sub_cons rfl look_sub_nil)))) (.cons_cons _ (List.nil_sublist _)) ?_
  rintro ⟨i, D⟩ ⟨hi, hD, hM⟩
  dsimp only at hi hD hM ⊢
  by_cases hi0 : i = l.at_.length
  · rw [List.drop_eq_nil_of_le (by omega), markA] at hM
    rw [← hM]
    repeat (first | refine stp ?_ | (refine sti ?_; intro _) | refine stf ?_ | (refine stb ?_; intro _))
    exact G.ret rfl (.cons (.tmp rfl) (.cons (.tmp rfl) .nil)) (Φ' := []) (M' := [(b, Ob (cB D) 4)]) inferInstance (List.Sublist.refl _) ⟨b, rfl, rfl, rfl⟩
  have hi1 : i < l.at_.length := by omega
  rw [markA_step hi1] at hM
  by_cases hno : l.at_[i] = -1
  · rw [if_pos hno] at hM
    repeat (first | refine stp ?_ | (refine sti ?_; intro _) | refine stf ?_ | (refine stb ?_; intro _))
    exact G.again (S := MkSt) ⟨i + 1, D⟩ (by dsimp only; omega) ⟨hi1, hD, hM⟩ inferInstance (look_sub_cons rfl (look_sub_cons rfl (look_sub_cons rfl (look_sub_cons rfl look_sub_nil)))) (List.Sublist.refl _)
  rw [if_neg hno] at hM
  by_cases hneg : l.at_[i] < 0
  · rw [badM_lt hneg, if_pos rfl] at hM
    rw [← hM]
    repeat (first | refine stp ?_ | (refine sti ?_; intro _) | refine stf ?_ | (refine stb ?_; intro _))
    exact G.ret rfl (.cons (.tmp rfl) (.cons (.tmp rfl) .nil)) (Φ' := []) (M' := []) inferInstance (List.nil_sublist _) ⟨rfl, rfl, rfl⟩
  by_cases hbig : (l.sets.length : Int) ≤ l.at_[i]
  · rw [badM_ge (by omega), if_pos rfl] at hM
    rw [← hM]
    repeat (first | refine stp ?_ | (refine sti ?_; intro _) | refine stf ?_ | (refine stb ?_; intro _))
    exact G.ret rfl (.cons (.tmp rfl) (.cons (.tmp rfl) .nil)) (Φ' := []) (M' := []) inferInstance (List.nil_sublist _) ⟨rfl, rfl, rfl⟩
  obtain ⟨k, hk⟩ : ∃ k : Nat, l.at_[i] = (k : Int) := ⟨l.at_[i].toNat, by omega⟩
  have hkD : k < D.length := by omega
  rw [badM_in hk hkD] at hM
  cases hb : D[k] with
  | true =>
    rw [hb, if_pos rfl] at hM
    rw [← hM]
    repeat (first | refine stp ?_ | (refine sti ?_; intro _) | refine stf ?_ | (refine stb ?_; intro _))
    refine o_idxO rfl rfl rfl rfl (by omega) (by omega) (o' := k) (by omega) ?_
    repeat (first | refine stp ?_ | (refine sti ?_; intro _) | refine stf ?_ | (refine stb ?_; intro _))
    refine o_loadB k hkD rfl rfl rfl rfl ?_
    rw [hb]
    repeat (first | refine stp ?_ | (refine sti ?_; intro _) | refine stf ?_ | (refine stb ?_; intro _))
    exact G.ret rfl (.cons (.tmp rfl) (.cons (.tmp rfl) .nil)) (Φ' := []) (M' := []) inferInstance (List.nil_sublist _) ⟨rfl, rfl, rfl⟩
  | false =>
    rw [hb, if_neg (by simp), hk, Int.toNat_natCast] at hM
    repeat (first | refine stp ?_ | (refine sti ?_; intro _) | refine stf ?_ | (refine stb ?_; intro _))
    refine o_idxO rfl rfl rfl rfl (by omega) (by omega) (o' := k) (by omega) ?_
    repeat (first | refine stp ?_ | (refine sti ?_; intro _) | refine stf ?_ | (refine stb ?_; intro _))
    refine o_loadB k hkD rfl rfl rfl rfl ?_
    rw [hb]
    repeat (first | refine stp ?_ | (refine sti ?_; intro _) | refine stf ?_ | (refine stb ?_; intro _))
    refine o_idxO rfl rfl rfl rfl (by omega) (by omega) (o' := k) (by omega) ?_
    refine G.cons ?_
    refine o_storeB k true hkD rfl rfl rfl rfl ?_
    repeat (first | refine stp ?_ | (refine sti ?_; intro _) | refine stf ?_ | (refine stb ?_; intro _))
    exact G.again (S := MkSt) ⟨i + 1, D.set k true⟩ (by dsimp only; omega) ⟨hi1, by dsimp only; rw [List.length_set]; exact hD, hM⟩ inferInstance (look_sub_cons rfl (look_sub_cons rfl (look_sub_cons rfl (look_sub_cons rfl look_sub_nil)))) (List.Sublist.refl _)
end Go.Rail
