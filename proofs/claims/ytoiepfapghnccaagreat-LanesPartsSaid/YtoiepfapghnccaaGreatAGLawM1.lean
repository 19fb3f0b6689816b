/- What the laws of layer 19 draw: picks, sets, states. -/
import Derived.Test.YtoiepfapghnccaaGreatAGReadyLRaw
import Derived.Test.YtoiepfapghnccaaGreatAGRef2GEdges
import Derived.Test.YtoiepfapghnccaaGreatRailD
import Derived.Test.YtoiepfapghnccaaGreatAClashGMay
import Derived.Test.YtoiepfapghnccaaGreatAGRef3
import Derived.Test.YtoiepfapghnccaaGreatRailE
namespace Go.Rail
open Go Go.Proofs
set_option linter.unusedSimpArgs false
set_option linter.unusedVariables false
set_option maxHeartbeats 400000
set_option maxRecDepth 4000
attribute [local irreducible] OpK G W LW wpListIn Exit.then Exit.inBlock Post rounds opRun bodyPostM intOp
attribute [local irreducible] lexN cmpW cmpA cmpK cmpI makeS setK clashS rightS errG edgesR errR readyR ordG setsOf
def absI (c : Int) : Nat := (if c < 0 then -(c + 1) else c).toNat
def pickN (c : Int) (n : Nat) : Nat := absI c % n
theorem pickN_lt (c : Int) {n : Nat} (h : 0 < n) : pickN c n < n := Nat.mod_lt _ h
/-- Sets, of raw numbers, at most ten. -/
def oneG (r : RawS) : Sets := setsOf r.a r.b
def rawG (raws : List RawS) : List Sets := (raws.take 10).map oneG
theorem oneG_right (r : RawS) : rightS (oneG r) = true := setsOf_right r.a r.b
theorem oneG_fit (r : RawS) : fit6 (oneG r) := by
  have := setsOf_small r.a r.b
  exact ⟨Nat.le_trans this.1 (by decide), Nat.le_trans this.2 (by decide)⟩
theorem rawG_len (raws : List RawS) : (rawG raws).length ≤ 10 := by
  rw [rawG, List.length_map, List.length_take]; omega
theorem rawG_may (raws : List RawS) : mayG (rawG raws) = true := by
  have h := rawG_len raws
  rw [mayG, decide_eq_true (by omega), Bool.true_and, List.all_eq_true]
  intro s hs
  obtain ⟨r, _, rfl⟩ := List.mem_map.1 hs
  exact oneG_right r
theorem rawG_fit (raws : List RawS) : ∀ s ∈ rawG raws, fit6 s := by
  intro s hs
  obtain ⟨r, _, rfl⟩ := List.mem_map.1 hs
  exact oneG_fit r
theorem rawG_succ {raws : List RawS} {i : Nat} (h : i < raws.length) : (raws.take i).map oneG ++ [oneG raws[i]] = (raws.take (i + 1)).map oneG := by
  rw [List.take_succ_eq_append_getElem h, List.map_append]; rfl
structure SgSt where
  i : Nat
  v : Value
  o : OR
def okRaws (raws : List RawS) : Prop := raws.length ≤ 4611686018427387904 ∧ ∀ r ∈ raws, okRaw r.a ∧ okRaw r.b
theorem gsetsO_spec (v : Value) (raws : List RawS) (hr : okRaws raws) : Fn Tryz.prog 21 [v] [fRp v raws] [] (ROwn 39 (rawG raws)) := by
  obtain ⟨hl, hr⟩ := hr
  refine Fn.enter Tryz.func21 rfl Tryz.ntmps21 (by simp) (fun I0 w0 => ?_)
  repeat (first | refine stp ?_ | (refine sti ?_; intro _) | refine stf ?_ | (refine stb ?_; intro _))
  refine W.loopI (fun (s : SgSt) => ([fRp v raws, fRow (ocells s.o) ((raws.take s.i).map oneG)], [(0, v), (3, s.v), (4, .int .i64 s.i)], ownM 39 s.o)) (fun s => s.i ≤ raws.length ∧ s.i ≤ 10 ∧ IsOwn 2 s.v ((raws.take s.i).map oneG).length s.o) (fun s => raws.length - s.i) ⟨0, .slice none 0 0, none⟩ ⟨Nat.zero_le _, by decide, ⟨rfl, rfl⟩⟩ (show Ents _ [fRp v raws, fRow ([] : List Value) ([] : List Sets)] from inferInstance) (look_sub_cons rfl (look_sub_cons rfl (look_sub_cons rfl look_sub_nil))) (List.Sublist.refl _) ?_
  rintro ⟨i, v3, o⟩ ⟨hi, hi10, hown⟩
  dsimp only at hi hi10 hown ⊢
  by_cases hi0 : i = raws.length
  · have e : (raws.take i).map oneG = rawG raws := by rw [rawG, List.take_of_length_le (by omega), List.take_of_length_le (by omega)]
    rw [e] at hown ⊢
    repeat (first | refine stp ?_ | (refine sti ?_; intro _) | refine stf ?_ | (refine stb ?_; intro _))
    exact G.ret rfl (.cons (.tmp rfl) .nil) (Φ' := [fRow (ocells o) (rawG raws)]) (M' := ownM 39 o) inferInstance (List.Sublist.refl _) ⟨o, hown, rfl, rfl⟩
  · have hi1 : i < raws.length := by omega
    by_cases h10 : i = 10
    · have e : (raws.take i).map oneG = rawG raws := by rw [rawG, h10]
      rw [e] at hown ⊢
      repeat (first | refine stp ?_ | (refine sti ?_; intro _) | refine stf ?_ | (refine stb ?_; intro _))
      exact G.ret rfl (.cons (.tmp rfl) .nil) (Φ' := [fRow (ocells o) (rawG raws)]) (M' := ownM 39 o) inferInstance (List.Sublist.refl _) ⟨o, hown, rfl, rfl⟩
    · have hri := hr raws[i] (List.getElem_mem hi1)
      have hll : ((raws.take i).map oneG).length ≤ 10 := by rw [List.length_map, List.length_take]; omega
      have hsu := rawG_succ hi1
      repeat (first | refine stp ?_ | (refine sti ?_; intro _) | refine stf ?_ | (refine stb ?_; intro _))
      refine W.draw 13 [⟨?v0_1, fun _ z => []⟩, ⟨?v1_1, fun _ z => []⟩, ⟨?v2_1, fun _ z => []⟩, ⟨fun _ z => z, fun _ z => [fPt z raws[i]]⟩, ⟨fun _ z => z, fun _ z => [fPt z raws[i].a]⟩, ⟨fun _ z => z, fun _ z => [fRp z raws[i].a]⟩, ⟨?v6_1, fun _ z => []⟩, ⟨?v7_1, fun _ z => []⟩, ⟨fun _ z => z, fun _ z => [fPt z raws[i]]⟩, ⟨fun _ z => z, fun _ z => [fPt z raws[i].b]⟩, ⟨fun _ z => z, fun _ z => [fRp z raws[i].b]⟩, ⟨fun _ z => z, fun _ z => [fRp z (oneG raws[i])]⟩, ⟨fun _ z => z, fun _ z => [fRp z [oneG raws[i]]]⟩] [[], [], [], [1, 2], [3], [4], [], [], [6, 7], [8], [9], [5, 10], [11]] [0, 12] (by kernel_rfl) (by kernel_rfl) (by kernel_rfl) (by kernel_rfl) ?loc_1 ?ops_1 ?rest_1
      case ops_1 =>
        simp only [AllQ, Nat.reduceAdd, and_true]
        refine ⟨?_, ?_, ?_, ?_, ?_, ?_, ?_, ?_, ?_, ?_, ?_, ?_, ?_⟩
        all_goals (intro c z0 Φr Lr K hK; dsimp only [dstOf, kval, kfac, ancE, ancF, getD_z, getD_s, List.getElem?_cons_zero, List.getElem?_cons_succ, List.getElem?_nil, Option.getD_some, Option.getD_none, List.nil_append, List.cons_append, Option.getD] at hK ⊢)
        iterate 3 (refine stp ?_; exact hK z0)
        · refine o_idxN i rfl rfl rfl rfl rfl hi1 ?_; intro p; exact hK _
        · refine o_indexP (α := RawS) (β := List (Int × Int)) (off := 0) RawS.a rfl rfl rfl rfl (by decide) (by decide) rfl ?_; intro p; exact hK _
        · refine o_loadR rfl rfl rfl rfl ?_; intro p; exact hK _
        · refine stp ?_; exact hK z0
        · refine stp ?_; exact hK z0
        · refine o_idxN i rfl rfl rfl rfl rfl hi1 ?_; intro p; exact hK _
        · refine o_indexP (α := RawS) (β := List (Int × Int)) (off := 1) RawS.b rfl rfl rfl rfl (by decide) (by decide) rfl ?_; intro p; exact hK _
        · refine o_loadR rfl rfl rfl rfl ?_; intro p; exact hK _
        · refine o_callD rfl rfl rfl rfl (rawSets (c 5) (c 10) raws[i].a raws[i].b hri.1 hri.2) ?_; intro p; exact hK _
        · refine o_lit (xs := [oneG raws[i]]) ⟨by decide, rfl, by decide⟩ rfl rfl rfl ⟨fun I hp => Ent'.h (φ := fRp (c 11) (oneG raws[i])) I hp, trivial⟩ rfl ?_; intro p; exact hK _
      case loc_1 =>
        simp only [AllL, Nat.reduceAdd, and_true]
        refine ⟨?_, ?_, ?_, ?_, ?_, ?_, ?_, ?_, ?_, ?_, ?_, ?_, ?_⟩
        all_goals (intro c c' z h; first | exact ⟨rfl, rfl⟩ | (skip))
      intro c
      dsimp only [dstOf, kval, kfac, ancE,  ancF, getD_z, getD_s, List.getElem?_cons_zero, List.getElem?_cons_succ, List.getElem?_nil, Option.getD_some, Option.getD_none, List.nil_append, List.cons_append, List.drop_succ_cons, List.drop_zero, Option.getD]
      repeat (first | refine stp ?_ | (refine sti ?_; intro _) | refine stf ?_ | (refine stb ?_; intro _))
      refine o_app2 (Mr := []) o (xs := (raws.take i).map oneG) (ys := [oneG raws[i]]) hown ⟨by simp; omega, by simp; omega, rfl⟩ rfl rfl rfl rfl inferInstance inferInstance (List.Perm.refl _) ?_
      intro v' o' hown'
      rw [hsu] at hown' ⊢
      repeat (first | refine stp ?_ | (refine sti ?_; intro _) | refine stf ?_ | (refine stb ?_; intro _))
      exact G.again (S := SgSt) ⟨i + 1, v', o'⟩ (by dsimp only; omega) ⟨by dsimp only; omega, by dsimp only; omega, hown'⟩ inferInstance (look_sub_cons rfl (look_sub_cons rfl (look_sub_cons rfl look_sub_nil))) (List.Sublist.refl _)
theorem gsets_spec (v : Value) (raws : List RawS) (hr : okRaws raws) : FnD Tryz.prog 21 [v] [fRp v raws] (fun u => [fRp u (rawG raws)]) := Fn.given (e := 39) (gsetsO_spec v raws hr)
end Go.Rail
namespace Go.Rail
open Go Go.Proofs
set_option linter.unusedSimpArgs false
set_option linter.unusedVariables false
set_option maxHeartbeats 400000
set_option maxRecDepth 4000
attribute [local irreducible] OpK G W LW wpListIn Exit.then Exit.inBlock Post rounds opRun bodyPostM intOp
theorem pick20_spec (c : Int) (n : Nat) (hn : 0 < n) (hn2 : n < 9223372036854775808) (hc : -9223372036854775808 ≤ c ∧ c ≤ 9223372036854775807) : FnV Tryz.prog 9 [.int .i64 c, .int .i64 n] [] (.int .i64 (pickN c n)) := by
  refine Fn.enter Tryz.func9 rfl Tryz.ntmps9 (by simp) (fun I0 w0 => ?_)
  by_cases h : c < 0
  · obtain ⟨m, hm⟩ : ∃ m : Nat, -(c + 1) = (m : Int) := ⟨(-(c + 1)).toNat, by omega⟩
    repeat (first | refine stp ?_ | (refine sti ?_; intro _) | refine stf ?_ | (refine stb ?_; intro _))
    rw [hm]
    repeat (first | refine stp ?_ | (refine sti ?_; intro _) | refine stf ?_ | (refine stb ?_; intro _))
    refine G.ret rfl (.cons (.tmp rfl) .nil) (Φ' := []) (M' := []) inferInstance (List.nil_sublist _) ⟨?_, rfl, rfl⟩
    rw [pickN, absI, if_pos h, hm]
    rfl
  · obtain ⟨m, hm⟩ : ∃ m : Nat, c = (m : Int) := ⟨c.toNat, by omega⟩
    repeat (first | refine stp ?_ | (refine sti ?_; intro _) | refine stf ?_ | (refine stb ?_; intro _))
    refine G.ret rfl (.cons (.tmp rfl) .nil) (Φ' := []) (M' := []) inferInstance (List.nil_sublist _) ⟨?_, rfl, rfl⟩
    rw [pickN, absI, if_neg h, hm]
    rfl
def InR (c : Int) : Prop := -9223372036854775808 ≤ c ∧ c ≤ 9223372036854775807
end Go.Rail
namespace Go.Rail
open Go Go.Proofs
set_option linter.unusedSimpArgs false
set_option linter.unusedVariables false
set_option maxHeartbeats 400000
set_option maxRecDepth 4000
attribute [local irreducible] OpK G W LW wpListIn Exit.then Exit.inBlock Post rounds opRun bodyPostM intOp
attribute [local irreducible] badM
structure FitL (l : Lot) : Prop where
  fs : ∀ s ∈ l.sets, fit6 s
  ns : l.sets.length ≤ 1000000
  nl : l.left.length ≤ 1000000
  na : l.at_.length ≤ 1000000
  nb : l.begun.length ≤ 1000000
  nd : l.done.length ≤ 1000000
structure MkSt where
  i : Nat
  D : List Bool
/-- Marks, handed back, or nothing. -/
def RMark (e : TypeId) (n : Nat) (r : Option (List Bool)) : Value → List Fa → Own → Prop := fun u Φ' M' => match r with
  | none => u = .slice none 0 0 ∧ Φ' = [] ∧ M' = []
  | some D => ∃ b, u = .slice (some ⟨b, 0, none⟩) n n ∧ Φ' = [] ∧ M' = [(b, Ob (cB D) e)]
theorem markP_step {D : List Bool} {ks : List Int} {i : Nat} (h : i < ks.length) : markP D (ks.drop i) = if badM D ks[i] then none else markP (D.set ks[i].toNat true) (ks.drop (i + 1)) := by
  rw [List.drop_eq_getElem_cons h, markP]
theorem markA_step {D : List Bool} {ks : List Int} {i : Nat} (h : i < ks.length) : markA D (ks.drop i) = if ks[i] = -1 then markA D (ks.drop (i + 1)) else if badM D ks[i] then none else markA (D.set ks[i].toNat true) (ks.drop (i + 1)) := by
  rw [List.drop_eq_getElem_cons h, markA]
theorem badM_lt {D : List Bool} {k : Int} (h : k < 0) : badM D k = true := by unfold badM; simp [h]
theorem badM_ge {D : List Bool} {k : Int} (h : (D.length : Int) ≤ k) : badM D k = true := by unfold badM; simp [h]
theorem badM_in {D : List Bool} {k : Int} {j : Nat} (hk : k = (j : Int)) (hj : j < D.length) : badM D k = D[j] := by
  subst hk
  unfold badM
  have h1 : ¬ ((j : Int) < 0) := by omega
  have h2 : ¬ ((D.length : Int) ≤ (j : Int)) := by omega
  rw [decide_eq_false h1, decide_eq_false h2, Int.toNat_natCast, List.getD_eq_getElem?_getD, List.getElem?_eq_getElem hj]
  rfl
/-- ... with whether all is well. -/
def RMarkA (e : TypeId) (n : Nat) (r : Option (List Bool)) : Value → List Fa → Own → Prop := fun u Φ' M' => match r with
  | none => u = .tuple #[.slice none 0 0, .bool false] ∧ Φ' = [] ∧ M' = []
  | some D => ∃ b, u = .tuple #[.slice (some ⟨b, 0, none⟩) n n, .bool true] ∧ Φ' = [] ∧ M' = [(b, Ob (cB D) e)]
theorem FitL.of {l l' : Lot} (h : FitL l) (r : RightI l') (hs : l'.sets = l.sets) : FitL l' := by
  have h64 := may_len r.may
  have hd := right_done_len r
  have h1 := r.sl
  have h2 := r.sb
  have h3 := r.a2
  exact ⟨by rw [hs]; exact h.fs, by omega, by omega, by omega, by omega, by omega⟩
end Go.Rail
namespace Go.Rail
open Go Go.Proofs
set_option linter.unusedSimpArgs false
set_option linter.unusedVariables false
set_option maxHeartbeats 400000
set_option maxRecDepth 4000
attribute [local irreducible] OpK G W LW wpListIn Exit.then Exit.inBlock Post rounds opRun bodyPostM intOp
attribute [local irreducible] badM offA
theorem rdones_spec (v : Value) (l : Lot) (hl : FitL l) : Fn Tryz.prog 66 [v] [fRp v l] [] (RMarkA 4 l.sets.length (donesL l)) := by
  obtain ⟨fs, ns, nl, na, nb, nd⟩ := hl
  refine Fn.enter Tryz.func66 rfl Tryz.ntmps66 (by simp) (fun I0 w0 => ?_)
  refine W.bare (G.lot v l ?_)
  intro a1 c1 a2 c2 a3 c3 a4 c4 a5 c5 e
  subst e
  repeat (first | refine stp ?_ | (refine sti ?_; intro _) | refine stf ?_ | (refine stb ?_; intro _))
  rename_i b1
  refine o_makeB l.sets.length rfl rfl rfl rfl rfl rfl ns ?_
  intro b
  repeat (first | refine stp ?_ | (refine sti ?_; intro _) | refine stf ?_ | (refine stb ?_; intro _))
  refine W.loopI (fun (s : MkSt) => ([fRp (.slice a5 l.done.length c5) l.done], [(1, .pointer (some ⟨b1, 0, none⟩)), (4, .slice (some ⟨b, 0, none⟩) l.sets.length l.sets.length), (5, .int .i64 s.i)], [(b, Ob (cB s.D) 4), (b1, Ob [.slice a1 l.sets.length c1, .slice a2 l.left.length c2, .slice a3 l.at_.length c3, .slice a4 l.begun.length c4, .slice a5 l.done.length c5] 28)])) (fun s => s.i ≤ l.done.length ∧ s.D.length = l.sets.length ∧ markP s.D (l.done.drop s.i) = donesL l) (fun s => l.done.length - s.i) ⟨0, List.replicate l.sets.length false⟩ ⟨Nat.zero_le _, by simp, by rw [List.drop_zero]; rfl⟩ inferInstance (look_sub_cons rfl (look_sub_cons rfl (look_sub_cons rfl look_sub_nil))) (List.Sublist.refl _) ?_
  rintro ⟨i, D⟩ ⟨hi, hD, hM⟩
  dsimp only at hi hD hM ⊢
  by_cases hi0 : i = l.done.length
  · rw [List.drop_eq_nil_of_le (by omega), markP] at hM
    rw [← hM]
    repeat (first | refine stp ?_ | (refine sti ?_; intro _) | refine stf ?_ | (refine stb ?_; intro _))
    exact G.ret rfl (.cons (.tmp rfl) (.cons (.tmp rfl) .nil)) (Φ' := []) (M' := [(b, Ob (cB D) 4)]) inferInstance (.cons_cons _ (List.nil_sublist _)) ⟨b, rfl, rfl, rfl⟩
  have hi1 : i < l.done.length := by omega
  rw [markP_step hi1] at hM
  by_cases hneg : l.done[i] < 0
  · rw [badM_lt hneg, if_pos rfl] at hM
    rw [← hM]
    repeat (first | refine stp ?_ | (refine sti ?_; intro _) | refine stf ?_ | (refine stb ?_; intro _))
    exact G.ret rfl (.cons (.tmp rfl) (.cons (.tmp rfl) .nil)) (Φ' := []) (M' := []) inferInstance (List.nil_sublist _) ⟨rfl, rfl, rfl⟩
  by_cases hbig : (l.sets.length : Int) ≤ l.done[i]
  · rw [badM_ge (by omega), if_pos rfl] at hM
    rw [← hM]
    repeat (first | refine stp ?_ | (refine sti ?_; intro _) | refine stf ?_ | (refine stb ?_; intro _))
    exact G.ret rfl (.cons (.tmp rfl) (.cons (.tmp rfl) .nil)) (Φ' := []) (M' := []) inferInstance (List.nil_sublist _) ⟨rfl, rfl, rfl⟩
  obtain ⟨k, hk⟩ : ∃ k : Nat, l.done[i] = (k : Int) := ⟨l.done[i].toNat, by omega⟩
  have hkD : k < D.length := by omega
  rw [badM_in hk hkD] at hM
  cases hb : D[k] with
  | true =>
    rw [hb, if_pos rfl] at hM
    rw [← hM]
    repeat (first | refine stp ?_ | (refine sti ?_; intro _) | refine stf ?_ | (refine stb ?_; intro _))
    refine o_idxO rfl rfl rfl rfl (by omega) (by omega) (o' := k) (by omega) ?_
    refine G.cons ?_
    refine o_loadB k hkD rfl rfl rfl rfl ?_
    rw [hb]
    repeat (first | refine stp ?_ | (refine sti ?_; intro _) | refine stf ?_ | (refine stb ?_; intro _))
    exact G.ret rfl (.cons (.tmp rfl) (.cons (.tmp rfl) .nil)) (Φ' := []) (M' := []) inferInstance (List.nil_sublist _) ⟨rfl, rfl, rfl⟩
  | false =>
    rw [hb, if_neg (by simp), hk, Int.toNat_natCast] at hM
    repeat (first | refine stp ?_ | (refine sti ?_; intro _) | refine stf ?_ | (refine stb ?_; intro _))
    refine o_idxO rfl rfl rfl rfl (by omega) (by omega) (o' := k) (by omega) ?_
    refine G.cons ?_
    refine o_loadB k hkD rfl rfl rfl rfl ?_
    rw [hb]
    repeat (first | refine stp ?_ | (refine sti ?_; intro _) | refine stf ?_ | (refine stb ?_; intro _))
    refine o_idxO rfl rfl rfl rfl (by omega) (by omega) (o' := k) (by omega) ?_
    refine G.cons ?_
    refine o_storeB k true hkD rfl rfl rfl rfl ?_
    repeat (first | refine stp ?_ | (refine sti ?_; intro _) | refine stf ?_ | (refine stb ?_; intro _))
    exact G.again (S := MkSt) ⟨i + 1, D.set k true⟩ (by dsimp only; omega) ⟨hi1, by dsimp only; rw [List.length_set]; exact hD, hM⟩ inferInstance (look_sub_cons rfl (look_sub_cons rfl (look_sub_cons rfl look_sub_nil))) (List.Sublist.refl _)
structure HdSt where
  i : Nat
  H : List Int
def RHold (e : TypeId) (n : Nat) (r : Option (List Int)) : Value → List Fa → Own → Prop := fun u Φ' M' => match r with
  | none => u = .tuple #[.slice none 0 0, .bool false] ∧ Φ' = [] ∧ M' = []
  | some H => ∃ b, u = .tuple #[.slice (some ⟨b, 0, none⟩) n n, .bool true] ∧ Φ' = [] ∧ M' = [(b, Ob (cI H) e)]
theorem holdA_step {H : List Int} {ks : List Int} {i : Nat} (h : i < ks.length) : holdA H (ks.drop i) = if offA H.length ks[i] then none else if ks[i] = -1 then holdA H (ks.drop (i + 1)) else holdA (H.set ks[i].toNat (H.getD ks[i].toNat 0 + 1)) (ks.drop (i + 1)) := by
  rw [List.drop_eq_getElem_cons h, holdA]
theorem offA_lt {n : Nat} {k : Int} (h : k < -1) : offA n k = true := by unfold offA; simp [h]
theorem offA_ge {n : Nat} {k : Int} (h : (n : Int) ≤ k) : offA n k = true := by unfold offA; simp [h]
theorem offA_in {n : Nat} {k : Int} (h : -1 ≤ k) (h2 : k < n) : offA n k = false := by
  unfold offA
  rw [decide_eq_false (by omega), decide_eq_false (by omega)]; rfl
theorem rholders_spec (v : Value) (l : Lot) (hl : FitL l) : Fn Tryz.prog 68 [v] [fRp v l] [] (RHold 3 l.sets.length (holdL l)) := by
  obtain ⟨fs, ns, nl, na, nb, nd⟩ := hl
  refine Fn.enter Tryz.func68 rfl Tryz.ntmps68 (by simp) (fun I0 w0 => ?_)
  refine W.bare (G.lot v l ?_)
  intro a1 c1 a2 c2 a3 c3 a4 c4 a5 c5 e
  subst e
  repeat (first | refine stp ?_ | (refine sti ?_; intro _) | refine stf ?_ | (refine stb ?_; intro _))
  rename_i b1
  refine o_makeI l.sets.length rfl rfl rfl rfl rfl rfl ns ?_
  intro b
  repeat (first | refine stp ?_ | (refine sti ?_; intro _) | refine stf ?_ | (refine stb ?_; intro _))
  refine W.loopI (fun (s : HdSt) => ([fRp (.slice a3 l.at_.length c3) l.at_], [(1, .pointer (some ⟨b1, 0, none⟩)), (4, .slice (some ⟨b, 0, none⟩) l.sets.length l.sets.length), (5, .int .i64 s.i)], [(b, Ob (cI s.H) 3), (b1, Ob [.slice a1 l.sets.length c1, .slice a2 l.left.length c2, .slice a3 l.at_.length c3, .slice a4 l.begun.length c4, .slice a5 l.done.length c5] 28)])) (fun s => s.i ≤ l.at_.length ∧ s.H.length = l.sets.length ∧ (∀ x ∈ s.H, 0 ≤ x ∧ x ≤ s.i) ∧ holdA s.H (l.at_.drop s.i) = holdL l) (fun s => l.at_.length - s.i) ⟨0, List.replicate l.sets.length 0⟩ ⟨Nat.zero_le _, by simp, fun x hx => by rw [List.eq_of_mem_replicate hx]; simp, by rw [List.drop_zero]; rfl⟩ inferInstance (look_sub_cons rfl (look_sub_cons rfl (look_sub_cons rfl look_sub_nil))) (List.Sublist.refl _) ?_
  rintro ⟨i, H⟩ ⟨hi, hH, hB, hM⟩
  dsimp only at hi hH hB hM ⊢
  by_cases hi0 : i = l.at_.length
  · rw [List.drop_eq_nil_of_le (by omega), holdA] at hM
    rw [← hM]
    repeat (first | refine stp ?_ | (refine sti ?_; intro _) | refine stf ?_ | (refine stb ?_; intro _))
    exact G.ret rfl (.cons (.tmp rfl) (.cons (.tmp rfl) .nil)) (Φ' := []) (M' := [(b, Ob (cI H) 3)]) inferInstance (.cons_cons _ (List.nil_sublist _)) ⟨b, rfl, rfl, rfl⟩
  have hi1 : i < l.at_.length := by omega
  rw [holdA_step hi1] at hM
  by_cases hneg : l.at_[i] < -1
  · rw [offA_lt hneg, if_pos rfl] at hM
    rw [← hM]
    repeat (first | refine stp ?_ | (refine sti ?_; intro _) | refine stf ?_ | (refine stb ?_; intro _))
    exact G.ret rfl (.cons (.tmp rfl) (.cons (.tmp rfl) .nil)) (Φ' := []) (M' := []) inferInstance (List.nil_sublist _) ⟨rfl, rfl, rfl⟩
  by_cases hbig : (l.sets.length : Int) ≤ l.at_[i]
  · rw [offA_ge (by omega), if_pos rfl] at hM
    rw [← hM]
    repeat (first | refine stp ?_ | (refine sti ?_; intro _) | refine stf ?_ | (refine stb ?_; intro _))
    exact G.ret rfl (.cons (.tmp rfl) (.cons (.tmp rfl) .nil)) (Φ' := []) (M' := []) inferInstance (List.nil_sublist _) ⟨rfl, rfl, rfl⟩
  rw [offA_in (by omega) (by omega), if_neg (by simp)] at hM
  by_cases hno : l.at_[i] = -1
  · rw [if_pos hno] at hM
    repeat (first | refine stp ?_ | (refine sti ?_; intro _) | refine stf ?_ | (refine stb ?_; intro _))
    exact G.again (S := HdSt) ⟨i + 1, H⟩ (by dsimp only; omega) ⟨hi1, hH, fun x hx => by have := hB x hx; dsimp only; omega, hM⟩ inferInstance (look_sub_cons rfl (look_sub_cons rfl (look_sub_cons rfl look_sub_nil))) (List.Sublist.refl _)
  obtain ⟨k, hk⟩ : ∃ k : Nat, l.at_[i] = (k : Int) := ⟨l.at_[i].toNat, by omega⟩
  have hkH : k < H.length := by omega
  rw [if_neg hno, hk, Int.toNat_natCast, List.getD_eq_getElem?_getD, List.getElem?_eq_getElem hkH, Option.getD_some] at hM
  have hbk := hB H[k] (List.getElem_mem hkH)
  repeat (first | refine stp ?_ | (refine sti ?_; intro _) | refine stf ?_ | (refine stb ?_; intro _))
  refine o_idxO rfl rfl rfl rfl (by omega) (by omega) (o' := k) (by omega) ?_
  refine G.cons ?_
  refine o_loadI k hkH rfl rfl rfl rfl ?_
  repeat (first | refine stp ?_ | (refine sti ?_; intro _) | refine stf ?_ | (refine stb ?_; intro _))
  refine o_idxO rfl rfl rfl rfl (by omega) (by omega) (o' := k) (by omega) ?_
  refine G.cons ?_
  refine o_storeI k (H[k] + 1) hkH rfl rfl rfl rfl ?_
  repeat (first | refine stp ?_ | (refine sti ?_; intro _) | refine stf ?_ | (refine stb ?_; intro _))
  exact G.again (S := HdSt) ⟨i + 1, H.set k (H[k] + 1)⟩ (by dsimp only; omega) ⟨hi1, by dsimp only; rw [List.length_set]; exact hH, fun x hx => by
    dsimp only
    rcases List.mem_or_eq_of_mem_set hx with hx | rfl
    · have := hB x hx; omega
    · omega, hM⟩ inferInstance (look_sub_cons rfl (look_sub_cons rfl (look_sub_cons rfl look_sub_nil))) (List.Sublist.refl _)
end Go.Rail
