/- Lots of raw sets, costs, a width and picks. -/
import Derived.Test.YtoiepfapghnccaaGreatAGLawM1
import Derived.Test.YtoiepfapghnccaaGreatAM7
import Derived.Test.YtoiepfapghnccaaGreatRailE
namespace Go.Rail
open Go Go.Proofs
set_option linter.unusedSimpArgs false
set_option linter.unusedVariables false
set_option maxHeartbeats 400000
set_option maxRecDepth 4000
attribute [local irreducible] OpK G W LW wpListIn Exit.then Exit.inBlock Post rounds opRun bodyPostM intOp
attribute [local irreducible] badM rightS mayG clashS edgesG edgesI clG rightL holdL shapeR okA okE okO shapeL idxG errG edgesR idleR readyR errR fillLot pickL noP newL runL rawG cntL errRun errN
def costL (costs : List Int) (i : Nat) : Int := match costs[i]? with
  | some c => 1 + (pickN c 6 : Nat)
  | none => 3
def costsL (costs : List Int) (n : Nat) : List Int := (List.range n).map (costL costs)
def pkL (ps : List Int) (n k : Nat) : List Int := (ps.take n).map fun p => ((pickN p k : Nat) : Int)
def lot0 (raws : List RawS) (costs : List Int) (w : Int) : Lot := newL (rawG raws) (costsL costs (rawG raws).length) (1 + (pickN w 5 : Nat))
def lotL (raws : List RawS) (costs : List Int) (w : Int) (ps : List Int) : Lot := runL (lot0 raws costs w) (pkL ps 40 6)
theorem costL_in (costs : List Int) (i : Nat) : 1 ≤ costL costs i ∧ costL costs i ≤ 6 := by
  unfold costL
  split
  · rename_i c _
    have := pickN_lt c (n := 6) (by decide)
    omega
  · omega
theorem costsL_len (costs : List Int) (n : Nat) : (costsL costs n).length = n := by simp [costsL]
theorem costsL_succ (costs : List Int) (n : Nat) : costsL costs n ++ [costL costs n] = costsL costs (n + 1) := by
  unfold costsL; rw [List.range_succ, List.map_append]; rfl
theorem lot0_ok (raws : List RawS) (costs : List Int) (w : Int) : okN (rawG raws) (costsL costs (rawG raws).length) (1 + (pickN w 5 : Nat)) = true := by
  have := pickN_lt w (n := 5) (by decide)
  refine okN_iff.2 ⟨rawG_may raws, costsL_len _ _, by omega, by omega, fun x hx => ?_⟩
  obtain ⟨i, _, rfl⟩ := List.mem_map.1 hx
  have := costL_in costs i
  omega
theorem lot0_right (raws : List RawS) (costs : List Int) (w : Int) : RightI (lot0 raws costs w) := new_right (lot0_ok raws costs w)
theorem lot0_busy (raws : List RawS) (costs : List Int) (w : Int) : FillB (lot0 raws costs w) := new_busy (lot0_ok raws costs w)
theorem lot0_parts (raws : List RawS) (costs : List Int) (w : Int) : (lot0 raws costs w).sets = rawG raws ∧ (lot0 raws costs w).left = costsL costs (rawG raws).length ∧ (lot0 raws costs w).done = [] ∧ (lot0 raws costs w).at_.length = 1 + pickN w 5 := by
  obtain ⟨h1, h2, h3, h4⟩ := new_parts (lot0_ok raws costs w)
  exact ⟨h1, h2, h3, by unfold lot0; rw [h4]; omega⟩
theorem pkL_len (ps : List Int) (n k : Nat) : (pkL ps n k).length ≤ n := by simp [pkL]; omega
theorem lotL_eq (raws : List RawS) (costs : List Int) (w : Int) (ps : List Int) : lotL raws costs w ps = (runS (lot0 raws costs w) 0 (pkL ps 40 6)).1 := by
  have hr := rightL_iff.2 (lot0_right raws costs w)
  have hl := pkL_len ps 40 6
  have : ∀ (l : Lot) (q : List Int), runL l q = if rightL l then (if q.length > 20000 then l else (runS l 0 q).1) else l := fun l q => by with_unfolding_all rfl
  unfold lotL
  rw [this, hr, if_pos rfl, if_neg (by omega)]
theorem lotL_right (raws : List RawS) (costs : List Int) (w : Int) (ps : List Int) : RightI (lotL raws costs w ps) := by
  rw [lotL_eq]; exact runS_right _ _ (lot0_right raws costs w)
theorem lotL_busy (raws : List RawS) (costs : List Int) (w : Int) (ps : List Int) : FillB (lotL raws costs w ps) := by
  rw [lotL_eq]; exact runS_busy _ _ (lot0_right raws costs w) (lot0_busy raws costs w)
theorem lotL_sets (raws : List RawS) (costs : List Int) (w : Int) (ps : List Int) : (lotL raws costs w ps).sets = rawG raws ∧ (lotL raws costs w ps).at_.length = 1 + pickN w 5 := by
  rw [lotL_eq]
  obtain ⟨h1, h2⟩ := runS_sets (pkL ps 40 6) (lot0 raws costs w) 0
  obtain ⟨g1, _, _, g4⟩ := lot0_parts raws costs w
  exact ⟨by rw [h1, g1], by rw [h2, g4]⟩
theorem lot0_fit (raws : List RawS) (costs : List Int) (w : Int) : FitL (lot0 raws costs w) := by
  refine FitL.of (l := ⟨rawG raws, [], [], [], []⟩) ⟨rawG_fit raws, ?_, Nat.zero_le _, Nat.zero_le _, Nat.zero_le _, Nat.zero_le _⟩ (lot0_right raws costs w) (lot0_parts raws costs w).1
  have := rawG_len raws
  dsimp only; omega
theorem lotL_fit (raws : List RawS) (costs : List Int) (w : Int) (ps : List Int) : FitL (lotL raws costs w ps) :=
  FitL.of (lot0_fit raws costs w) (lotL_right raws costs w ps) (by rw [(lotL_sets raws costs w ps).1, (lot0_parts raws costs w).1])
structure LtSt where
  i : Nat
  v : Value
  o : OR
theorem lot_spec (v vc vp : Value) (raws : List RawS) (costs ps : List Int) (w : Int) (hr : okRaws raws) (hc : costs.length ≤ 4611686018427387904 ∧ ∀ x ∈ costs, InR x) (hw : InR w) (hp : ps.length ≤ 4611686018427387904 ∧ ∀ x ∈ ps, InR x) :
    Fn Tryz.prog 8 [v, vc, .int .i64 w, vp] [fRp v raws, fRp vc costs, fRp vp ps] [] (RLot id (lotL raws costs w ps)) := by
  obtain ⟨hc1, hc2⟩ := hc
  obtain ⟨hp1, hp2⟩ := hp
  have hlen := rawG_len raws
  have hwl := pickN_lt w (n := 5) (by decide)
  have hnew := fun u u' => Fn.givenLot (rnew_spec u u' (rawG raws) (costsL costs (rawG raws).length) (1 + (pickN w 5 : Nat)) (by omega) (rawG_fit raws) (by rw [costsL_len]; omega))
  have hrun := fun u u' => rrun_spec u u' (lot0 raws costs w) (pkL ps 40 6) (lot0_fit raws costs w) (by have := pkL_len ps 40 6; omega)
  have hl2 : runL (lot0 raws costs w) (pkL ps 40 6) = lotL raws costs w ps := rfl
  rw [hl2] at hrun
  have hl1 : newL (rawG raws) (costsL costs (rawG raws).length) (1 + (pickN w 5 : Nat)) = lot0 raws costs w := rfl
  rw [hl1] at hnew
  refine Fn.enter Tryz.func8 rfl Tryz.ntmps8 (by simp) (fun I0 w0 => ?_)
  repeat (first | refine stp ?_ | (refine sti ?_; intro _) | refine stf ?_ | (refine stb ?_; intro _))
  rename_i b8
  refine o_callD rfl rfl rfl rfl (gsets_spec v raws hr) ?_
  intro vs
  repeat (first | refine stp ?_ | (refine sti ?_; intro _) | refine stf ?_ | (refine stb ?_; intro _))
  refine W.loopI (fun (s : LtSt) => ([fRow (ocells s.o) (costsL costs s.i), fRp vs (rawG raws), fRp vc costs, fRp vp ps], [(1, vc), (2, .int .i64 w), (3, vp), (8, .pointer (some ⟨b8, 0, none⟩)), (9, vs), (10, s.v), (11, .int .i64 s.i)], (b8, Ob [.slice none 0 0, .slice none 0 0, .slice none 0 0, .slice none 0 0, .slice none 0 0] 28) :: ownM 3 s.o)) (fun s => s.i ≤ (rawG raws).length ∧ IsOwn 1 s.v (costsL costs s.i).length s.o) (fun s => (rawG raws).length - s.i) ⟨0, .slice none 0 0, none⟩ ⟨Nat.zero_le _, ⟨rfl, rfl⟩⟩ (show Ents _ [fRow ([] : List Value) ([] : List Int), fRp vs (rawG raws), fRp vc costs, fRp vp ps] from inferInstance) (look_sub_cons rfl (look_sub_cons rfl (look_sub_cons rfl (look_sub_cons rfl (look_sub_cons rfl (look_sub_cons rfl (look_sub_cons rfl look_sub_nil))))))) (List.Sublist.refl _) ?_
  rintro ⟨i, v10, o⟩ ⟨hi, hown⟩
  dsimp only at hi hown ⊢
  by_cases hi0 : i = (rawG raws).length
  case neg =>
    have hi1 : i < (rawG raws).length := by omega
    have hsu := costsL_succ costs i
    have hcl := costsL_len costs i
    by_cases hci : i < costs.length
    · have hcost : costL costs i = 1 + (pickN costs[i] 6 : Nat) := by unfold costL; rw [List.getElem?_eq_getElem hci]
      have hp6 := pickN_lt costs[i] (n := 6) (by decide)
      rw [hcost] at hsu
      repeat (first | refine stp ?_ | (refine sti ?_; intro _) | refine stf ?_ | (refine stb ?_; intro _))
      refine o_callV rfl rfl rfl rfl (pick20_spec costs[i] 6 (by decide) (by decide) (hc2 _ (List.getElem_mem hci))) rfl ?_
      repeat (first | refine stp ?_ | (refine sti ?_; intro _) | refine stf ?_ | (refine stb ?_; intro _))
      refine o_lit (xs := [1 + ((pickN costs[i] 6 : Nat) : Int)]) ⟨by decide, rfl, by decide⟩ rfl rfl rfl ⟨fun _ _ => Rp.flat.2 rfl, trivial⟩ rfl ?_
      intro p1
      repeat (first | refine stp ?_ | (refine sti ?_; intro _) | refine stf ?_ | (refine stb ?_; intro _))
      refine o_app2 (Mr := [_]) o (xs := costsL costs i) (ys := [1 + ((pickN costs[i] 6 : Nat) : Int)]) hown ⟨by simp; omega, by simp; omega, rfl⟩ rfl rfl rfl rfl inferInstance inferInstance (List.Perm.refl _) ?_
      intro v' o' hown'
      rw [hsu] at hown' ⊢
      repeat (first | refine stp ?_ | (refine sti ?_; intro _) | refine stf ?_ | (refine stb ?_; intro _))
      exact G.again (S := LtSt) ⟨i + 1, v', o'⟩ (by dsimp only; omega) ⟨hi1, hown'⟩ inferInstance (look_sub_cons rfl (look_sub_cons rfl (look_sub_cons rfl (look_sub_cons rfl (look_sub_cons rfl (look_sub_cons rfl (look_sub_cons rfl look_sub_nil))))))) (List.Sublist.refl _)
    · have hcost : costL costs i = 3 := by unfold costL; rw [List.getElem?_eq_none (by omega)]
      rw [hcost] at hsu
      repeat (first | refine stp ?_ | (refine sti ?_; intro _) | refine stf ?_ | (refine stb ?_; intro _))
      refine o_lit (xs := [(3 : Int)]) ⟨by decide, rfl, by decide⟩ rfl rfl rfl ⟨fun _ _ => Rp.flat.2 rfl, trivial⟩ rfl ?_
      intro p1
      repeat (first | refine stp ?_ | (refine sti ?_; intro _) | refine stf ?_ | (refine stb ?_; intro _))
      refine o_app2 (Mr := [_]) o (xs := costsL costs i) (ys := [(3 : Int)]) hown ⟨by simp; omega, by simp; omega, rfl⟩ rfl rfl rfl rfl inferInstance inferInstance (List.Perm.refl _) ?_
      intro v' o' hown'
      rw [hsu] at hown' ⊢
      repeat (first | refine stp ?_ | (refine sti ?_; intro _) | refine stf ?_ | (refine stb ?_; intro _))
      exact G.again (S := LtSt) ⟨i + 1, v', o'⟩ (by dsimp only; omega) ⟨hi1, hown'⟩ inferInstance (look_sub_cons rfl (look_sub_cons rfl (look_sub_cons rfl (look_sub_cons rfl (look_sub_cons rfl (look_sub_cons rfl (look_sub_cons rfl look_sub_nil))))))) (List.Sublist.refl _)
  subst hi0
  refine W.bare (G.giveOwn2 v10 (costsL costs (rawG raws).length) o 3 (Mr := [_]) hown inferInstance (List.Perm.refl _) ?_)
  refine G.code ?_
  repeat (first | refine stp ?_ | (refine sti ?_; intro _) | refine stf ?_ | (refine stb ?_; intro _))
  refine o_callV rfl rfl rfl rfl (pick20_spec w 5 (by decide) (by decide) hw) rfl ?_
  repeat (first | refine stp ?_ | (refine sti ?_; intro _) | refine stf ?_ | (refine stb ?_; intro _))
  refine OpK.call rfl rfl rfl rfl (hnew _ _) inferInstance (Mr := _) (List.Perm.refl _) ?_
  rintro u Φ' Mc' ⟨v0, rfl, rfl, rfl⟩
  dsimp only [List.cons_append, List.nil_append]
  refine G.lot v0 (lot0 raws costs w) ?_
  intro a1 ac1 a2 ac2 a3 ac3 a4 ac4 a5 ac5 e
  subst e
  repeat (first | refine stp ?_ | (refine sti ?_; intro _) | refine stf ?_ | (refine stb ?_; intro _))
  rename_i b13
  refine W.loopI (fun (s : LtSt) => ([fRow (ocells s.o) (pkL ps s.i 6), fRp (.agg #[.slice a1 (lot0 raws costs w).sets.length ac1, .slice a2 (lot0 raws costs w).left.length ac2, .slice a3 (lot0 raws costs w).at_.length ac3, .slice a4 (lot0 raws costs w).begun.length ac4, .slice a5 (lot0 raws costs w).done.length ac5]) (lot0 raws costs w), fRp vp ps], [(3, vp), (8, .pointer (some ⟨b8, 0, none⟩)), (13, .pointer (some ⟨b13, 0, none⟩)), (15, s.v), (16, .int .i64 s.i)], (b13, Ob [.slice a1 (lot0 raws costs w).sets.length ac1, .slice a2 (lot0 raws costs w).left.length ac2, .slice a3 (lot0 raws costs w).at_.length ac3, .slice a4 (lot0 raws costs w).begun.length ac4, .slice a5 (lot0 raws costs w).done.length ac5] 28) :: (b8, Ob [.slice none 0 0, .slice none 0 0, .slice none 0 0, .slice none 0 0, .slice none 0 0] 28) :: ownM 3 s.o)) (fun s => s.i ≤ ps.length ∧ s.i ≤ 40 ∧ IsOwn 1 s.v (pkL ps s.i 6).length s.o) (fun s => ps.length - s.i) ⟨0, .slice none 0 0, none⟩ ⟨Nat.zero_le _, by decide, ⟨rfl, rfl⟩⟩ (show Ents _ [fRow ([] : List Value) ([] : List Int), fRp (.agg #[.slice a1 (lot0 raws costs w).sets.length ac1, .slice a2 (lot0 raws costs w).left.length ac2, .slice a3 (lot0 raws costs w).at_.length ac3, .slice a4 (lot0 raws costs w).begun.length ac4, .slice a5 (lot0 raws costs w).done.length ac5]) (lot0 raws costs w), fRp vp ps] from inferInstance) (look_sub_cons rfl (look_sub_cons rfl (look_sub_cons rfl (look_sub_cons rfl (look_sub_cons rfl look_sub_nil))))) (List.Sublist.refl _) ?_
  rintro ⟨i, v15, o⟩ ⟨hi, hi40, hown⟩
  dsimp only at hi hi40 hown ⊢
  by_cases hend : i = ps.length ∨ i = 40
  · have e : pkL ps i 6 = pkL ps 40 6 := by
      rcases hend with h | h
      · unfold pkL
        rw [h, List.take_length, List.take_of_length_le (by omega)]
      · rw [h]
    rw [e] at hown ⊢
    refine W.bare (G.giveOwn2 v15 (pkL ps 40 6) o 3 (Mr := [_, _]) hown inferInstance (List.Perm.refl _) ?_)
    refine G.code ?_
    by_cases hi0 : i = ps.length
    · repeat (first | refine stp ?_ | (refine sti ?_; intro _) | refine stf ?_ | (refine stb ?_; intro _))
      refine OpK.call rfl rfl rfl rfl (hrun _ _) inferInstance (Mr := _) (List.Perm.refl _) ?_
      rintro u Φ' Mc' ⟨v1, rfl, rfl, rfl⟩
      dsimp only [List.cons_append, List.nil_append]
      refine G.lot v1 (lotL raws costs w ps) ?_
      intro x1 xc1 x2 xc2 x3 xc3 x4 xc4 x5 xc5 e
      subst e
      repeat (first | refine stp ?_ | (refine sti ?_; intro _) | refine stf ?_ | (refine stb ?_; intro _))
      exact G.ret rfl (.cons (.cellA rfl rfl) .nil) (Φ' := [fRp (.agg #[.slice x1 (lotL raws costs w ps).sets.length xc1, .slice x2 (lotL raws costs w ps).left.length xc2, .slice x3 (lotL raws costs w ps).at_.length xc3, .slice x4 (lotL raws costs w ps).begun.length xc4, .slice x5 (lotL raws costs w ps).done.length xc5]) (lotL raws costs w ps)]) (M' := []) inferInstance (List.nil_sublist _) ⟨_, rfl, rfl, rfl⟩
    · have hi1 : i < ps.length := by omega
      have h40 : i = 40 := by omega
      subst h40
      repeat (first | refine stp ?_ | (refine sti ?_; intro _) | refine stf ?_ | (refine stb ?_; intro _))
      refine OpK.call rfl rfl rfl rfl (hrun _ _) inferInstance (Mr := _) (List.Perm.refl _) ?_
      rintro u Φ' Mc' ⟨v1, rfl, rfl, rfl⟩
      dsimp only [List.cons_append, List.nil_append]
      refine G.lot v1 (lotL raws costs w ps) ?_
      intro x1 xc1 x2 xc2 x3 xc3 x4 xc4 x5 xc5 e
      subst e
      repeat (first | refine stp ?_ | (refine sti ?_; intro _) | refine stf ?_ | (refine stb ?_; intro _))
      exact G.ret rfl (.cons (.cellA rfl rfl) .nil) (Φ' := [fRp (.agg #[.slice x1 (lotL raws costs w ps).sets.length xc1, .slice x2 (lotL raws costs w ps).left.length xc2, .slice x3 (lotL raws costs w ps).at_.length xc3, .slice x4 (lotL raws costs w ps).begun.length xc4, .slice x5 (lotL raws costs w ps).done.length xc5]) (lotL raws costs w ps)]) (M' := []) inferInstance (List.nil_sublist _) ⟨_, rfl, rfl, rfl⟩
  · have hi1 : i < ps.length := by omega
    have hi2 : i < 40 := by omega
    have hsu : pkL ps i 6 ++ [((pickN ps[i] 6 : Nat) : Int)] = pkL ps (i + 1) 6 := by
      unfold pkL; rw [List.take_succ_eq_append_getElem hi1, List.map_append]; rfl
    have hpl := pkL_len ps i 6
    repeat (first | refine stp ?_ | (refine sti ?_; intro _) | refine stf ?_ | (refine stb ?_; intro _))
    refine o_callV rfl rfl rfl rfl (pick20_spec ps[i] 6 (by decide) (by decide) (hp2 _ (List.getElem_mem hi1))) rfl ?_
    repeat (first | refine stp ?_ | (refine sti ?_; intro _) | refine stf ?_ | (refine stb ?_; intro _))
    refine o_lit (xs := [((pickN ps[i] 6 : Nat) : Int)]) ⟨by decide, rfl, by decide⟩ rfl rfl rfl ⟨fun _ _ => Rp.flat.2 rfl, trivial⟩ rfl ?_
    intro p1
    repeat (first | refine stp ?_ | (refine sti ?_; intro _) | refine stf ?_ | (refine stb ?_; intro _))
    refine o_app2 (Mr := [_, _]) o (xs := pkL ps i 6) (ys := [((pickN ps[i] 6 : Nat) : Int)]) hown ⟨by simp; omega, by simp; omega, rfl⟩ rfl rfl rfl rfl inferInstance inferInstance (List.Perm.refl _) ?_
    intro v' o' hown'
    rw [hsu] at hown' ⊢
    repeat (first | refine stp ?_ | (refine sti ?_; intro _) | refine stf ?_ | (refine stb ?_; intro _))
    exact G.again (S := LtSt) ⟨i + 1, v', o'⟩ (by dsimp only; omega) ⟨hi1, hi2, hown'⟩ inferInstance (look_sub_cons rfl (look_sub_cons rfl (look_sub_cons rfl (look_sub_cons rfl (look_sub_cons rfl look_sub_nil))))) (List.Sublist.refl _)
end Go.Rail
