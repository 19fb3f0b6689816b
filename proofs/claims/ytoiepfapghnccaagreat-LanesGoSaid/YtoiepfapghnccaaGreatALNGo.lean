/- The law of what goes on, walked. -/
import Derived.Test.YtoiepfapghnccaaGreatANL
import Derived.Test.YtoiepfapghnccaaGreatANA
import Derived.Test.YtoiepfapghnccaaGreatRailE
namespace Go.Rail
open Go Go.Proofs
set_option linter.unusedSimpArgs false
set_option linter.unusedVariables false
set_option maxHeartbeats 400000
set_option maxRecDepth 4000
attribute [local irreducible] OpK G W LW wpListIn Exit.then Exit.inBlock Post rounds opRun bodyPostM intOp
attribute [local irreducible] lexN cmpW cmpA cmpK cmpI makeS setK clashS rightS errG edgesR errR readyR ordG badM mayG edgesG edgesI clG rightL donesL heldL shapeL idxG idleR fillLot pickL noP newL runL cntL errRun isR errL measureL idlesL errN pickR sameLot pickN rawG lotL lot0 runS
structure GoSt where
  i : Nat
  l : Lot
  a1 : Option Addr
  ac1 : Nat
  a2 : Option Addr
  ac2 : Nat
  a3 : Option Addr
  ac3 : Nat
  a4 : Option Addr
  ac4 : Nat
  a5 : Option Addr
  ac5 : Nat

def laneC (picks : List Int) (i : Nat) : Int := match picks[i]? with
  | some p => p
  | none => (i : Int)
theorem idle_busy {A : List Int} {i : Nat} (hi : i < A.length) (h : A.getD i 0 ≠ -1) : (idleL A).length ≠ A.length := by
  unfold idleL idleR
  intro e
  have h1 : ((List.range' 0 (A.length - 0)).filter fun k => decide (A.getD k 0 = -1)).length = (List.range' 0 (A.length - 0)).length := by rw [e]; simp
  have h2 := List.length_filter_eq_length_iff.1 h1 i (by rw [List.mem_range'_1]; omega)
  exact h (of_decide_eq_true h2)
theorem sum_le2 : ∀ {L : List Int}, (∀ x ∈ L, 0 ≤ x ∧ x ≤ 1099511627776) → L.sum ≤ L.length * 1099511627776
  | [], _ => by simp
  | a :: L, h => by
    have h1 := h a List.mem_cons_self
    have h2 := sum_le2 (L := L) fun x hx => h x (.tail _ hx)
    rw [List.sum_cons, List.length_cons]
    omega
set_option maxHeartbeats 8000000 in
theorem ngo_walk (v0 v1 v3 : Value) (raws : List RawS) (costs picks : List Int) (w : Int) (hr : okRaws raws) (hc : costs.length ≤ 4611686018427387904 ∧ ∀ x ∈ costs, InR x) (hw : InR w) (hp : picks.length ≤ 4611686018427387904 ∧ ∀ x ∈ picks, InR x) : FnV Tryz.prog 3 [v0, v1, .int .i64 w, v3] [fRp v0 raws, fRp v1 costs, fRp v3 picks] (.bool true) := by
  have hR : RightI (lotL raws costs w []) := lotL_right raws costs w []
  have hB : FillB (lotL raws costs w []) := lotL_busy raws costs w []
  have hfit : FitL (lotL raws costs w []) := lotL_fit raws costs w []
  have hNs := (lotL_sets raws costs w []).1
  have hNa := (lotL_sets raws costs w []).2
  have hwl := pickN_lt w (n := 5) (by decide)
  have hrl := rawG_len raws
  have hlot := lot_spec v0 v1 (.slice none 0 0) raws costs [] w hr hc hw ⟨by decide, fun x hx => by cases hx⟩
  have hmayS := rawG_may raws
  have hf6 := rawG_fit raws
  generalize lotL raws costs w [] = N at hR hB hfit hlot hNs hNa
  generalize rawG raws = S at hrl hNs hmayS hf6
  obtain ⟨wd, hW⟩ : ∃ wd, wd = 1 + pickN w 5 := ⟨_, rfl⟩
  rw [← hW] at hNa
  obtain ⟨hp1, hp2⟩ := hp
  refine Fn.enter Tryz.func3 rfl Tryz.ntmps3 (by simp) (fun I0 w0 => ?_)
  repeat (first | refine stp ?_ | (refine sti ?_; intro _) | refine stf ?_ | (refine stb ?_; intro _))
  refine o_callV rfl rfl rfl rfl nawake_spec rfl ?_
  repeat (first | refine stp ?_ | (refine sti ?_; intro _) | refine stf ?_ | (refine stb ?_; intro _))
  refine OpK.call rfl rfl rfl rfl (hlot) inferInstance (Mr := _) (List.Perm.refl _) ?_
  rintro vN Φ' Mc' ⟨_, rfl, rfl, rfl⟩
  dsimp only [List.cons_append, List.nil_append]
  refine G.lot vN N ?_
  intro n1 nc1 n2 nc2 n3 nc3 n4 nc4 n5 nc5 e
  subst e
  repeat (first | refine stp ?_ | (refine sti ?_; intro _) | refine stf ?_ | (refine stb ?_; intro _))
  rename_i b10
  refine W.loopI (fun (s : GoSt) => ([fRp v3 picks, fRp (.agg #[.slice s.a1 s.l.sets.length s.ac1, .slice s.a2 s.l.left.length s.ac2, .slice s.a3 s.l.at_.length s.ac3, .slice s.a4 s.l.begun.length s.ac4, .slice s.a5 s.l.done.length s.ac5]) s.l, fRp (.slice s.a1 s.l.sets.length s.ac1) s.l.sets, fRp (.slice s.a2 s.l.left.length s.ac2) s.l.left, fRp (.slice s.a3 s.l.at_.length s.ac3) s.l.at_, fRp (.slice s.a4 s.l.begun.length s.ac4) s.l.begun, fRp (.slice s.a5 s.l.done.length s.ac5) s.l.done], [(3, v3), (9, .bool true), (10, .pointer (some ⟨b10, 0, none⟩)), (11, .int .i64 s.i)], [(b10, Ob [.slice s.a1 s.l.sets.length s.ac1, .slice s.a2 s.l.left.length s.ac2, .slice s.a3 s.l.at_.length s.ac3, .slice s.a4 s.l.begun.length s.ac4, .slice s.a5 s.l.done.length s.ac5] 28)])) (fun s => s.i ≤ picks.length + 80 ∧ RightI s.l ∧ FillB s.l ∧ s.l.sets = S ∧ s.l.at_.length = wd) (fun s => picks.length + 80 - s.i) ⟨0, N, n1, nc1, n2, nc2, n3, nc3, n4, nc4, n5, nc5⟩ ⟨Nat.zero_le _, hR, hB, hNs, hNa⟩ inferInstance (look_sub_cons rfl (look_sub_cons rfl (look_sub_cons rfl (look_sub_cons rfl look_sub_nil)))) (List.Sublist.refl _) ?_
  clear hR hB hlot
  rintro ⟨i, l, a1, ac1, a2, ac2, a3, ac3, a4, ac4, a5, ac5⟩ ⟨hi, hR, hB, hS, hA⟩
  dsimp only at hi hR hB hS hA ⊢
  have hf : FitL l := FitL.of hfit hR (hS.trans hNs.symm)
  rw [← hS] at hf6 hmayS hrl
  by_cases hi0 : i = picks.length + 80
  · subst hi0
    by_cases hd : l.done.length < l.sets.length
    · repeat (first | refine stp ?_ | (refine sti ?_; intro _) | refine stf ?_ | (refine stb ?_; intro _))
      refine G.ret rfl (.cons (.tmp rfl) .nil) (Φ' := []) (M' := []) inferInstance (List.nil_sublist _) ⟨?_, rfl, rfl⟩
      rfl
    · have hdl : l.done.length = l.sets.length := Nat.le_antisymm (right_done_len hR) (by omega)
      have hor := fun u u' => rorders_spec u u' l.sets l.done (by omega) hf6 (by omega)
      rw [end_order hR hdl] at hor
      repeat (first | refine stp ?_ | (refine sti ?_; intro _) | refine stf ?_ | (refine stb ?_; intro _))
      refine o_callV rfl rfl rfl rfl (hor _ _) rfl ?_
      repeat (first | refine stp ?_ | (refine sti ?_; intro _) | refine stf ?_ | (refine stb ?_; intro _))
      refine G.ret rfl (.cons (.tmp rfl) .nil) (Φ' := []) (M' := []) inferInstance (List.nil_sublist _) ⟨?_, rfl, rfl⟩
      rfl
  have hi1 : i < picks.length + 80 := by omega
  have hlcb : InR (laneC picks i) := by
    unfold laneC
    cases hp : picks[i]? with
    | none => exact ⟨by dsimp only; omega, by dsimp only; omega⟩
    | some p => exact hp2 p (List.mem_of_getElem? hp)
  obtain ⟨lane, hlane⟩ : ∃ lane, lane = pickN (laneC picks i) (l.at_.length + 1) := ⟨_, rfl⟩
  have hlp := pick20_spec (laneC picks i) (l.at_.length + 1) (by omega) (by omega) hlcb
  rw [← hlane] at hlp
  have hlb : lane ≤ l.at_.length := by
    have := pickN_lt (laneC picks i) (n := l.at_.length + 1) (by omega)
    omega
  clear hlane
  have hme := fun u => measure_spec u l hf
  rw [(show measureL l = l.left.sum from by rw [show measureL l = if rightL l then l.left.sum else 0 from by with_unfolding_all rfl, rightL_iff.2 hR]; rfl), (show errL l = 0 from by rw [show errL l = if rightL l then 0 else 1 from by with_unfolding_all rfl, rightL_iff.2 hR]; rfl)] at hme
  have hid := fun u => (idles_spec u l hf).givenT
  rw [(show errL l = 0 from by rw [show errL l = if rightL l then 0 else 1 from by with_unfolding_all rfl, rightL_iff.2 hR]; rfl)] at hid
  have hidl : (idlesL l).length = (idleL l.at_).length := by rw [(show idlesL l = (idleL l.at_).map (fun (k : Nat) => (k : Int)) from by rw [show idlesL l = if rightL l then (idleL l.at_).map fun (k : Nat) => (k : Int) else [] from by with_unfolding_all rfl, rightL_iff.2 hR]; rfl), List.length_map]
  have hpk := fun u => ppick_spec u l hf (lane : Int)
  rw [(show errL l = 0 from by rw [show errL l = if rightL l then 0 else 1 from by with_unfolding_all rfl, rightL_iff.2 hR]; rfl), (show isR l (lane : Int) = !noP l (lane : Int) from by rw [show isR l (lane : Int) = (rightL l && !noP l (lane : Int)) from by with_unfolding_all rfl, rightL_iff.2 hR]; rfl), (show pickR l (lane : Int) = pickL l (lane : Int) from by rw [show pickR l (lane : Int) = if rightL l then pickL l (lane : Int) else l from by with_unfolding_all rfl, rightL_iff.2 hR]; rfl)] at hpk
  repeat (first | refine stp ?_ | (refine sti ?_; intro _) | refine stf ?_ | (refine stb ?_; intro _))
  refine W.cutThen [fRp v3 picks, fRp (.agg #[.slice a1 l.sets.length ac1, .slice a2 l.left.length ac2, .slice a3 l.at_.length ac3, .slice a4 l.begun.length ac4, .slice a5 l.done.length ac5]) l, fRp (.slice a1 l.sets.length ac1) l.sets, fRp (.slice a2 l.left.length ac2) l.left, fRp (.slice a3 l.at_.length ac3) l.at_, fRp (.slice a4 l.begun.length ac4) l.begun, fRp (.slice a5 l.done.length ac5) l.done] [(3, v3), (9, .bool true), (10, .pointer (some ⟨b10, 0, none⟩)), (11, .int .i64 i), (12, .int .i64 (laneC picks i))] [(b10, Ob [.slice a1 l.sets.length ac1, .slice a2 l.left.length ac2, .slice a3 l.at_.length ac3, .slice a4 l.begun.length ac4, .slice a5 l.done.length ac5] 28)] ?_ ?_
  · by_cases hip : i < picks.length
    · have hlc : laneC picks i = picks[i] := by unfold laneC; rw [List.getElem?_eq_getElem hip]
      rw [hlc]
      simp only [show ((i : Int) < (picks.length : Int)) from by omega, decide_true]
      repeat (first | refine stp ?_ | (refine sti ?_; intro _) | refine stf ?_ | (refine stb ?_; intro _))
      exact G.kp inferInstance (look_sub_cons rfl (look_sub_cons rfl (look_sub_cons rfl (look_sub_cons rfl (look_sub_cons rfl look_sub_nil))))) (List.Sublist.refl _)
    · have hlc : laneC picks i = (i : Int) := by unfold laneC; rw [List.getElem?_eq_none (by omega)]
      rw [hlc]
      simp only [show ¬ ((i : Int) < (picks.length : Int)) from by omega, decide_false]
      repeat (first | refine stp ?_ | (refine sti ?_; intro _) | refine stf ?_ | (refine stb ?_; intro _))
      exact G.kp inferInstance (look_sub_cons rfl (look_sub_cons rfl (look_sub_cons rfl (look_sub_cons rfl (look_sub_cons rfl look_sub_nil))))) (List.Sublist.refl _)
  clear hlcb
  repeat (first | refine stp ?_ | (refine sti ?_; intro _) | refine stf ?_ | (refine stb ?_; intro _))
  refine o_callV rfl rfl rfl rfl hlp rfl ?_
  repeat (first | refine stp ?_ | (refine sti ?_; intro _) | refine stf ?_ | (refine stb ?_; intro _))
  refine o_callV rfl rfl rfl rfl (hme _) rfl ?_
  repeat (first | refine stp ?_ | (refine sti ?_; intro _) | refine stf ?_ | (refine stb ?_; intro _))
  refine o_callT (mk := tupE 0) (ψ := fun sv => fRp sv (idlesL l)) rfl rfl rfl rfl (hid _) ?_
  intro vI
  unfold tupE
  refine G.slice vI (idlesL l) ?_
  intro aI cI e _
  subst e
  repeat ((fail_if_success (refine W.region ?_)); first | refine stp ?_ | (refine sti ?_; intro _) | refine stf ?_ | (refine stb ?_; intro _))
  refine W.cutThen [fRp v3 picks, fRp (.agg #[.slice a1 l.sets.length ac1, .slice a2 l.left.length ac2, .slice a3 l.at_.length ac3, .slice a4 l.begun.length ac4, .slice a5 l.done.length ac5]) l, fRp (.slice a1 l.sets.length ac1) l.sets, fRp (.slice a2 l.left.length ac2) l.left, fRp (.slice a3 l.at_.length ac3) l.at_, fRp (.slice a4 l.begun.length ac4) l.begun, fRp (.slice a5 l.done.length ac5) l.done] [(3, v3), (9, .bool true), (10, .pointer (some ⟨b10, 0, none⟩)), (11, .int .i64 i), (12, .int .i64 (lane : Nat)), (13, .int .i64 l.left.sum), (78, .bool false)] [(b10, Ob [.slice a1 l.sets.length ac1, .slice a2 l.left.length ac2, .slice a3 l.at_.length ac3, .slice a4 l.begun.length ac4, .slice a5 l.done.length ac5] 28)] ?_ ?_
  · by_cases hms : 0 < l.left.sum
    · obtain ⟨j, hj, hja⟩ := busy_lane hR hB hms
      have hne := idle_busy hj hja
      repeat (first | refine stp ?_ | (refine sti ?_; intro _) | refine stf ?_ | (refine stb ?_; intro _))
      exact G.kp inferInstance (look_sub_cons rfl (look_sub_cons rfl (look_sub_cons rfl (look_sub_cons rfl (look_sub_cons rfl (look_sub_cons rfl (look_sub_cons rfl look_sub_nil))))))) (List.Sublist.refl _)
    · repeat (first | refine stp ?_ | (refine sti ?_; intro _) | refine stf ?_ | (refine stb ?_; intro _))
      exact G.kp inferInstance (look_sub_cons rfl (look_sub_cons rfl (look_sub_cons rfl (look_sub_cons rfl (look_sub_cons rfl (look_sub_cons rfl (look_sub_cons rfl look_sub_nil))))))) (List.Sublist.refl _)
  repeat (first | refine stp ?_ | (refine sti ?_; intro _) | refine stf ?_ | (refine stb ?_; intro _))
  refine W.loopI (fun (a : Nat) => ([fRp v3 picks, fRp (.agg #[.slice a1 l.sets.length ac1, .slice a2 l.left.length ac2, .slice a3 l.at_.length ac3, .slice a4 l.begun.length ac4, .slice a5 l.done.length ac5]) l, fRp (.slice a1 l.sets.length ac1) l.sets, fRp (.slice a2 l.left.length ac2) l.left, fRp (.slice a3 l.at_.length ac3) l.at_, fRp (.slice a4 l.begun.length ac4) l.begun, fRp (.slice a5 l.done.length ac5) l.done], [(3, v3), (9, .bool true), (10, .pointer (some ⟨b10, 0, none⟩)), (11, .int .i64 i), (12, .int .i64 (lane : Nat)), (13, .int .i64 l.left.sum), (17, .int .i64 a)], [(b10, Ob [.slice a1 l.sets.length ac1, .slice a2 l.left.length ac2, .slice a3 l.at_.length ac3, .slice a4 l.begun.length ac4, .slice a5 l.done.length ac5] 28)])) (fun a => a ≤ l.at_.length) (fun a => l.at_.length - a) 0 (Nat.zero_le _) inferInstance (look_sub_cons rfl (look_sub_cons rfl (look_sub_cons rfl (look_sub_cons rfl (look_sub_cons rfl (look_sub_cons rfl (look_sub_cons rfl look_sub_nil))))))) (List.Sublist.refl _) ?_
  intro a ha
  dsimp only
  by_cases ha0 : a = l.at_.length
  case neg =>
    have ha1 : a < l.at_.length := by omega
    repeat (first | refine stp ?_ | (refine sti ?_; intro _) | refine stf ?_ | (refine stb ?_; intro _))
    refine W.loopI (fun (b : Nat) => ([fRp v3 picks, fRp (.agg #[.slice a1 l.sets.length ac1, .slice a2 l.left.length ac2, .slice a3 l.at_.length ac3, .slice a4 l.begun.length ac4, .slice a5 l.done.length ac5]) l, fRp (.slice a1 l.sets.length ac1) l.sets, fRp (.slice a2 l.left.length ac2) l.left, fRp (.slice a3 l.at_.length ac3) l.at_, fRp (.slice a4 l.begun.length ac4) l.begun, fRp (.slice a5 l.done.length ac5) l.done], [(3, v3), (9, .bool true), (10, .pointer (some ⟨b10, 0, none⟩)), (11, .int .i64 i), (12, .int .i64 (lane : Nat)), (13, .int .i64 l.left.sum), (17, .int .i64 a), (18, .int .i64 b)], [(b10, Ob [.slice a1 l.sets.length ac1, .slice a2 l.left.length ac2, .slice a3 l.at_.length ac3, .slice a4 l.begun.length ac4, .slice a5 l.done.length ac5] 28)])) (fun b => b ≤ a) (fun b => a - b) 0 (Nat.zero_le _) inferInstance (look_sub_cons rfl (look_sub_cons rfl (look_sub_cons rfl (look_sub_cons rfl (look_sub_cons rfl (look_sub_cons rfl (look_sub_cons rfl (look_sub_cons rfl look_sub_nil)))))))) (List.Sublist.refl _) ?_
    intro b hb
    dsimp only
    by_cases hb0 : b = a
    · subst hb0
      repeat (first | refine stp ?_ | (refine sti ?_; intro _) | refine stf ?_ | (refine stb ?_; intro _))
      exact G.again (S := Nat) (b + 1) (by omega) (by omega) inferInstance (look_sub_cons rfl (look_sub_cons rfl (look_sub_cons rfl (look_sub_cons rfl (look_sub_cons rfl (look_sub_cons rfl (look_sub_cons rfl look_sub_nil))))))) (List.Sublist.refl _)
    have hb1 : b < a := by omega
    have hb2 : b < l.at_.length := by omega
    have hga := getD_at l.at_ 0 ha1
    have hgb := getD_at l.at_ 0 hb2
    repeat (first | refine stp ?_ | (refine sti ?_; intro _) | refine stf ?_ | (refine stb ?_; intro _))
    rcases at_cases hR ha1 with hka | ⟨ka, hka, hkal, _⟩
    · rw [hga] at hka
      refine W.draw 35 (⟨?v0_1, fun _ z => []⟩ :: ⟨?v1_1, fun _ z => []⟩ :: ⟨?v2_1, fun _ z => []⟩ :: ⟨fun _ z => z, fun _ z => [fPt z l.at_[a]]⟩ :: ⟨?v4_1, fun _ z => []⟩ :: ⟨?v5_1, fun _ z => []⟩ :: ⟨?v6_1, fun _ z => []⟩ :: ⟨?v7_1, fun _ z => []⟩ :: ⟨?v8_1, fun _ z => []⟩ :: ⟨?v9_1, fun _ z => []⟩ :: ⟨?v10_1, fun _ z => []⟩ :: ⟨?v11_1, fun _ z => []⟩ :: ⟨?v12_1, fun _ z => []⟩ :: ⟨?v13_1, fun _ z => []⟩ :: ⟨?v14_1, fun _ z => []⟩ :: ⟨?v15_1, fun _ z => []⟩ :: ⟨?v16_1, fun _ z => []⟩ :: ⟨?v17_1, fun _ z => []⟩ :: ⟨?v18_1, fun _ z => []⟩ :: ⟨?v19_1, fun _ z => []⟩ :: ⟨?v20_1, fun _ z => []⟩ :: ⟨?v21_1, fun _ z => []⟩ :: ⟨?v22_1, fun _ z => []⟩ :: ⟨?v23_1, fun _ z => []⟩ :: ⟨?v24_1, fun _ z => []⟩ :: ⟨?v25_1, fun _ z => []⟩ :: ⟨?v26_1, fun _ z => []⟩ :: ⟨?v27_1, fun _ z => []⟩ :: ⟨?v28_1, fun _ z => []⟩ :: ⟨?v29_1, fun _ z => []⟩ :: ⟨?v30_1, fun _ z => []⟩ :: ⟨?v31_1, fun _ z => []⟩ :: ⟨?v32_1, fun _ z => []⟩ :: ⟨?v33_1, fun _ z => []⟩ :: ⟨?v34_1, fun _ z => []⟩ :: []) ([] :: [0] :: [] :: [1, 2] :: [3] :: [4] :: [5] :: [6] :: [6, 7] :: [6] :: [6, 8, 9] :: [6, 10] :: [6, 11] :: [6, 12] :: [13] :: [14] :: [14, 15] :: [14] :: [14, 17] :: [14] :: [14, 18, 19] :: [14, 20] :: [14, 16, 21] :: [14, 22] :: [14] :: [14, 24] :: [14] :: [14, 26] :: [14] :: [14, 27, 28] :: [14, 29] :: [14, 25, 30] :: [14, 31] :: [14, 23, 32] :: [14, 33] :: []) [34] (by kernel_rfl) (by kernel_rfl) (by kernel_rfl) (by kernel_rfl) ?loc_1 ?ops_1 ?rest_1
      case ops_1 =>
        iterate 35 (refine AllQ.mk ?_ ?_; rotate_left)
        exact AllQ.nil
        all_goals (intro c z0 Φr Lr K hK; dsimp only [dstOf, kval, kfac, ancE, ancF, getD_z, getD_s, List.getElem?_cons_zero, List.getElem?_cons_succ, List.getElem?_nil, Option.getD_some, Option.getD_none, List.nil_append, List.cons_append, Option.getD] at hK ⊢)
        iterate 3 ((first | refine stp ?_ | refine stf ?_); exact hK z0)
        · refine o_idxN a rfl rfl rfl rfl rfl ha1 ?_; intro p; exact hK _
        iterate 31 ((first | refine stp ?_ | refine stf ?_); exact hK z0)
      case loc_1 =>
        iterate 35 (refine AllL.mk ?_ ?_; rotate_left)
        exact AllL.nil
        all_goals (intro c c' z h; first | exact ⟨rfl, rfl⟩ | (skip))
      intro c
      dsimp only [dstOf, kval, kfac, ancE,  ancF, getD_z, getD_s, List.getElem?_cons_zero, List.getElem?_cons_succ, List.getElem?_nil, Option.getD_some, Option.getD_none, List.nil_append, List.cons_append, List.drop_succ_cons, List.drop_zero, Option.getD]
      repeat (first | refine stp ?_ | (refine sti ?_; intro _) | refine stf ?_ | (refine stb ?_; intro _))
      exact G.again (S := Nat) (b + 1) (by omega) (by omega) inferInstance (look_sub_cons rfl (look_sub_cons rfl (look_sub_cons rfl (look_sub_cons rfl (look_sub_cons rfl (look_sub_cons rfl (look_sub_cons rfl (look_sub_cons rfl look_sub_nil)))))))) (List.Sublist.refl _)
    rw [hga] at hka
    rcases at_cases hR hb2 with hkb | ⟨kb, hkb, hkbl, _⟩
    · rw [hgb] at hkb
      refine W.draw 35 (⟨?v0_2, fun _ z => []⟩ :: ⟨?v1_2, fun _ z => []⟩ :: ⟨?v2_2, fun _ z => []⟩ :: ⟨fun _ z => z, fun _ z => [fPt z l.at_[a]]⟩ :: ⟨?v4_2, fun _ z => []⟩ :: ⟨?v5_2, fun _ z => []⟩ :: ⟨?v6_2, fun _ z => []⟩ :: ⟨?v7_2, fun _ z => []⟩ :: ⟨?v8_2, fun _ z => []⟩ :: ⟨?v9_2, fun _ z => []⟩ :: ⟨fun _ z => z, fun _ z => [fPt z l.at_[b]]⟩ :: ⟨?v11_2, fun _ z => []⟩ :: ⟨?v12_2, fun _ z => []⟩ :: ⟨?v13_2, fun _ z => []⟩ :: ⟨?v14_2, fun _ z => []⟩ :: ⟨?v15_2, fun _ z => []⟩ :: ⟨?v16_2, fun _ z => []⟩ :: ⟨?v17_2, fun _ z => []⟩ :: ⟨?v18_2, fun _ z => []⟩ :: ⟨?v19_2, fun _ z => []⟩ :: ⟨?v20_2, fun _ z => []⟩ :: ⟨?v21_2, fun _ z => []⟩ :: ⟨?v22_2, fun _ z => []⟩ :: ⟨?v23_2, fun _ z => []⟩ :: ⟨?v24_2, fun _ z => []⟩ :: ⟨?v25_2, fun _ z => []⟩ :: ⟨?v26_2, fun _ z => []⟩ :: ⟨?v27_2, fun _ z => []⟩ :: ⟨?v28_2, fun _ z => []⟩ :: ⟨?v29_2, fun _ z => []⟩ :: ⟨?v30_2, fun _ z => []⟩ :: ⟨?v31_2, fun _ z => []⟩ :: ⟨?v32_2, fun _ z => []⟩ :: ⟨?v33_2, fun _ z => []⟩ :: ⟨?v34_2, fun _ z => []⟩ :: []) ([] :: [0] :: [] :: [1, 2] :: [3] :: [4] :: [5] :: [6] :: [6, 7] :: [6] :: [6, 8, 9] :: [6, 10] :: [6, 11] :: [6, 12] :: [13] :: [14] :: [14, 15] :: [14] :: [14, 17] :: [14] :: [14, 18, 19] :: [14, 20] :: [14, 16, 21] :: [14, 22] :: [14] :: [14, 24] :: [14] :: [14, 26] :: [14] :: [14, 27, 28] :: [14, 29] :: [14, 25, 30] :: [14, 31] :: [14, 23, 32] :: [14, 33] :: []) [34] (by kernel_rfl) (by kernel_rfl) (by kernel_rfl) (by kernel_rfl) ?loc_2 ?ops_2 ?rest_2
      case ops_2 =>
        iterate 35 (refine AllQ.mk ?_ ?_; rotate_left)
        exact AllQ.nil
        all_goals (intro c z0 Φr Lr K hK; dsimp only [dstOf, kval, kfac, ancE, ancF, getD_z, getD_s, List.getElem?_cons_zero, List.getElem?_cons_succ, List.getElem?_nil, Option.getD_some, Option.getD_none, List.nil_append, List.cons_append, Option.getD] at hK ⊢)
        iterate 3 ((first | refine stp ?_ | refine stf ?_); exact hK z0)
        · refine o_idxN a rfl rfl rfl rfl rfl ha1 ?_; intro p; exact hK _
        iterate 6 ((first | refine stp ?_ | refine stf ?_); exact hK z0)
        · refine o_idxN b rfl rfl rfl rfl rfl hb2 ?_; intro p; exact hK _
        iterate 24 ((first | refine stp ?_ | refine stf ?_); exact hK z0)
      case loc_2 =>
        iterate 35 (refine AllL.mk ?_ ?_; rotate_left)
        exact AllL.nil
        all_goals (intro c c' z h; first | exact ⟨rfl, rfl⟩ | (skip))
      intro c
      dsimp only [dstOf, kval, kfac, ancE,  ancF, getD_z, getD_s, List.getElem?_cons_zero, List.getElem?_cons_succ, List.getElem?_nil, Option.getD_some, Option.getD_none, List.nil_append, List.cons_append, List.drop_succ_cons, List.drop_zero, Option.getD]
      repeat (first | refine stp ?_ | (refine sti ?_; intro _) | refine stf ?_ | (refine stb ?_; intro _))
      exact G.again (S := Nat) (b + 1) (by omega) (by omega) inferInstance (look_sub_cons rfl (look_sub_cons rfl (look_sub_cons rfl (look_sub_cons rfl (look_sub_cons rfl (look_sub_cons rfl (look_sub_cons rfl (look_sub_cons rfl look_sub_nil)))))))) (List.Sublist.refl _)
    rw [hgb] at hkb
    have hcl := lanes_free hR ha1 hb2 (by omega) (hga.trans hka) (hgb.trans hkb)
    rw [clG_eq hkal hkbl] at hcl
    refine W.draw 35 (⟨?v0_3, fun _ z => []⟩ :: ⟨?v1_3, fun _ z => []⟩ :: ⟨?v2_3, fun _ z => []⟩ :: ⟨fun _ z => z, fun _ z => [fPt z l.at_[a]]⟩ :: ⟨?v4_3, fun _ z => []⟩ :: ⟨?v5_3, fun _ z => []⟩ :: ⟨?v6_3, fun _ z => []⟩ :: ⟨?v7_3, fun _ z => []⟩ :: ⟨?v8_3, fun _ z => []⟩ :: ⟨?v9_3, fun _ z => []⟩ :: ⟨fun _ z => z, fun _ z => [fPt z l.at_[b]]⟩ :: ⟨?v11_3, fun _ z => []⟩ :: ⟨?v12_3, fun _ z => []⟩ :: ⟨?v13_3, fun _ z => []⟩ :: ⟨?v14_3, fun _ z => []⟩ :: ⟨?v15_3, fun _ z => []⟩ :: ⟨?v16_3, fun _ z => []⟩ :: ⟨?v17_3, fun _ z => []⟩ :: ⟨?v18_3, fun _ z => []⟩ :: ⟨?v19_3, fun _ z => []⟩ :: ⟨fun _ z => z, fun _ z => [fPt z l.at_[a]]⟩ :: ⟨?v21_3, fun _ z => []⟩ :: ⟨fun _ z => z, fun _ z => [fPt z l.sets[ka]]⟩ :: ⟨fun _ z => z, fun _ z => [fRp z l.sets[ka]]⟩ :: ⟨?v24_3, fun _ z => []⟩ :: ⟨?v25_3, fun _ z => []⟩ :: ⟨?v26_3, fun _ z => []⟩ :: ⟨?v27_3, fun _ z => []⟩ :: ⟨?v28_3, fun _ z => []⟩ :: ⟨fun _ z => z, fun _ z => [fPt z l.at_[b]]⟩ :: ⟨?v30_3, fun _ z => []⟩ :: ⟨fun _ z => z, fun _ z => [fPt z l.sets[kb]]⟩ :: ⟨fun _ z => z, fun _ z => [fRp z l.sets[kb]]⟩ :: ⟨?v33_3, fun _ z => []⟩ :: ⟨?v34_3, fun _ z => []⟩ :: []) ([] :: [0] :: [] :: [1, 2] :: [3] :: [4] :: [5] :: [6] :: [6, 7] :: [6] :: [6, 8, 9] :: [6, 10] :: [6, 11] :: [6, 12] :: [13] :: [14] :: [14, 15] :: [14] :: [14, 17] :: [14] :: [14, 18, 19] :: [14, 20] :: [14, 16, 21] :: [14, 22] :: [14] :: [14, 24] :: [14] :: [14, 26] :: [14] :: [14, 27, 28] :: [14, 29] :: [14, 25, 30] :: [14, 31] :: [14, 23, 32] :: [14, 33] :: []) [34] (by kernel_rfl) (by kernel_rfl) (by kernel_rfl) (by kernel_rfl) ?loc_3 ?ops_3 ?rest_3
    case ops_3 =>
      iterate 35 (refine AllQ.mk ?_ ?_; rotate_left)
      exact AllQ.nil
      all_goals (intro c z0 Φr Lr K hK; dsimp only [dstOf, kval, kfac, ancE, ancF, getD_z, getD_s, List.getElem?_cons_zero, List.getElem?_cons_succ, List.getElem?_nil, Option.getD_some, Option.getD_none, List.nil_append, List.cons_append, Option.getD] at hK ⊢)
      iterate 3 ((first | refine stp ?_ | refine stf ?_); exact hK z0)
      · refine o_idxN a rfl rfl rfl rfl rfl ha1 ?_; intro p; exact hK _
      iterate 6 ((first | refine stp ?_ | refine stf ?_); exact hK z0)
      · refine o_idxN b rfl rfl rfl rfl rfl hb2 ?_; intro p; exact hK _
      iterate 9 ((first | refine stp ?_ | refine stf ?_); exact hK z0)
      · refine o_idxN a rfl rfl rfl rfl rfl ha1 ?_; intro p; exact hK _
      · (first | refine stp ?_ | refine stf ?_); exact hK z0
      · refine o_idxN ka rfl rfl rfl rfl hka hkal ?_; intro p; exact hK _
      · refine o_loadR rfl rfl rfl rfl ?_; intro p; exact hK _
      iterate 5 ((first | refine stp ?_ | refine stf ?_); exact hK z0)
      · refine o_idxN b rfl rfl rfl rfl rfl hb2 ?_; intro p; exact hK _
      · (first | refine stp ?_ | refine stf ?_); exact hK z0
      · refine o_idxN kb rfl rfl rfl rfl hkb hkbl ?_; intro p; exact hK _
      · refine o_loadR rfl rfl rfl rfl ?_; intro p; exact hK _
      · refine o_callV rfl rfl rfl rfl (clashS_spec (c 23) (c 32) l.sets[ka] l.sets[kb] (hf6 _ (List.getElem_mem hkal)) (hf6 _ (List.getElem_mem hkbl))) (congrArg Value.bool hcl) ?_; exact hK z0
      · refine stp ?_; exact hK z0
    case loc_3 =>
      iterate 35 (refine AllL.mk ?_ ?_; rotate_left)
      exact AllL.nil
      all_goals (intro c c' z h; first | exact ⟨rfl, rfl⟩ | (skip))
    intro c
    dsimp only [dstOf, kval, kfac, ancE,  ancF, getD_z, getD_s, List.getElem?_cons_zero, List.getElem?_cons_succ, List.getElem?_nil, Option.getD_some, Option.getD_none, List.nil_append, List.cons_append, List.drop_succ_cons, List.drop_zero, Option.getD]
    repeat (first | refine stp ?_ | (refine sti ?_; intro _) | refine stf ?_ | (refine stb ?_; intro _))
    exact G.again (S := Nat) (b + 1) (by omega) (by omega) inferInstance (look_sub_cons rfl (look_sub_cons rfl (look_sub_cons rfl (look_sub_cons rfl (look_sub_cons rfl (look_sub_cons rfl (look_sub_cons rfl (look_sub_cons rfl look_sub_nil)))))))) (List.Sublist.refl _)
  subst ha0
  have hR2 := pick_right hR (lane : Int)
  have hB2 := pick_busy hR hB (lane : Int)
  have hS2 : (pickL l (lane : Int)).sets = S := (pickL_sets l _).trans hS
  have hA2 : (pickL l (lane : Int)).at_.length = wd := (pick_atlen l _).trans hA
  have hf2 : FitL (pickL l (lane : Int)) := FitL.of hf hR2 (pickL_sets l _)
  have hme2 := fun u => measure_spec u (pickL l (lane : Int)) hf2
  rw [(show measureL (pickL l (lane : Int)) = (pickL l (lane : Int)).left.sum from by rw [show measureL (pickL l (lane : Int)) = if rightL (pickL l (lane : Int)) then (pickL l (lane : Int)).left.sum else 0 from by with_unfolding_all rfl, rightL_iff.2 hR2]; rfl), (show errL (pickL l (lane : Int)) = 0 from by rw [show errL (pickL l (lane : Int)) = if rightL (pickL l (lane : Int)) then 0 else 1 from by with_unfolding_all rfl, rightL_iff.2 hR2]; rfl)] at hme2
  have hsn := sum_nn hR.lb
  have hsn2 := sum_le2 hR.lb
  have hll : l.left.length ≤ 10 := by rw [hR.sl]; exact hrl
  cases hno : noP l (lane : Int) with
  | false =>
    have hsum := pick_sum hR hno
    obtain ⟨hl1, hl2⟩ := noP_iff.1 hno
    have hgl := getD_at l.at_ 0 hl1
    rw [hgl] at hl2
    have hl3 : 0 ≤ l.at_[lane] := by
      rcases at_cases hR hl1 with h | ⟨k, h, _⟩
      · rw [hgl] at h; exact absurd h hl2
      · rw [hgl] at h; omega
    rw [hno] at hpk
    generalize pickL l (lane : Int) = l2 at hpk hR2 hB2 hS2 hA2 hf2 hme2 hsum
    repeat (first | refine stp ?_ | (refine sti ?_; intro _) | refine stf ?_ | (refine stb ?_; intro _))
    refine OpK.call rfl rfl rfl rfl (hpk _) inferInstance (Mr := _) (List.Perm.refl _) ?_
    rintro u Φ' Mc' ⟨vX, rfl, rfl, rfl⟩
    dsimp only [List.cons_append, List.nil_append]
    refine G.lot vX l2 ?_
    intro x1 xc1 x2 xc2 x3 xc3 x4 xc4 x5 xc5 e
    subst e
    repeat (first | refine stp ?_ | (refine sti ?_; intro _) | refine stf ?_ | (refine stb ?_; intro _))
    refine o_callV rfl rfl rfl rfl (hme2 _) rfl ?_
    rw [hsum]
    repeat (first | refine stp ?_ | (refine sti ?_; intro _) | refine stf ?_ | (refine stb ?_; intro _))
    exact G.again (S := GoSt) ⟨i + 1, l2, x1, xc1, x2, xc2, x3, xc3, x4, xc4, x5, xc5⟩ (by dsimp only; omega) ⟨by dsimp only; omega, hR2, hB2, hS2, hA2⟩ inferInstance (look_sub_cons rfl (look_sub_cons rfl (look_sub_cons rfl (look_sub_cons rfl look_sub_nil)))) (.cons _ (List.Sublist.refl _))
  | true =>
    rw [hno] at hpk
    have hpe := pick_none hno
    have hl2 : ¬ lane < l.at_.length ∨ ∃ h : lane < l.at_.length, l.at_[lane] = -1 := by
      by_cases h : lane < l.at_.length
      · refine .inr ⟨h, ?_⟩
        have hgl := getD_at l.at_ 0 h
        by_cases h2 : l.at_.getD lane 0 = -1
        · rw [← hgl]; exact h2
        · rw [noP_iff.2 ⟨h, h2⟩] at hno; cases hno
      · exact .inl h
    generalize pickL l (lane : Int) = l2 at hpk hR2 hB2 hS2 hA2 hf2 hme2 hpe
    have hsum : l2.left.sum = l.left.sum := by rw [hpe]
    clear hpe
    rcases hl2 with hl1 | ⟨hl1, hl3⟩
    · repeat (first | refine stp ?_ | (refine sti ?_; intro _) | refine stf ?_ | (refine stb ?_; intro _))
      refine OpK.call rfl rfl rfl rfl (hpk _) inferInstance (Mr := _) (List.Perm.refl _) ?_
      rintro u Φ' Mc' ⟨vX, rfl, rfl, rfl⟩
      dsimp only [List.cons_append, List.nil_append]
      refine G.lot vX l2 ?_
      intro x1 xc1 x2 xc2 x3 xc3 x4 xc4 x5 xc5 e
      subst e
      repeat (first | refine stp ?_ | (refine sti ?_; intro _) | refine stf ?_ | (refine stb ?_; intro _))
      refine o_callV rfl rfl rfl rfl (hme2 _) rfl ?_
      rw [hsum]
      repeat (first | refine stp ?_ | (refine sti ?_; intro _) | refine stf ?_ | (refine stb ?_; intro _))
      exact G.again (S := GoSt) ⟨i + 1, l2, x1, xc1, x2, xc2, x3, xc3, x4, xc4, x5, xc5⟩ (by dsimp only; omega) ⟨by dsimp only; omega, hR2, hB2, hS2, hA2⟩ inferInstance (look_sub_cons rfl (look_sub_cons rfl (look_sub_cons rfl (look_sub_cons rfl look_sub_nil)))) (.cons _ (List.Sublist.refl _))
    · repeat (first | refine stp ?_ | (refine sti ?_; intro _) | refine stf ?_ | (refine stb ?_; intro _))
      refine OpK.call rfl rfl rfl rfl (hpk _) inferInstance (Mr := _) (List.Perm.refl _) ?_
      rintro u Φ' Mc' ⟨vX, rfl, rfl, rfl⟩
      dsimp only [List.cons_append, List.nil_append]
      refine G.lot vX l2 ?_
      intro x1 xc1 x2 xc2 x3 xc3 x4 xc4 x5 xc5 e
      subst e
      repeat (first | refine stp ?_ | (refine sti ?_; intro _) | refine stf ?_ | (refine stb ?_; intro _))
      refine o_callV rfl rfl rfl rfl (hme2 _) rfl ?_
      rw [hsum]
      repeat (first | refine stp ?_ | (refine sti ?_; intro _) | refine stf ?_ | (refine stb ?_; intro _))
      exact G.again (S := GoSt) ⟨i + 1, l2, x1, xc1, x2, xc2, x3, xc3, x4, xc4, x5, xc5⟩ (by dsimp only; omega) ⟨by dsimp only; omega, hR2, hB2, hS2, hA2⟩ inferInstance (look_sub_cons rfl (look_sub_cons rfl (look_sub_cons rfl (look_sub_cons rfl look_sub_nil)))) (.cons _ (List.Sublist.refl _))
end Go.Rail
