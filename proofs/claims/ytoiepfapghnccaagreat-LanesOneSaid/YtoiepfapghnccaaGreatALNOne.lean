/- The law of one lane, walked. -/
import Derived.Test.YtoiepfapghnccaaGreatANL
import Derived.Test.YtoiepfapghnccaaGreatANA
import Derived.Test.YtoiepfapghnccaaGreatRailE
namespace Go.Rail
open Go Go.Proofs
set_option linter.unusedSimpArgs false
set_option linter.unusedVariables false
set_option maxHeartbeats 400000
set_option maxRecDepth 4000
attribute [local irreducible] OpK G W LW wpListIn Exit.then Exit.inBlock Post rounds opRun bodyPostM intOp
attribute [local irreducible] lexN cmpW cmpA cmpK cmpI makeS setK clashS rightS errG edgesR levelsR errR readyR ordG badM mayG edgesG edgesI clG rightL donesL heldL shapeL idxG idleR fillLot pickL noP newL runL cntL errRun isR errL measureL idlesL errN pickR sameLot pickN rawG lotL lot0 runS leftS
theorem sumC : ∀ {L : List Int}, (∀ x ∈ L, 1 ≤ x ∧ x ≤ 6) → L.sum ≤ L.length * 6
  | [], _ => by simp
  | a :: L, h => by
    have h1 := h a List.mem_cons_self
    have h2 := sumC (L := L) fun x hx => h x (.tail _ hx)
    rw [List.sum_cons, List.length_cons]
    omega
theorem lotL_sum (raws : List RawS) (costs : List Int) (w : Int) (ps : List Int) : (lotL raws costs w ps).left.sum ≤ 60 := by
  rw [lotL_eq]
  have h1 := runS_sum (pkL ps 40 6) 0 (lot0_right raws costs w)
  have h2 := rawG_len raws
  have h3 := sumC (L := costsL costs (rawG raws).length) fun x hx => by
    obtain ⟨i, _, rfl⟩ := List.mem_map.1 (show x ∈ (List.range (rawG raws).length).map (costL costs) from hx)
    exact costL_in costs i
  rw [costsL_len] at h3
  rw [(lot0_parts raws costs w).2.1] at h1
  omega
theorem lot1 (raws : List RawS) (costs : List Int) : OneI (lotL raws costs 0 []) 0 := by
  rw [lotL_eq]
  have e : lot0 raws costs 0 = newL (rawG raws) (costsL costs (rawG raws).length) 1 := by with_unfolding_all rfl
  have ho := lot0_ok raws costs 0
  rw [show (1 : Int) + ((pickN 0 5 : Nat) : Int) = 1 from by with_unfolding_all rfl] at ho
  rw [show pkL [] 40 6 = [] from rfl, show (runS (lot0 raws costs 0) 0 []).1 = lot0 raws costs 0 from by with_unfolding_all rfl, e]
  exact new_one ho
set_option maxHeartbeats 8000000 in
theorem none_walk (v0 v1 : Value) (raws : List RawS) (costs : List Int) (hr : okRaws raws) (hc : costs.length ≤ 4611686018427387904 ∧ ∀ x ∈ costs, InR x) : FnV Tryz.prog 5 [v0, v1] [fRp v0 raws, fRp v1 costs] (.bool true) := by
  have hw : InR 0 := ⟨by decide, by decide⟩
  have hR : RightI (lotL raws costs 0 []) := lotL_right raws costs 0 []
  have hB : FillB (lotL raws costs 0 []) := lotL_busy raws costs 0 []
  have hfit : FitL (lotL raws costs 0 []) := lotL_fit raws costs 0 []
  have hone := lot1 raws costs
  have hNs := (lotL_sets raws costs 0 []).1
  have hrl := rawG_len raws
  have hlot := lot_spec v0 v1 (.slice none 0 0) raws costs [] 0 hr hc hw ⟨by decide, fun x hx => by cases hx⟩
  have hsum := lotL_sum raws costs 0 []
  have hmayS := rawG_may raws
  have hf6 := rawG_fit raws
  have hNl : (lotL raws costs 0 []).left = costsL costs (rawG raws).length := by
    rw [lotL_eq, show pkL [] 40 6 = [] from rfl, show (runS (lot0 raws costs 0) 0 []).1 = lot0 raws costs 0 from by with_unfolding_all rfl]
    exact (lot0_parts raws costs 0).2.1
  have hok20 : okN (rawG raws) (lotL raws costs 0 []).left 20 = true := okN_iff.2 ⟨hmayS, by rw [hNl, costsL_len], by decide, by decide, fun x hx => by
    rw [hNl] at hx
    obtain ⟨i, _, rfl⟩ := List.mem_map.1 (show x ∈ (List.range (rawG raws).length).map (costL costs) from hx)
    have := costL_in costs i
    omega⟩
  clear hNl
  generalize lotL raws costs 0 [] = N at hR hB hfit hlot hNs hsum hone hok20
  generalize rawG raws = S at hrl hNs hmayS hf6 hok20
  subst hNs
  obtain ⟨S, hS⟩ : ∃ S, S = N.sets := ⟨_, rfl⟩
  rw [← hS] at hrl hmayS hf6 hok20
  have hnn := sum_nn hR.lb
  obtain ⟨M, hM⟩ : ∃ M : Nat, N.left.sum = (M : Int) := ⟨N.left.sum.toNat, by omega⟩
  have hRb := rightL_iff.2 hR
  have hNa : N.at_.length = 1 := by rw [hone.a]; rfl
  have hme := fun u => measure_spec u N hfit
  rw [(show measureL N = N.left.sum from by rw [show measureL N = if rightL N then N.left.sum else 0 from by with_unfolding_all rfl, rightL_iff.2 hR]; rfl), (show errL N = 0 from by rw [show errL N = if rightL N then 0 else 1 from by with_unfolding_all rfl, rightL_iff.2 hR]; rfl), hM] at hme
  obtain ⟨A, hA⟩ : ∃ A, A = (runS N 0 (List.replicate M 0)).1 := ⟨_, rfl⟩
  have hAR : RightI A := by rw [hA]; exact runS_right _ _ hR
  have hAs : A.sets = S := by rw [hA, hS]; exact (runS_sets _ _ _).1
  have hAf : FitL A := FitL.of hfit hAR (hAs.trans hS)
  have hA0 : A.left.sum = 0 := by
    rw [hA, ← roundL_one, ← hNa]; exact rounds_end M 0 hR hB (by omega)
  have hcn : (runS N 0 (List.replicate M 0)).2 = (M : Int) := by
    have := (runS_sum (List.replicate M 0) 0 hR).1
    rw [← hA, hA0, hM] at this
    omega
  have hrlen : (List.replicate M (0 : Int)).length ≤ 20000 := by rw [List.length_replicate]; omega
  have hrun := fun u u' => run_spec u u' N (List.replicate M 0) hfit (by omega)
  rw [(run_is hRb hrlen).1, (run_is hRb hrlen).2.2, show cntL N (List.replicate M 0) = (M : Int) from by rw [(run_is hRb hrlen).2.1, ← hcn, leftS_len]; omega, ← hA] at hrun
  have hAd := done_all hAR hA0
  rw [hAs] at hAd
  have hAi : ∀ i (h : i < A.done.length), A.done[i] = (i : Int) := by
    obtain ⟨d, hd⟩ := runS_one (List.replicate M 0) 0 hone
    rw [← hA] at hd
    intro i h
    have e := hd.o
    simp only [e, List.getElem_map, List.getElem_range]
  clear hA hcn
  have hAl : A.left.length = S.length := by rw [← hAs]; exact hAR.sl
  have hnw := fun u u' => Fn.givenLot (new_spec u u' S A.left 1 (by omega) hf6 (by omega))
  have hXs : S.length ≠ 0 → errN S A.left 1 = 1 ∧ (newL S A.left 1).sets.length = 0 := fun h => by
    have hno : okN S A.left 1 = false := by
      cases ho : okN S A.left 1 with
      | false => rfl
      | true =>
        have h1 := (okN_iff.1 ho).2.2.2.2
        have h2 := sum_zero hAR.lb (by omega)
        have hm : A.left[0]'(by omega) ∈ A.left := List.getElem_mem _
        have := h1 _ hm
        have := h2 _ hm
        omega
    rw [show errN S A.left 1 = if okN S A.left 1 then 0 else 1 from by with_unfolding_all rfl, new_bad hno, hno]
    exact ⟨rfl, rfl⟩
  generalize newL S A.left 1 = X at hnw hXs
  have hwd := fun u u' => Fn.givenLot (new_spec u u' S N.left 20 (by omega) hf6 (by have := hR.sl; rw [← hS] at this; omega))
  rw [show errN S N.left 20 = 0 from by rw [show errN S N.left 20 = if okN S N.left 20 then 0 else 1 from by with_unfolding_all rfl, hok20]; rfl] at hwd
  have hYb : (newL S N.left 20).begun.length = S.length := by rw [(new_right hok20).sb, (new_parts hok20).1]
  have hYi : ∀ i, i < S.length → (newL S N.left 20).begun.getD i false = decide (levG S i = 0) := fun i hi => wide_begun hok20 (by omega) hi
  generalize newL S N.left 20 = Y at hwd hYb hYi
  have hlv := fun u => (rlevels_spec u S (by omega) hf6).givenT
  rw [show levelsR S = levelsI S from by rw [show levelsR S = if mayG S then levelsI S else [] from by with_unfolding_all rfl, hmayS]; rfl] at hlv
  have hLl : (levelsI S).length = S.length := by simp [levelsI]
  have hLi : ∀ i (h : i < (levelsI S).length), (levelsI S)[i] = (levG S i : Int) := fun i h => by simp [levelsI]
  generalize levelsI S = V at hlv hLl hLi
  refine Fn.enter Tryz.func5 rfl Tryz.ntmps5 (by simp) (fun I0 w0 => ?_)
  repeat (first | refine stp ?_ | (refine sti ?_; intro _) | refine stf ?_ | (refine stb ?_; intro _))
  refine o_callV rfl rfl rfl rfl nawake_spec rfl ?_
  repeat (first | refine stp ?_ | (refine sti ?_; intro _) | refine stf ?_ | (refine stb ?_; intro _))
  refine OpK.call rfl rfl rfl rfl (hlot) inferInstance (Mr := _) (List.Perm.refl _) ?_
  rintro vN Φ' Mc' ⟨_, rfl, rfl, rfl⟩
  dsimp only [List.cons_append, List.nil_append]
  refine G.lot vN N ?_
  intro n1 nc1 n2 nc2 n3 nc3 n4 nc4 n5 nc5 e
  subst e
  rw [← hS]
  repeat (first | refine stp ?_ | (refine sti ?_; intro _) | refine stf ?_ | (refine stb ?_; intro _))
  rename_i b6
  refine o_callV rfl rfl rfl rfl (hme _) rfl ?_
  repeat (first | refine stp ?_ | (refine sti ?_; intro _) | refine stf ?_ | (refine stb ?_; intro _))
  refine W.drawX 11 (fun D c => (b6, Ob [.slice n1 S.length nc1, .slice n2 N.left.length nc2, .slice n3 N.at_.length nc3, .slice n4 N.begun.length nc4, .slice n5 N.done.length nc5] 28) :: ((bif D 8 then [(pb (c 8), Ob (bif D 9 then [.slice (la 0 (c 3)) A.sets.length (lc 0 (c 3)), .slice (la 1 (c 3)) A.left.length (lc 1 (c 3)), .slice (la 2 (c 3)) A.at_.length (lc 2 (c 3)), .slice (la 3 (c 3)) A.begun.length (lc 3 (c 3)), .slice (la 4 (c 3)) A.done.length (lc 4 (c 3))] else [.slice none 0 0, .slice none 0 0, .slice none 0 0, .slice none 0 0, .slice none 0 0]) 28)] else []) ++ [])) [⟨?v0_1, fun _ z => []⟩, ⟨?v1_1, fun _ z => []⟩, ⟨fun _ z => z, fun _ z => [fRp z (List.replicate M (0 : Int))]⟩, ⟨fun c z => .tuple #[.agg #[.slice (la 0 z) A.sets.length (lc 0 z), .slice (la 1 z) A.left.length (lc 1 z), .slice (la 2 z) A.at_.length (lc 2 z), .slice (la 3 z) A.begun.length (lc 3 z), .slice (la 4 z) A.done.length (lc 4 z)], .int .i64 (M : Nat), .int .i64 0], fun _ z => [fRp (.agg #[.slice (la 0 z) A.sets.length (lc 0 z), .slice (la 1 z) A.left.length (lc 1 z), .slice (la 2 z) A.at_.length (lc 2 z), .slice (la 3 z) A.begun.length (lc 3 z), .slice (la 4 z) A.done.length (lc 4 z)]) A]⟩, ⟨?v4_1, fun _ z => []⟩, ⟨?v5_1, fun _ z => []⟩, ⟨?v6_1, fun _ z => []⟩, ⟨?v7_1, fun _ z => []⟩, ⟨fun _ z => .pointer (some ⟨pb z, 0, none⟩), fun _ z => []⟩, ⟨fun _ z => z, fun _ z => []⟩, ⟨?v10_1, fun _ z => []⟩] [[], [], [1], [0, 2], [3], [3, 4], [3, 4], [3, 4], [], [5, 8], [6]] [3, 7, 8, 10] (by kernel_rfl) (by kernel_rfl) (by kernel_rfl) (by kernel_rfl) ?loc_1 ?hz_1 ?ops_1 ?rest_1
  case ops_1 =>
    simp only [AllX, Nat.reduceAdd, and_true]
    refine ⟨?_, ?_, ?_, ?_, ?_, ?_, ?_, ?_, ?_, ?_, ?_⟩
    all_goals (intro D c z0 Φr Lr K hDi hAnc hDn hK; dsimp only [dstOf, dstX, putX, kval, kfac, ancE, ancX, ancF, getD_z, getD_s, List.getElem?_cons_zero, List.getElem?_cons_succ, List.getElem?_nil, Option.getD_some, Option.getD_none, List.nil_append, List.cons_append, Option.getD] at hK ⊢)
    · (first | refine stp ?_ | refine stf ?_); exact hK z0
    · refine stp ?_; exact hK z0
    · refine o_makeG M (0 : Int) rfl rfl rfl rfl rfl rfl ⟨by omega, by omega, by omega⟩ rfl (fun _ => rfl) ?_; intro u; exact hK _
    · have hst : D 9 = false := dnF hDn hDi (by kernel_rfl); simp only [updD, updC, hDi, hst, Nat.reduceEqDiff, ↓reduceIte, cond_true, cond_false, List.nil_append, List.cons_append] at hK ⊢; refine OpK.call rfl rfl rfl rfl (hrun _ _) inferInstance (Mr := _) (List.Perm.refl _) ?_; rintro u Φ' Mc' ⟨v', rfl, rfl, rfl⟩; dsimp only [List.cons_append, List.nil_append]; refine G.lot v' A ?_; intro a10 c10 a20 c20 a30 c30 a40 c40 a50 c50 e; subst e; refine G.weaken (hK (.agg #[.slice a10 0 c10, .slice a20 0 c20, .slice a30 0 c30, .slice a40 0 c40, .slice a50 0 c50])) (fun φ hφ => .tail _ (.tail _ (.tail _ (.tail _ (.tail _ hφ))))) (fun _ _ h => h) (List.Sublist.refl _)
    iterate 4 (refine stp ?_; exact hK z0)
    · have hst : D 9 = false := dnF hDn hDi (by kernel_rfl); simp only [updD, updC, hDi, hst, Nat.reduceEqDiff, ↓reduceIte, cond_true, cond_false, List.nil_append, List.cons_append] at hK ⊢; refine o_alloc rfl rfl ?_; intro b; refine G.perm (hK (.pointer (some ⟨b, 0, none⟩))) ?_; exact (List.perm_middle (l₁ := [_])).symm
    · have hal : D 8 = true := hAnc 8 (by kernel_rfl); simp only [updD, updC, hDi, hal, Nat.reduceEqDiff, ↓reduceIte, cond_true, cond_false, List.nil_append, List.cons_append] at hK ⊢; refine stp ?_; exact hK z0
    · refine stp ?_; exact hK z0
  case hz_1 => intro c; rfl
  case loc_1 =>
    simp only [AllL, Nat.reduceAdd, and_true]
    refine ⟨?_, ?_, ?_, ?_, ?_, ?_, ?_, ?_, ?_, ?_, ?_⟩
    · exact fun _ _ _ _ => ⟨rfl, rfl⟩
    · exact fun _ _ _ _ => ⟨rfl, rfl⟩
    · exact fun _ _ _ _ => ⟨rfl, rfl⟩
    · exact fun _ _ _ _ => ⟨rfl, rfl⟩
    · intro c c' z h; simp only [getD_s, getD_z, h 3 (by kernel_rfl), and_self]
    · intro c c' z h; simp only [getD_s, getD_z, h 3 (by kernel_rfl), and_self]
    · intro c c' z h; simp only [getD_s, getD_z, h 3 (by kernel_rfl), and_self]
    · intro c c' z h; simp only [getD_s, getD_z, h 3 (by kernel_rfl), and_self]
    · exact fun _ _ _ _ => ⟨rfl, rfl⟩
    · exact fun _ _ _ _ => ⟨rfl, rfl⟩
    · exact fun _ _ _ _ => ⟨rfl, rfl⟩
  intro c
  dsimp only [dstOf, dstX, putX, kval, kfac, ancE, ancX,  ancF, getD_z, getD_s, List.getElem?_cons_zero, List.getElem?_cons_succ, List.getElem?_nil, Option.getD_some, Option.getD_none, List.nil_append, List.cons_append, List.drop_succ_cons, List.drop_zero, Option.getD]
  show LW _ _ _ _ _ _ ((b6, Ob [.slice n1 S.length nc1, .slice n2 N.left.length nc2, .slice n3 N.at_.length nc3, .slice n4 N.begun.length nc4, .slice n5 N.done.length nc5] 28) :: (pb (c 8), Ob [.slice (la 0 (c 3)) A.sets.length (lc 0 (c 3)), .slice (la 1 (c 3)) A.left.length (lc 1 (c 3)), .slice (la 2 (c 3)) A.at_.length (lc 2 (c 3)), .slice (la 3 (c 3)) A.begun.length (lc 3 (c 3)), .slice (la 4 (c 3)) A.done.length (lc 4 (c 3))] 28) :: ([]))
  generalize pb (c 8) = b9
  generalize la 0 (c 3) = x1
  generalize lc 0 (c 3) = xc1
  generalize la 1 (c 3) = x2
  generalize lc 1 (c 3) = xc2
  generalize la 2 (c 3) = x3
  generalize lc 2 (c 3) = xc3
  generalize la 3 (c 3) = x4
  generalize lc 3 (c 3) = xc4
  generalize la 4 (c 3) = x5
  generalize lc 4 (c 3) = xc5
  refine LW.bare (G.lotp (a1 := x1) (c1 := xc1) (a2 := x2) (c2 := xc2) (a3 := x3) (c3 := xc3) (a4 := x4) (c4 := xc4) (a5 := x5) (c5 := xc5) A ?_)
  refine LW.back ?_
  repeat (first | refine stp ?_ | (refine sti ?_; intro _) | refine stf ?_ | (refine stb ?_; intro _))
  refine OpK.call rfl rfl rfl rfl (hnw _ _) inferInstance (Mr := _) (List.Perm.refl _) ?_
  rintro u Φ' Mc' ⟨vX, rfl, rfl, rfl⟩
  dsimp only [List.cons_append, List.nil_append]
  refine G.lot vX X ?_
  intro y1 yc1 y2 yc2 y3 yc3 y4 yc4 y5 yc5 e
  subst e
  repeat (first | refine stp ?_ | (refine sti ?_; intro _) | refine stf ?_ | (refine stb ?_; intro _))
  rename_i b12
  refine OpK.call rfl rfl rfl rfl (hwd _ _) inferInstance (Mr := _) (List.Perm.refl _) ?_
  rintro u Φ' Mc' ⟨vY, rfl, rfl, rfl⟩
  dsimp only [List.cons_append, List.nil_append]
  refine G.lot vY Y ?_
  intro z1 zc1 z2 zc2 z3 zc3 z4 zc4 z5 zc5 e
  subst e
  repeat (first | refine stp ?_ | (refine sti ?_; intro _) | refine stf ?_ | (refine stb ?_; intro _))
  rename_i b14
  refine o_callT (mk := tupE (errG S)) (ψ := fun sv => fRp sv V) rfl rfl rfl rfl (hlv _) ?_
  intro v16
  unfold tupE
  repeat (first | refine stp ?_ | (refine sti ?_; intro _) | refine stf ?_ | (refine stb ?_; intro _))
  refine W.loopI (fun (i : Nat) => ([fRp (.agg #[.slice n1 S.length nc1, .slice n2 N.left.length nc2, .slice n3 N.at_.length nc3, .slice n4 N.begun.length nc4, .slice n5 N.done.length nc5]) N, fRp (.slice n1 S.length nc1) S, fRp (.slice n2 N.left.length nc2) N.left, fRp (.slice n3 N.at_.length nc3) N.at_, fRp (.slice n4 N.begun.length nc4) N.begun, fRp (.slice n5 N.done.length nc5) N.done, fRp (.agg #[.slice x1 A.sets.length xc1, .slice x2 A.left.length xc2, .slice x3 A.at_.length xc3, .slice x4 A.begun.length xc4, .slice x5 A.done.length xc5]) A, fRp (.slice x1 A.sets.length xc1) A.sets, fRp (.slice x2 A.left.length xc2) A.left, fRp (.slice x3 A.at_.length xc3) A.at_, fRp (.slice x4 A.begun.length xc4) A.begun, fRp (.slice x5 A.done.length xc5) A.done, fRp (.agg #[.slice y1 X.sets.length yc1, .slice y2 X.left.length yc2, .slice y3 X.at_.length yc3, .slice y4 X.begun.length yc4, .slice y5 X.done.length yc5]) X, fRp (.slice y1 X.sets.length yc1) X.sets, fRp (.slice y2 X.left.length yc2) X.left, fRp (.slice y3 X.at_.length yc3) X.at_, fRp (.slice y4 X.begun.length yc4) X.begun, fRp (.slice y5 X.done.length yc5) X.done, fRp (.agg #[.slice z1 Y.sets.length zc1, .slice z2 Y.left.length zc2, .slice z3 Y.at_.length zc3, .slice z4 Y.begun.length zc4, .slice z5 Y.done.length zc5]) Y, fRp (.slice z1 Y.sets.length zc1) Y.sets, fRp (.slice z2 Y.left.length zc2) Y.left, fRp (.slice z3 Y.at_.length zc3) Y.at_, fRp (.slice z4 Y.begun.length zc4) Y.begun, fRp (.slice z5 Y.done.length zc5) Y.done, fRp v16 V], [(5, .bool true), (6, .pointer (some ⟨b6, 0, none⟩)), (9, .pointer (some ⟨b9, 0, none⟩)), (12, .pointer (some ⟨b12, 0, none⟩)), (13, .int .i64 (errN S A.left 1)), (14, .pointer (some ⟨b14, 0, none⟩)), (16, v16), (18, .int .i64 i)], [(b14, Ob [.slice z1 Y.sets.length zc1, .slice z2 Y.left.length zc2, .slice z3 Y.at_.length zc3, .slice z4 Y.begun.length zc4, .slice z5 Y.done.length zc5] 28), (b12, Ob [.slice y1 X.sets.length yc1, .slice y2 X.left.length yc2, .slice y3 X.at_.length yc3, .slice y4 X.begun.length yc4, .slice y5 X.done.length yc5] 28), (b6, Ob [.slice n1 S.length nc1, .slice n2 N.left.length nc2, .slice n3 N.at_.length nc3, .slice n4 N.begun.length nc4, .slice n5 N.done.length nc5] 28), (b9, Ob [.slice x1 A.sets.length xc1, .slice x2 A.left.length xc2, .slice x3 A.at_.length xc3, .slice x4 A.begun.length xc4, .slice x5 A.done.length xc5] 28)])) (fun i => i ≤ A.done.length) (fun i => A.done.length - i) 0 (Nat.zero_le _) (by (try dsimp only); repeat (first | exact Ents.nil | refine Ents.cons (a := inferInstance) (b := ?_))) (look_sub_cons rfl (look_sub_cons rfl (look_sub_cons rfl (look_sub_cons rfl (look_sub_cons rfl (look_sub_cons rfl (look_sub_cons rfl (look_sub_cons rfl look_sub_nil)))))))) (List.Sublist.refl _) ?_
  intro i hi
  dsimp only
  by_cases hi0 : i = A.done.length
  · subst hi0
    by_cases h0 : S.length = 0
    · repeat (first | refine stp ?_ | (refine sti ?_; intro _) | refine stf ?_ | (refine stb ?_; intro _))
      refine G.ret rfl (.cons (.tmp rfl) .nil) (Φ' := []) (M' := []) inferInstance (List.nil_sublist _) ⟨?_, rfl, rfl⟩
      rfl
    · obtain ⟨hx1, hx2⟩ := hXs h0
      rw [hx1]
      repeat (first | refine stp ?_ | (refine sti ?_; intro _) | refine stf ?_ | (refine stb ?_; intro _))
      refine G.ret rfl (.cons (.tmp rfl) .nil) (Φ' := []) (M' := []) inferInstance (List.nil_sublist _) ⟨?_, rfl, rfl⟩
      rfl
  have hi1 : i < A.done.length := by omega
  have hi2 : i < Y.begun.length := by omega
  have hi3 : i < V.length := by omega
  have hdi := hAi i hi1
  have hvi := hLi i hi3
  have hyi := hYi i (by omega)
  rw [getD_at Y.begun false hi2] at hyi
  repeat (first | refine stp ?_ | (refine sti ?_; intro _) | refine stf ?_ | (refine stb ?_; intro _))
  by_cases hl0 : levG S i = 0
  · rw [decide_eq_true hl0] at hyi
    refine W.draw 20 [⟨?v0_2, fun _ z => []⟩, ⟨?v1_2, fun _ z => []⟩, ⟨?v2_2, fun _ z => []⟩, ⟨fun _ z => z, fun _ z => [fPt z A.done[i]]⟩, ⟨?v4_2, fun _ z => []⟩, ⟨?v5_2, fun _ z => []⟩, ⟨?v6_2, fun _ z => []⟩, ⟨?v7_2, fun _ z => []⟩, ⟨?v8_2, fun _ z => []⟩, ⟨?v9_2, fun _ z => []⟩, ⟨?v10_2, fun _ z => []⟩, ⟨fun _ z => z, fun _ z => [fPt z true]⟩, ⟨?v12_2, fun _ z => []⟩, ⟨?v13_2, fun _ z => []⟩, ⟨?v14_2, fun _ z => []⟩, ⟨fun _ z => z, fun _ z => [fPt z V[i]]⟩, ⟨?v16_2, fun _ z => []⟩, ⟨?v17_2, fun _ z => []⟩, ⟨?v18_2, fun _ z => []⟩, ⟨?v19_2, fun _ z => []⟩] [[], [0], [], [1, 2], [3], [], [4, 5], [6], [7], [7, 8], [7], [7, 9, 10], [7, 11], [7], [7], [7, 13, 14], [7, 15], [7, 16], [7, 12, 17], [7, 18]] [19] (by kernel_rfl) (by kernel_rfl) (by kernel_rfl) (by kernel_rfl) ?loc_2 ?ops_2 ?rest_2
    case ops_2 =>
      simp only [AllQ, Nat.reduceAdd, and_true]
      refine ⟨?_, ?_, ?_, ?_, ?_, ?_, ?_, ?_, ?_, ?_, ?_, ?_, ?_, ?_, ?_, ?_, ?_, ?_, ?_, ?_⟩
      all_goals (intro c z0 Φr Lr K hK; dsimp only [dstOf, kval, kfac, ancE, ancF, getD_z, getD_s, List.getElem?_cons_zero, List.getElem?_cons_succ, List.getElem?_nil, Option.getD_some, Option.getD_none, List.nil_append, List.cons_append, Option.getD] at hK ⊢)
      iterate 3 ((first | refine stp ?_ | refine stf ?_); exact hK z0)
      · refine o_idxN i rfl rfl rfl rfl rfl hi1 ?_; intro p; exact hK _
      iterate 7 ((first | refine stp ?_ | refine stf ?_); exact hK z0)
      · refine o_idxN i rfl rfl rfl rfl rfl hi2 ?_; intro p; rw [hyi]; exact hK _
      iterate 3 ((first | refine stp ?_ | refine stf ?_); exact hK z0)
      · refine o_idxN i rfl rfl rfl rfl rfl hi3 ?_; intro p; exact hK _
      · (first | refine stp ?_ | refine stf ?_); exact hK z0
      · refine stp ?_; exact hK z0
      · refine o_neq rfl rfl rfl rfl (r := false) (by simp) ?_; exact hK z0
      · refine stp ?_; exact hK z0
    case loc_2 =>
      simp only [AllL, Nat.reduceAdd, and_true]
      refine ⟨?_, ?_, ?_, ?_, ?_, ?_, ?_, ?_, ?_, ?_, ?_, ?_, ?_, ?_, ?_, ?_, ?_, ?_, ?_, ?_⟩
      all_goals (intro c c' z h; first | exact ⟨rfl, rfl⟩ | (skip))
    intro c
    dsimp only [dstOf, kval, kfac, ancE,  ancF, getD_z, getD_s, List.getElem?_cons_zero, List.getElem?_cons_succ, List.getElem?_nil, Option.getD_some, Option.getD_none, List.nil_append, List.cons_append, List.drop_succ_cons, List.drop_zero, Option.getD]
    repeat (first | refine stp ?_ | (refine sti ?_; intro _) | refine stf ?_ | (refine stb ?_; intro _))
    exact G.again (S := Nat) (i + 1) (by omega) hi1 (by (try dsimp only); repeat (first | exact Ents.nil | refine Ents.cons (a := inferInstance) (b := ?_))) (look_sub_cons rfl (look_sub_cons rfl (look_sub_cons rfl (look_sub_cons rfl (look_sub_cons rfl (look_sub_cons rfl (look_sub_cons rfl (look_sub_cons rfl look_sub_nil)))))))) (List.Sublist.refl _)
  · rw [decide_eq_false hl0] at hyi
    refine W.draw 20 [⟨?v0_3, fun _ z => []⟩, ⟨?v1_3, fun _ z => []⟩, ⟨?v2_3, fun _ z => []⟩, ⟨fun _ z => z, fun _ z => [fPt z A.done[i]]⟩, ⟨?v4_3, fun _ z => []⟩, ⟨?v5_3, fun _ z => []⟩, ⟨?v6_3, fun _ z => []⟩, ⟨?v7_3, fun _ z => []⟩, ⟨?v8_3, fun _ z => []⟩, ⟨?v9_3, fun _ z => []⟩, ⟨?v10_3, fun _ z => []⟩, ⟨fun _ z => z, fun _ z => [fPt z false]⟩, ⟨?v12_3, fun _ z => []⟩, ⟨?v13_3, fun _ z => []⟩, ⟨?v14_3, fun _ z => []⟩, ⟨fun _ z => z, fun _ z => [fPt z V[i]]⟩, ⟨?v16_3, fun _ z => []⟩, ⟨?v17_3, fun _ z => []⟩, ⟨?v18_3, fun _ z => []⟩, ⟨?v19_3, fun _ z => []⟩] [[], [0], [], [1, 2], [3], [], [4, 5], [6], [7], [7, 8], [7], [7, 9, 10], [7, 11], [7], [7], [7, 13, 14], [7, 15], [7, 16], [7, 12, 17], [7, 18]] [19] (by kernel_rfl) (by kernel_rfl) (by kernel_rfl) (by kernel_rfl) ?loc_3 ?ops_3 ?rest_3
    case ops_3 =>
      simp only [AllQ, Nat.reduceAdd, and_true]
      refine ⟨?_, ?_, ?_, ?_, ?_, ?_, ?_, ?_, ?_, ?_, ?_, ?_, ?_, ?_, ?_, ?_, ?_, ?_, ?_, ?_⟩
      all_goals (intro c z0 Φr Lr K hK; dsimp only [dstOf, kval, kfac, ancE, ancF, getD_z, getD_s, List.getElem?_cons_zero, List.getElem?_cons_succ, List.getElem?_nil, Option.getD_some, Option.getD_none, List.nil_append, List.cons_append, Option.getD] at hK ⊢)
      iterate 3 ((first | refine stp ?_ | refine stf ?_); exact hK z0)
      · refine o_idxN i rfl rfl rfl rfl rfl hi1 ?_; intro p; exact hK _
      iterate 7 ((first | refine stp ?_ | refine stf ?_); exact hK z0)
      · refine o_idxN i rfl rfl rfl rfl rfl hi2 ?_; intro p; rw [hyi]; exact hK _
      iterate 3 ((first | refine stp ?_ | refine stf ?_); exact hK z0)
      · refine o_idxN i rfl rfl rfl rfl rfl hi3 ?_; intro p; exact hK _
      · (first | refine stp ?_ | refine stf ?_); exact hK z0
      · refine stp ?_; exact hK z0
      · refine o_neq rfl rfl rfl rfl (r := false) (by simp) ?_; exact hK z0
      · refine stp ?_; exact hK z0
    case loc_3 =>
      simp only [AllL, Nat.reduceAdd, and_true]
      refine ⟨?_, ?_, ?_, ?_, ?_, ?_, ?_, ?_, ?_, ?_, ?_, ?_, ?_, ?_, ?_, ?_, ?_, ?_, ?_, ?_⟩
      all_goals (intro c c' z h; first | exact ⟨rfl, rfl⟩ | (skip))
    intro c
    dsimp only [dstOf, kval, kfac, ancE,  ancF, getD_z, getD_s, List.getElem?_cons_zero, List.getElem?_cons_succ, List.getElem?_nil, Option.getD_some, Option.getD_none, List.nil_append, List.cons_append, List.drop_succ_cons, List.drop_zero, Option.getD]
    repeat (first | refine stp ?_ | (refine sti ?_; intro _) | refine stf ?_ | (refine stb ?_; intro _))
    exact G.again (S := Nat) (i + 1) (by omega) hi1 (by (try dsimp only); repeat (first | exact Ents.nil | refine Ents.cons (a := inferInstance) (b := ?_))) (look_sub_cons rfl (look_sub_cons rfl (look_sub_cons rfl (look_sub_cons rfl (look_sub_cons rfl (look_sub_cons rfl (look_sub_cons rfl (look_sub_cons rfl look_sub_nil)))))))) (List.Sublist.refl _)
end Go.Rail
