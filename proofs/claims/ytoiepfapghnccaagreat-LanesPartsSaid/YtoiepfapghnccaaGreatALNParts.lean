/- The law of parts, walked. -/
import Derived.Test.YtoiepfapghnccaaGreatANL
import Derived.Test.YtoiepfapghnccaaGreatANA
import Derived.Test.YtoiepfapghnccaaGreatRailE
namespace Go.Rail
open Go Go.Proofs
set_option linter.unusedSimpArgs false
set_option linter.unusedVariables false
set_option maxHeartbeats 400000
set_option maxRecDepth 4000
attribute [local irreducible] OpK G W LW wpListIn Exit.then Exit.inBlock Post rounds opRun bodyPostM intOp
attribute [local irreducible] lexN cmpW cmpA cmpK cmpI makeS setK clashS rightS errG edgesR errR readyR ordG badM mayG edgesG edgesI clG rightL donesL heldL shapeL idxG idleR fillLot pickL noP newL runL cntL errRun isR errL measureL idlesL errN pickR sameLot pickN rawG lotL lot0 runS leftS
structure PaSt where
  i : Nat
  v : Value
  o : OR
structure PtSt where
  i : Nat
  v : Value
  o : OR
  a1 : Option Addr
  ac1 : Nat
  a2 : Option Addr
  ac2 : Nat
  a3 : Option Addr
  ac3 : Nat
  a4 : Option Addr
  ac4 : Nat
  a5 : Option Addr
  ac5 : Nat

theorem take60 {picks : List Int} {i : Nat} (h : i = picks.length ∨ i = 60) (hi : i ≤ 60) : picks.take i = picks.take 60 := by
  rcases h with h | h
  · rw [h, List.take_length, List.take_of_length_le (by omega)]
  · rw [h]
def nowL (N : Lot) (q : List Int) (i : Nat) : Lot := (runS N 0 (q.take i)).1
theorem nowL_zero (N : Lot) (q : List Int) : nowL N q 0 = N := by unfold nowL; rw [List.take_zero]; with_unfolding_all rfl
set_option maxHeartbeats 8000000 in
theorem nparts_walk (v0 v1 v3 : Value) (raws : List RawS) (costs picks : List Int) (w : Int) (at_ : Int) (hr : okRaws raws) (hc : costs.length ≤ 4611686018427387904 ∧ ∀ x ∈ costs, InR x) (hw : InR w) (hp : picks.length ≤ 4611686018427387904 ∧ ∀ x ∈ picks, InR x) (hat : InR at_) : FnV Tryz.prog 6 [v0, v1, .int .i64 w, v3, .int .i64 at_] [fRp v0 raws, fRp v1 costs, fRp v3 picks] (.bool true) := by
  have hR : RightI (lotL raws costs w []) := lotL_right raws costs w []
  have hB : FillB (lotL raws costs w []) := lotL_busy raws costs w []
  have hfit : FitL (lotL raws costs w []) := lotL_fit raws costs w []
  have hNs := (lotL_sets raws costs w []).1
  have hNa := (lotL_sets raws costs w []).2
  have hwl := pickN_lt w (n := 5) (by decide)
  have hrl := rawG_len raws
  have hlot := lot_spec v0 v1 (.slice none 0 0) raws costs [] w hr hc hw ⟨by decide, fun x hx => by cases hx⟩
  generalize lotL raws costs w [] = N at hR hB hfit hlot hNs hNa
  have hRb := rightL_iff.2 hR
  obtain ⟨hp1, hp2⟩ := hp
  refine Fn.enter Tryz.func6 rfl Tryz.ntmps6 (by simp) (fun I0 w0 => ?_)
  repeat (first | refine stp ?_ | (refine sti ?_; intro _) | refine stf ?_ | (refine stb ?_; intro _))
  refine o_callV rfl rfl rfl rfl nawake_spec rfl ?_
  repeat (first | refine stp ?_ | (refine sti ?_; intro _) | refine stf ?_ | (refine stb ?_; intro _))
  refine OpK.call rfl rfl rfl rfl (hlot) inferInstance (Mr := _) (List.Perm.refl _) ?_
  rintro vN Φ' Mc' ⟨_, rfl, rfl, rfl⟩
  dsimp only [List.cons_append, List.nil_append]
  refine G.lot vN N ?_
  intro n1 nc1 n2 nc2 n3 nc3 n4 nc4 n5 nc5 e
  subst e
  repeat (first | refine stp ?_ | (refine sti ?_; intro _) | refine stf ?_ | (refine stb ?_; intro _))
  rename_i b12
  refine W.loopI (fun (s : PaSt) => ([fRow (ocells s.o) (picks.take s.i), fRp (.agg #[.slice n1 N.sets.length nc1, .slice n2 N.left.length nc2, .slice n3 N.at_.length nc3, .slice n4 N.begun.length nc4, .slice n5 N.done.length nc5]) N, fRp (.slice n1 N.sets.length nc1) N.sets, fRp (.slice n2 N.left.length nc2) N.left, fRp (.slice n3 N.at_.length nc3) N.at_, fRp (.slice n4 N.begun.length nc4) N.begun, fRp (.slice n5 N.done.length nc5) N.done, fRp v3 picks], [(3, v3), (4, .int .i64 at_), (11, .bool true), (12, .pointer (some ⟨b12, 0, none⟩)), (13, s.v), (14, .int .i64 s.i)], (b12, Ob [.slice n1 N.sets.length nc1, .slice n2 N.left.length nc2, .slice n3 N.at_.length nc3, .slice n4 N.begun.length nc4, .slice n5 N.done.length nc5] 28) :: ownM 3 s.o)) (fun s => s.i ≤ picks.length ∧ s.i ≤ 60 ∧ IsOwn 1 s.v (picks.take s.i).length s.o) (fun s => picks.length - s.i) ⟨0, .slice none 0 0, none⟩ ⟨Nat.zero_le _, by decide, ⟨rfl, rfl⟩⟩ (show Ents _ [fRow ([] : List Value) ([] : List Int), fRp (.agg #[.slice n1 N.sets.length nc1, .slice n2 N.left.length nc2, .slice n3 N.at_.length nc3, .slice n4 N.begun.length nc4, .slice n5 N.done.length nc5]) N, fRp (.slice n1 N.sets.length nc1) N.sets, fRp (.slice n2 N.left.length nc2) N.left, fRp (.slice n3 N.at_.length nc3) N.at_, fRp (.slice n4 N.begun.length nc4) N.begun, fRp (.slice n5 N.done.length nc5) N.done, fRp v3 picks] from inferInstance) (look_sub_cons rfl (look_sub_cons rfl (look_sub_cons rfl (look_sub_cons rfl (look_sub_cons rfl (look_sub_cons rfl look_sub_nil)))))) (List.Sublist.refl _) ?_
  rintro ⟨i, v13, o⟩ ⟨hi, hi60, hown⟩
  dsimp only at hi hi60 hown ⊢
  have htl : (picks.take i).length = i := by rw [List.length_take]; omega
  by_cases hend : i = picks.length ∨ i = 60
  case neg =>
    have hi1 : i < picks.length := by omega
    have hi2 : i < 60 := by omega
    have hsu : picks.take i ++ [picks[i]] = picks.take (i + 1) := (List.take_succ_eq_append_getElem hi1).symm
    repeat (first | refine stp ?_ | (refine sti ?_; intro _) | refine stf ?_ | (refine stb ?_; intro _))
    refine o_lit (xs := [picks[i]]) ⟨by decide, rfl, by decide⟩ rfl rfl rfl ⟨fun _ _ => Rp.flat.2 rfl, trivial⟩ rfl ?_
    intro lv
    repeat (first | refine stp ?_ | (refine sti ?_; intro _) | refine stf ?_ | (refine stb ?_; intro _))
    refine o_app2 (Mr := [_]) o (xs := picks.take i) (ys := [picks[i]]) hown ⟨by simp; omega, by simp; omega, rfl⟩ rfl rfl rfl rfl inferInstance inferInstance (List.Perm.refl _) ?_
    intro v' o' hown'
    rw [hsu] at hown' ⊢
    dsimp only [List.cons_append, List.nil_append]
    repeat (first | refine stp ?_ | (refine sti ?_; intro _) | refine stf ?_ | (refine stb ?_; intro _))
    exact G.again (S := PaSt) ⟨i + 1, v', o'⟩ (by dsimp only; omega) ⟨hi1, hi2, hown'⟩ inferInstance (look_sub_cons rfl (look_sub_cons rfl (look_sub_cons rfl (look_sub_cons rfl (look_sub_cons rfl (look_sub_cons rfl look_sub_nil)))))) (List.Sublist.refl _)
  have hqe := take60 hend hi60
  refine W.bare (G.giveOwn2 v13 (picks.take i) o 3 (Mr := [_]) hown inferInstance (List.Perm.refl _) ?_)
  refine G.code ?_
  have hql : (picks.take i).length ≤ 60 := by omega
  clear hown hqe htl
  have hq0 : i = picks.length ∨ (i < picks.length ∧ i = 60) := by omega
  generalize picks.take i = q at hql ⊢
  obtain ⟨k, hk⟩ : ∃ k, k = pickN at_ (q.length + 1) := ⟨_, rfl⟩
  have hkl : k ≤ q.length := by
    have := pickN_lt at_ (n := q.length + 1) (by omega)
    omega
  obtain ⟨pt1, pt2⟩ := parts_two N q k
  obtain ⟨pl1, pl2⟩ := left_run N q
  have hqt : (q.take k).length ≤ 60 := by rw [List.length_take]; omega
  have hqd : (q.drop k).length ≤ 60 := by rw [List.length_drop]; omega
  have hls := leftS_short q N
  have hBR : RightI (runS N 0 (q.take k)).1 := runS_right _ _ hR
  have hBf : FitL (runS N 0 (q.take k)).1 := FitL.of hfit hBR (runS_sets _ _ _).1
  have hAf : FitL (runS N 0 q).1 := FitL.of hfit (runS_right _ _ hR) (runS_sets _ _ _).1
  obtain ⟨A, hA⟩ : ∃ A, A = (runS N 0 q).1 := ⟨_, rfl⟩
  have hrunA := fun u u' => run_spec u u' N q hfit (by omega)
  rw [(run_is hRb (ps := q) (by omega)).1, (run_is hRb (ps := q) (by omega)).2.1, (run_is hRb (ps := q) (by omega)).2.2, ← hA] at hrunA
  have hrunB := fun u u' => run_spec u u' N (q.take k) hfit (by omega)
  rw [(run_is hRb (ps := q.take k) (by omega)).1, (run_is hRb (ps := q.take k) (by omega)).2.1, (run_is hRb (ps := q.take k) (by omega)).2.2] at hrunB
  have hrunC := fun u u' => run_spec u u' (runS N 0 (q.take k)).1 (q.drop k) hBf (by omega)
  rw [(run_is (rightL_iff.2 hBR) (ps := q.drop k) (by omega)).1, (run_is (rightL_iff.2 hBR) (ps := q.drop k) (by omega)).2.1, (run_is (rightL_iff.2 hBR) (ps := q.drop k) (by omega)).2.2, pt1, ← hA] at hrunC
  have hrunD := fun u u' => run_spec u u' N (leftS N q) hfit (by omega)
  rw [(run_is hRb (ps := leftS N q) (by omega)).1, (run_is hRb (ps := leftS N q) (by omega)).2.1, (run_is hRb (ps := leftS N q) (by omega)).2.2, pl1, pl2, ← hA] at hrunD
  have hsame := fun u u' => rsame20_spec u u' A A (hA ▸ hAf) (hA ▸ hAf)
  rw [sameLot_self] at hsame
  generalize (runS N 0 (q.take k)).1 = B at hrunB hrunC pt2
  have h00 : leftS N [] = [] := by with_unfolding_all rfl
  obtain ⟨nA, hnA⟩ : ∃ nA, nA = (leftS N q).length := ⟨_, rfl⟩
  rw [← hnA] at hrunA hrunD pt2 hls
  generalize (leftS N (q.take k)).length = mB at hrunB pt2
  generalize (leftS B (q.drop k)).length = oC at hrunC pt2
  rcases hq0 with hi0 | ⟨hi1, h60⟩
  · repeat (first | refine stp ?_ | (refine sti ?_; intro _) | refine stf ?_ | (refine stb ?_; intro _))
    refine o_callV rfl rfl rfl rfl (pick20_spec at_ (q.length + 1) (by omega) (by omega) hat) rfl ?_
    rw [← hk]
    repeat (first | refine stp ?_ | (refine sti ?_; intro _) | refine stf ?_ | (refine stb ?_; intro _))
    refine OpK.call rfl rfl rfl rfl (hrunA _ _) inferInstance (Mr := _) (List.Perm.refl _) ?_
    rintro u Φ' Mc' ⟨vA, rfl, rfl, rfl⟩
    dsimp only [List.cons_append, List.nil_append]
    refine G.lot vA A ?_
    intro x1 xc1 x2 xc2 x3 xc3 x4 xc4 x5 xc5 e
    subst e
    repeat (first | refine stp ?_ | (refine sti ?_; intro _) | refine stf ?_ | (refine stb ?_; intro _))
    rename_i b16
    refine W.drawX 12 (fun D c => (b16, Ob [.slice x1 A.sets.length xc1, .slice x2 A.left.length xc2, .slice x3 A.at_.length xc3, .slice x4 A.begun.length xc4, .slice x5 A.done.length xc5] 28) :: (b12, Ob [.slice n1 N.sets.length nc1, .slice n2 N.left.length nc2, .slice n3 N.at_.length nc3, .slice n4 N.begun.length nc4, .slice n5 N.done.length nc5] 28) :: ((bif D 9 then [(pb (c 9), Ob (bif D 10 then [.slice (la 0 (c 4)) B.sets.length (lc 0 (c 4)), .slice (la 1 (c 4)) B.left.length (lc 1 (c 4)), .slice (la 2 (c 4)) B.at_.length (lc 2 (c 4)), .slice (la 3 (c 4)) B.begun.length (lc 3 (c 4)), .slice (la 4 (c 4)) B.done.length (lc 4 (c 4))] else [.slice none 0 0, .slice none 0 0, .slice none 0 0, .slice none 0 0, .slice none 0 0]) 28)] else []) ++ [])) [⟨?v0_1, fun _ z => []⟩, ⟨?v1_1, fun _ z => []⟩, ⟨?v2_1, fun _ z => []⟩, ⟨fun _ z => z, fun _ z => [fRp z (q.take k)]⟩, ⟨fun c z => .tuple #[.agg #[.slice (la 0 z) B.sets.length (lc 0 z), .slice (la 1 z) B.left.length (lc 1 z), .slice (la 2 z) B.at_.length (lc 2 z), .slice (la 3 z) B.begun.length (lc 3 z), .slice (la 4 z) B.done.length (lc 4 z)], .int .i64 (mB : Nat), .int .i64 0], fun _ z => [fRp (.agg #[.slice (la 0 z) B.sets.length (lc 0 z), .slice (la 1 z) B.left.length (lc 1 z), .slice (la 2 z) B.at_.length (lc 2 z), .slice (la 3 z) B.begun.length (lc 3 z), .slice (la 4 z) B.done.length (lc 4 z)]) B]⟩, ⟨?v5_1, fun _ z => []⟩, ⟨?v6_1, fun _ z => []⟩, ⟨?v7_1, fun _ z => []⟩, ⟨?v8_1, fun _ z => []⟩, ⟨fun _ z => .pointer (some ⟨pb z, 0, none⟩), fun _ z => []⟩, ⟨fun _ z => z, fun _ z => []⟩, ⟨?v11_1, fun _ z => []⟩] [[], [], [], [1, 2], [0, 3], [4], [4, 5], [4, 5], [4, 5], [], [6, 9], [7]] [4, 8, 9, 11] (by kernel_rfl) (by kernel_rfl) (by kernel_rfl) (by kernel_rfl) ?loc_1 ?hz_1 ?ops_1 ?rest_1
    case ops_1 =>
      simp only [AllX, Nat.reduceAdd, and_true]
      refine ⟨?_, ?_, ?_, ?_, ?_, ?_, ?_, ?_, ?_, ?_, ?_, ?_⟩
      all_goals (intro D c z0 Φr Lr K hDi hAnc hDn hK; dsimp only [dstOf, dstX, putX, kval, kfac, ancE, ancX, ancF, getD_z, getD_s, List.getElem?_cons_zero, List.getElem?_cons_succ, List.getElem?_nil, Option.getD_some, Option.getD_none, List.nil_append, List.cons_append, Option.getD] at hK ⊢)
      iterate 3 ((first | refine stp ?_ | refine stf ?_); exact hK z0)
      · refine o_slice (xs := q) 0 k rfl rfl rfl rfl ⟨_, _, rfl, rfl⟩ (Nat.zero_le _) (by omega) ?_; intro z; rw [List.drop_zero]; exact hK _
      · have hst : D 10 = false := dnF hDn hDi (by kernel_rfl); simp only [updD, updC, hDi, hst, Nat.reduceEqDiff, ↓reduceIte, cond_true, cond_false, List.nil_append, List.cons_append] at hK ⊢; refine OpK.call rfl rfl rfl rfl (hrunB _ _) inferInstance (Mr := _) (List.Perm.refl _) ?_; rintro u Φ' Mc' ⟨v', rfl, rfl, rfl⟩; dsimp only [List.cons_append, List.nil_append]; refine G.lot v' B ?_; intro a10 c10 a20 c20 a30 c30 a40 c40 a50 c50 e; subst e; refine G.weaken (hK (.agg #[.slice a10 0 c10, .slice a20 0 c20, .slice a30 0 c30, .slice a40 0 c40, .slice a50 0 c50])) (fun φ hφ => .tail _ (.tail _ (.tail _ (.tail _ (.tail _ hφ))))) (fun _ _ h => h) (List.Sublist.refl _)
      iterate 4 (refine stp ?_; exact hK z0)
      · have hst : D 10 = false := dnF hDn hDi (by kernel_rfl); simp only [updD, updC, hDi, hst, Nat.reduceEqDiff, ↓reduceIte, cond_true, cond_false, List.nil_append, List.cons_append] at hK ⊢; refine o_alloc rfl rfl ?_; intro b; refine G.perm (hK (.pointer (some ⟨b, 0, none⟩))) ?_; exact (List.perm_middle (l₁ := [_, _])).symm
      · have hal : D 9 = true := hAnc 9 (by kernel_rfl); simp only [updD, updC, hDi, hal, Nat.reduceEqDiff, ↓reduceIte, cond_true, cond_false, List.nil_append, List.cons_append] at hK ⊢; refine stp ?_; exact hK z0
      · refine stp ?_; exact hK z0
    case hz_1 => intro c; rfl
    case loc_1 =>
      simp only [AllL, Nat.reduceAdd, and_true]
      refine ⟨?_, ?_, ?_, ?_, ?_, ?_, ?_, ?_, ?_, ?_, ?_, ?_⟩
      · exact fun _ _ _ _ => ⟨rfl, rfl⟩
      · exact fun _ _ _ _ => ⟨rfl, rfl⟩
      · exact fun _ _ _ _ => ⟨rfl, rfl⟩
      · exact fun _ _ _ _ => ⟨rfl, rfl⟩
      · exact fun _ _ _ _ => ⟨rfl, rfl⟩
      · intro c c' z h; simp only [getD_s, getD_z, h 4 (by kernel_rfl), and_self]
      · intro c c' z h; simp only [getD_s, getD_z, h 4 (by kernel_rfl), and_self]
      · intro c c' z h; simp only [getD_s, getD_z, h 4 (by kernel_rfl), and_self]
      · intro c c' z h; simp only [getD_s, getD_z, h 4 (by kernel_rfl), and_self]
      · exact fun _ _ _ _ => ⟨rfl, rfl⟩
      · exact fun _ _ _ _ => ⟨rfl, rfl⟩
      · exact fun _ _ _ _ => ⟨rfl, rfl⟩
    intro c
    dsimp only [dstOf, dstX, putX, kval, kfac, ancE, ancX,  ancF, getD_z, getD_s, List.getElem?_cons_zero, List.getElem?_cons_succ, List.getElem?_nil, Option.getD_some, Option.getD_none, List.nil_append, List.cons_append, List.drop_succ_cons, List.drop_zero, Option.getD]
    show LW _ _ _ _ _ _ ((b16, Ob [.slice x1 A.sets.length xc1, .slice x2 A.left.length xc2, .slice x3 A.at_.length xc3, .slice x4 A.begun.length xc4, .slice x5 A.done.length xc5] 28) :: (b12, Ob [.slice n1 N.sets.length nc1, .slice n2 N.left.length nc2, .slice n3 N.at_.length nc3, .slice n4 N.begun.length nc4, .slice n5 N.done.length nc5] 28) :: (pb (c 9), Ob [.slice (la 0 (c 4)) B.sets.length (lc 0 (c 4)), .slice (la 1 (c 4)) B.left.length (lc 1 (c 4)), .slice (la 2 (c 4)) B.at_.length (lc 2 (c 4)), .slice (la 3 (c 4)) B.begun.length (lc 3 (c 4)), .slice (la 4 (c 4)) B.done.length (lc 4 (c 4))] 28) :: ([]))
    generalize pb (c 9) = b19
    generalize la 0 (c 4) = y1
    generalize lc 0 (c 4) = yc1
    generalize la 1 (c 4) = y2
    generalize lc 1 (c 4) = yc2
    generalize la 2 (c 4) = y3
    generalize lc 2 (c 4) = yc3
    generalize la 3 (c 4) = y4
    generalize lc 3 (c 4) = yc4
    generalize la 4 (c 4) = y5
    generalize lc 4 (c 4) = yc5
    repeat (first | refine stp ?_ | (refine sti ?_; intro _) | refine stf ?_ | (refine stb ?_; intro _))
    refine W.drawX 12 (fun D c => (b16, Ob [.slice x1 A.sets.length xc1, .slice x2 A.left.length xc2, .slice x3 A.at_.length xc3, .slice x4 A.begun.length xc4, .slice x5 A.done.length xc5] 28) :: (b12, Ob [.slice n1 N.sets.length nc1, .slice n2 N.left.length nc2, .slice n3 N.at_.length nc3, .slice n4 N.begun.length nc4, .slice n5 N.done.length nc5] 28) :: (b19, Ob [.slice y1 B.sets.length yc1, .slice y2 B.left.length yc2, .slice y3 B.at_.length yc3, .slice y4 B.begun.length yc4, .slice y5 B.done.length yc5] 28) :: ((bif D 9 then [(pb (c 9), Ob (bif D 10 then [.slice (la 0 (c 4)) A.sets.length (lc 0 (c 4)), .slice (la 1 (c 4)) A.left.length (lc 1 (c 4)), .slice (la 2 (c 4)) A.at_.length (lc 2 (c 4)), .slice (la 3 (c 4)) A.begun.length (lc 3 (c 4)), .slice (la 4 (c 4)) A.done.length (lc 4 (c 4))] else [.slice none 0 0, .slice none 0 0, .slice none 0 0, .slice none 0 0, .slice none 0 0]) 28)] else []) ++ [])) [⟨?v0_2, fun _ z => []⟩, ⟨?v1_2, fun _ z => []⟩, ⟨?v2_2, fun _ z => []⟩, ⟨fun _ z => z, fun _ z => [fRp z (q.drop k)]⟩, ⟨fun c z => .tuple #[.agg #[.slice (la 0 z) A.sets.length (lc 0 z), .slice (la 1 z) A.left.length (lc 1 z), .slice (la 2 z) A.at_.length (lc 2 z), .slice (la 3 z) A.begun.length (lc 3 z), .slice (la 4 z) A.done.length (lc 4 z)], .int .i64 (oC : Nat), .int .i64 0], fun _ z => [fRp (.agg #[.slice (la 0 z) A.sets.length (lc 0 z), .slice (la 1 z) A.left.length (lc 1 z), .slice (la 2 z) A.at_.length (lc 2 z), .slice (la 3 z) A.begun.length (lc 3 z), .slice (la 4 z) A.done.length (lc 4 z)]) A]⟩, ⟨?v5_2, fun _ z => []⟩, ⟨?v6_2, fun _ z => []⟩, ⟨?v7_2, fun _ z => []⟩, ⟨?v8_2, fun _ z => []⟩, ⟨fun _ z => .pointer (some ⟨pb z, 0, none⟩), fun _ z => []⟩, ⟨fun _ z => z, fun _ z => []⟩, ⟨?v11_2, fun _ z => []⟩] [[], [], [], [1, 2], [0, 3], [4], [4, 5], [4, 5], [4, 5], [], [6, 9], [7]] [4, 8, 9, 11] (by kernel_rfl) (by kernel_rfl) (by kernel_rfl) (by kernel_rfl) ?loc_2 ?hz_2 ?ops_2 ?rest_2
    case ops_2 =>
      simp only [AllX, Nat.reduceAdd, and_true]
      refine ⟨?_, ?_, ?_, ?_, ?_, ?_, ?_, ?_, ?_, ?_, ?_, ?_⟩
      all_goals (intro D c z0 Φr Lr K hDi hAnc hDn hK; dsimp only [dstOf, dstX, putX, kval, kfac, ancE, ancX, ancF, getD_z, getD_s, List.getElem?_cons_zero, List.getElem?_cons_succ, List.getElem?_nil, Option.getD_some, Option.getD_none, List.nil_append, List.cons_append, Option.getD] at hK ⊢)
      iterate 3 ((first | refine stp ?_ | refine stf ?_); exact hK z0)
      · refine o_slice (xs := q) k q.length rfl rfl rfl ⟨_, _, rfl, rfl⟩ rfl (by omega) (Nat.le_refl _) ?_; intro z; rw [List.take_length]; exact hK _
      · have hst : D 10 = false := dnF hDn hDi (by kernel_rfl); simp only [updD, updC, hDi, hst, Nat.reduceEqDiff, ↓reduceIte, cond_true, cond_false, List.nil_append, List.cons_append] at hK ⊢; refine OpK.call rfl rfl rfl rfl (hrunC _ _) inferInstance (Mr := _) (List.Perm.refl _) ?_; rintro u Φ' Mc' ⟨v', rfl, rfl, rfl⟩; dsimp only [List.cons_append, List.nil_append]; refine G.lot v' A ?_; intro a10 c10 a20 c20 a30 c30 a40 c40 a50 c50 e; subst e; refine G.weaken (hK (.agg #[.slice a10 0 c10, .slice a20 0 c20, .slice a30 0 c30, .slice a40 0 c40, .slice a50 0 c50])) (fun φ hφ => .tail _ (.tail _ (.tail _ (.tail _ (.tail _ hφ))))) (fun _ _ h => h) (List.Sublist.refl _)
      iterate 4 (refine stp ?_; exact hK z0)
      · have hst : D 10 = false := dnF hDn hDi (by kernel_rfl); simp only [updD, updC, hDi, hst, Nat.reduceEqDiff, ↓reduceIte, cond_true, cond_false, List.nil_append, List.cons_append] at hK ⊢; refine o_alloc rfl rfl ?_; intro b; refine G.perm (hK (.pointer (some ⟨b, 0, none⟩))) ?_; exact (List.perm_middle (l₁ := [_, _, _])).symm
      · have hal : D 9 = true := hAnc 9 (by kernel_rfl); simp only [updD, updC, hDi, hal, Nat.reduceEqDiff, ↓reduceIte, cond_true, cond_false, List.nil_append, List.cons_append] at hK ⊢; refine stp ?_; exact hK z0
      · refine stp ?_; exact hK z0
    case hz_2 => intro c; rfl
    case loc_2 =>
      simp only [AllL, Nat.reduceAdd, and_true]
      refine ⟨?_, ?_, ?_, ?_, ?_, ?_, ?_, ?_, ?_, ?_, ?_, ?_⟩
      · exact fun _ _ _ _ => ⟨rfl, rfl⟩
      · exact fun _ _ _ _ => ⟨rfl, rfl⟩
      · exact fun _ _ _ _ => ⟨rfl, rfl⟩
      · exact fun _ _ _ _ => ⟨rfl, rfl⟩
      · exact fun _ _ _ _ => ⟨rfl, rfl⟩
      · intro c c' z h; simp only [getD_s, getD_z, h 4 (by kernel_rfl), and_self]
      · intro c c' z h; simp only [getD_s, getD_z, h 4 (by kernel_rfl), and_self]
      · intro c c' z h; simp only [getD_s, getD_z, h 4 (by kernel_rfl), and_self]
      · intro c c' z h; simp only [getD_s, getD_z, h 4 (by kernel_rfl), and_self]
      · exact fun _ _ _ _ => ⟨rfl, rfl⟩
      · exact fun _ _ _ _ => ⟨rfl, rfl⟩
      · exact fun _ _ _ _ => ⟨rfl, rfl⟩
    intro c
    dsimp only [dstOf, dstX, putX, kval, kfac, ancE, ancX,  ancF, getD_z, getD_s, List.getElem?_cons_zero, List.getElem?_cons_succ, List.getElem?_nil, Option.getD_some, Option.getD_none, List.nil_append, List.cons_append, List.drop_succ_cons, List.drop_zero, Option.getD]
    show LW _ _ _ _ _ _ ((b16, Ob [.slice x1 A.sets.length xc1, .slice x2 A.left.length xc2, .slice x3 A.at_.length xc3, .slice x4 A.begun.length xc4, .slice x5 A.done.length xc5] 28) :: (b12, Ob [.slice n1 N.sets.length nc1, .slice n2 N.left.length nc2, .slice n3 N.at_.length nc3, .slice n4 N.begun.length nc4, .slice n5 N.done.length nc5] 28) :: (b19, Ob [.slice y1 B.sets.length yc1, .slice y2 B.left.length yc2, .slice y3 B.at_.length yc3, .slice y4 B.begun.length yc4, .slice y5 B.done.length yc5] 28) :: (pb (c 9), Ob [.slice (la 0 (c 4)) A.sets.length (lc 0 (c 4)), .slice (la 1 (c 4)) A.left.length (lc 1 (c 4)), .slice (la 2 (c 4)) A.at_.length (lc 2 (c 4)), .slice (la 3 (c 4)) A.begun.length (lc 3 (c 4)), .slice (la 4 (c 4)) A.done.length (lc 4 (c 4))] 28) :: ([]))
    generalize pb (c 9) = b22
    generalize la 0 (c 4) = z1
    generalize lc 0 (c 4) = zc1
    generalize la 1 (c 4) = z2
    generalize lc 1 (c 4) = zc2
    generalize la 2 (c 4) = z3
    generalize lc 2 (c 4) = zc3
    generalize la 3 (c 4) = z4
    generalize lc 3 (c 4) = zc4
    generalize la 4 (c 4) = z5
    generalize lc 4 (c 4) = zc5
    repeat (first | refine stp ?_ | (refine sti ?_; intro _) | refine stf ?_ | (refine stb ?_; intro _))
    rename_i b25
    refine W.loopI (fun (s : PtSt) => ([fRp v13 q, fRp (.agg #[.slice x1 A.sets.length xc1, .slice x2 A.left.length xc2, .slice x3 A.at_.length xc3, .slice x4 A.begun.length xc4, .slice x5 A.done.length xc5]) A, fRp (.agg #[.slice z1 A.sets.length zc1, .slice z2 A.left.length zc2, .slice z3 A.at_.length zc3, .slice z4 A.begun.length zc4, .slice z5 A.done.length zc5]) A, fRp (.agg #[.slice n1 N.sets.length nc1, .slice n2 N.left.length nc2, .slice n3 N.at_.length nc3, .slice n4 N.begun.length nc4, .slice n5 N.done.length nc5]) N, fRp (.agg #[.slice s.a1 (nowL N q s.i).sets.length s.ac1, .slice s.a2 (nowL N q s.i).left.length s.ac2, .slice s.a3 (nowL N q s.i).at_.length s.ac3, .slice s.a4 (nowL N q s.i).begun.length s.ac4, .slice s.a5 (nowL N q s.i).done.length s.ac5]) (nowL N q s.i), fRow (ocells s.o) (leftS N (q.take s.i))], [(11, .bool true), (12, .pointer (some ⟨b12, 0, none⟩)), (13, v13), (16, .pointer (some ⟨b16, 0, none⟩)), (17, .int .i64 (nA : Nat)), (18, .int .i64 0), (20, .int .i64 (mB : Nat)), (21, .int .i64 0), (22, .pointer (some ⟨b22, 0, none⟩)), (23, .int .i64 (oC : Nat)), (24, .int .i64 0), (25, .pointer (some ⟨b25, 0, none⟩)), (26, s.v), (27, .int .i64 s.i)], (b25, Ob [.slice s.a1 (nowL N q s.i).sets.length s.ac1, .slice s.a2 (nowL N q s.i).left.length s.ac2, .slice s.a3 (nowL N q s.i).at_.length s.ac3, .slice s.a4 (nowL N q s.i).begun.length s.ac4, .slice s.a5 (nowL N q s.i).done.length s.ac5] 28) :: (b16, Ob [.slice x1 A.sets.length xc1, .slice x2 A.left.length xc2, .slice x3 A.at_.length xc3, .slice x4 A.begun.length xc4, .slice x5 A.done.length xc5] 28) :: (b12, Ob [.slice n1 N.sets.length nc1, .slice n2 N.left.length nc2, .slice n3 N.at_.length nc3, .slice n4 N.begun.length nc4, .slice n5 N.done.length nc5] 28) :: (b19, Ob [.slice y1 B.sets.length yc1, .slice y2 B.left.length yc2, .slice y3 B.at_.length yc3, .slice y4 B.begun.length yc4, .slice y5 B.done.length yc5] 28) :: (b22, Ob [.slice z1 A.sets.length zc1, .slice z2 A.left.length zc2, .slice z3 A.at_.length zc3, .slice z4 A.begun.length zc4, .slice z5 A.done.length zc5] 28) :: ownM 3 s.o)) (fun s => s.i ≤ q.length ∧ IsOwn 1 s.v (leftS N (q.take s.i)).length s.o) (fun s => q.length - s.i) ⟨0, .slice none 0 0, none, n1, nc1, n2, nc2, n3, nc3, n4, nc4, n5, nc5⟩ ⟨Nat.zero_le _, (by dsimp only; rw [List.take_zero, h00]; exact ⟨rfl, rfl⟩)⟩ (by dsimp only; rw [nowL_zero, List.take_zero, h00]; exact (show Ents _ [fRp v13 q, fRp (.agg #[.slice x1 A.sets.length xc1, .slice x2 A.left.length xc2, .slice x3 A.at_.length xc3, .slice x4 A.begun.length xc4, .slice x5 A.done.length xc5]) A, fRp (.agg #[.slice z1 A.sets.length zc1, .slice z2 A.left.length zc2, .slice z3 A.at_.length zc3, .slice z4 A.begun.length zc4, .slice z5 A.done.length zc5]) A, fRp (.agg #[.slice n1 N.sets.length nc1, .slice n2 N.left.length nc2, .slice n3 N.at_.length nc3, .slice n4 N.begun.length nc4, .slice n5 N.done.length nc5]) N, fRp (.agg #[.slice n1 N.sets.length nc1, .slice n2 N.left.length nc2, .slice n3 N.at_.length nc3, .slice n4 N.begun.length nc4, .slice n5 N.done.length nc5]) N, fRow ([] : List Value) ([] : List Int)] from (by (try dsimp only); repeat (first | exact Ents.nil | refine Ents.cons (a := inferInstance) (b := ?_))))) (look_sub_cons rfl (look_sub_cons rfl (look_sub_cons rfl (look_sub_cons rfl (look_sub_cons rfl (look_sub_cons rfl (look_sub_cons rfl (look_sub_cons rfl (look_sub_cons rfl (look_sub_cons rfl (look_sub_cons rfl (look_sub_cons rfl (look_sub_cons rfl (look_sub_cons rfl look_sub_nil)))))))))))))) (by dsimp only; rw [nowL_zero]; exact List.Sublist.refl _) ?_
    rintro ⟨i, v26, o, s1, sc1, s2, sc2, s3, sc3, s4, sc4, s5, sc5⟩ ⟨hi, hown⟩
    dsimp only at hi hown ⊢
    by_cases hi0 : i = q.length
    · subst hi0
      have hnow : nowL N q q.length = A := by unfold nowL; rw [List.take_length]; exact hA.symm
      rw [hnow]
      rw [List.take_length] at hown ⊢
      refine W.bare (G.giveOwn2 v26 (leftS N q) o 3 (Mr := [_, _, _, _, _]) hown inferInstance (List.Perm.refl _) ?_)
      refine G.code ?_
      repeat (first | refine stp ?_ | (refine sti ?_; intro _) | refine stf ?_ | (refine stb ?_; intro _))
      refine OpK.call rfl rfl rfl rfl (hrunD _ _) inferInstance (Mr := _) (List.Perm.refl _) ?_
      rintro u Φ' Mc' ⟨vD, rfl, rfl, rfl⟩
      dsimp only [List.cons_append, List.nil_append]
      refine G.lot vD A ?_
      intro d1 dc1 d2 dc2 d3 dc3 d4 dc4 d5 dc5 e
      subst e
      repeat (first | refine stp ?_ | (refine sti ?_; intro _) | refine stf ?_ | (refine stb ?_; intro _))
      refine o_callV rfl rfl rfl rfl (hsame _ _) rfl ?_
      repeat (first | refine stp ?_ | (refine sti ?_; intro _) | refine stf ?_ | (refine stb ?_; intro _))
      refine o_callV rfl rfl rfl rfl (hsame _ _) rfl ?_
      repeat (first | refine stp ?_ | (refine sti ?_; intro _) | refine stf ?_ | (refine stb ?_; intro _))
      refine o_callV rfl rfl rfl rfl (hsame _ _) rfl ?_
      repeat (first | refine stp ?_ | (refine sti ?_; intro _) | refine stf ?_ | (refine stb ?_; intro _))
      refine G.ret rfl (.cons (.tmp rfl) .nil) (Φ' := []) (M' := []) inferInstance (List.nil_sublist _) ⟨?_, rfl, rfl⟩
      rfl
    have hi1 : i < q.length := by omega
    have hs : RightI (nowL N q i) := runS_right _ _ hR
    have hss : (nowL N q i).sets = N.sets := (runS_sets _ _ _).1
    have hfs : FitL (nowL N q i) := FitL.of hfit hs hss
    have hpk := fun u => ppick_spec u (nowL N q i) hfs q[i]
    rw [(show errL (nowL N q i) = 0 from by rw [show errL (nowL N q i) = if rightL (nowL N q i) then 0 else 1 from by with_unfolding_all rfl, rightL_iff.2 hs]; rfl), (show isR (nowL N q i) q[i] = !noP (nowL N q i) q[i] from by rw [show isR (nowL N q i) q[i] = (rightL (nowL N q i) && !noP (nowL N q i) q[i]) from by with_unfolding_all rfl, rightL_iff.2 hs]; rfl), (show pickR (nowL N q i) q[i] = pickL (nowL N q i) q[i] from by rw [show pickR (nowL N q i) q[i] = if rightL (nowL N q i) then pickL (nowL N q i) q[i] else (nowL N q i) from by with_unfolding_all rfl, rightL_iff.2 hs]; rfl)] at hpk
    have hnx : pickL (nowL N q i) q[i] = nowL N q (i + 1) := by unfold nowL; rw [List.take_succ_eq_append_getElem hi1, runS_snoc]
    have hlf : leftS N (q.take (i + 1)) = leftS N (q.take i) ++ (if noP (nowL N q i) q[i] then [] else [q[i]]) := by rw [List.take_succ_eq_append_getElem hi1, leftS_snoc]; rfl
    have hlq := leftS_short (q.take i) N
    rw [List.length_take, Nat.min_eq_left hi] at hlq
    rw [hnx] at hpk
    have hsa := fun u u' => rsame20_spec u u' (nowL N q i) (nowL N q i) hfs hfs
    rw [sameLot_self] at hsa
    cases hno : noP (nowL N q i) q[i] with
    | true =>
      rw [hno] at hpk
      have hst : nowL N q (i + 1) = nowL N q i := by rw [← hnx, pick_none hno]
      rw [hst] at hpk
      have hlf2 : leftS N (q.take (i + 1)) = leftS N (q.take i) := by rw [hlf, hno, if_pos rfl, List.append_nil]
      repeat (first | refine stp ?_ | (refine sti ?_; intro _) | refine stf ?_ | (refine stb ?_; intro _))
      refine W.drawX 13 (fun D c => (b25, Ob [.slice s1 (nowL N q i).sets.length sc1, .slice s2 (nowL N q i).left.length sc2, .slice s3 (nowL N q i).at_.length sc3, .slice s4 (nowL N q i).begun.length sc4, .slice s5 (nowL N q i).done.length sc5] 28) :: (b16, Ob [.slice x1 A.sets.length xc1, .slice x2 A.left.length xc2, .slice x3 A.at_.length xc3, .slice x4 A.begun.length xc4, .slice x5 A.done.length xc5] 28) :: (b12, Ob [.slice n1 N.sets.length nc1, .slice n2 N.left.length nc2, .slice n3 N.at_.length nc3, .slice n4 N.begun.length nc4, .slice n5 N.done.length nc5] 28) :: (b19, Ob [.slice y1 B.sets.length yc1, .slice y2 B.left.length yc2, .slice y3 B.at_.length yc3, .slice y4 B.begun.length yc4, .slice y5 B.done.length yc5] 28) :: (b22, Ob [.slice z1 A.sets.length zc1, .slice z2 A.left.length zc2, .slice z3 A.at_.length zc3, .slice z4 A.begun.length zc4, .slice z5 A.done.length zc5] 28) :: ((bif D 10 then [(pb (c 10), Ob (bif D 11 then [.slice (la 0 (c 5)) (nowL N q i).sets.length (lc 0 (c 5)), .slice (la 1 (c 5)) (nowL N q i).left.length (lc 1 (c 5)), .slice (la 2 (c 5)) (nowL N q i).at_.length (lc 2 (c 5)), .slice (la 3 (c 5)) (nowL N q i).begun.length (lc 3 (c 5)), .slice (la 4 (c 5)) (nowL N q i).done.length (lc 4 (c 5))] else [.slice none 0 0, .slice none 0 0, .slice none 0 0, .slice none 0 0, .slice none 0 0]) 28)] else []) ++ ownM 3 o)) [⟨?v0_3, fun _ z => []⟩, ⟨?v1_3, fun _ z => []⟩, ⟨?v2_3, fun _ z => []⟩, ⟨fun _ z => z, fun _ z => [fPt z q[i]]⟩, ⟨?v4_3, fun _ z => []⟩, ⟨fun c z => .tuple #[.agg #[.slice (la 0 z) (nowL N q i).sets.length (lc 0 z), .slice (la 1 z) (nowL N q i).left.length (lc 1 z), .slice (la 2 z) (nowL N q i).at_.length (lc 2 z), .slice (la 3 z) (nowL N q i).begun.length (lc 3 z), .slice (la 4 z) (nowL N q i).done.length (lc 4 z)], .bool false, .int .i64 0], fun _ z => [fRp (.agg #[.slice (la 0 z) (nowL N q i).sets.length (lc 0 z), .slice (la 1 z) (nowL N q i).left.length (lc 1 z), .slice (la 2 z) (nowL N q i).at_.length (lc 2 z), .slice (la 3 z) (nowL N q i).begun.length (lc 3 z), .slice (la 4 z) (nowL N q i).done.length (lc 4 z)]) (nowL N q i)]⟩, ⟨?v6_3, fun _ z => []⟩, ⟨?v7_3, fun _ z => []⟩, ⟨?v8_3, fun _ z => []⟩, ⟨?v9_3, fun _ z => []⟩, ⟨fun _ z => .pointer (some ⟨pb z, 0, none⟩), fun _ z => []⟩, ⟨fun _ z => z, fun _ z => []⟩, ⟨?v12_3, fun _ z => []⟩] [[], [], [], [1, 2], [3], [0, 4], [5], [5, 6], [5, 6], [5, 6], [], [7, 10], [8]] [5, 9, 10, 12] (by kernel_rfl) (by kernel_rfl) (by kernel_rfl) (by kernel_rfl) ?loc_3 ?hz_3 ?ops_3 ?rest_3
      case ops_3 =>
        simp only [AllX, Nat.reduceAdd, and_true]
        refine ⟨?_, ?_, ?_, ?_, ?_, ?_, ?_, ?_, ?_, ?_, ?_, ?_, ?_⟩
        all_goals (intro D c z0 Φr Lr K hDi hAnc hDn hK; dsimp only [dstOf, dstX, putX, kval, kfac, ancE, ancX, ancF, getD_z, getD_s, List.getElem?_cons_zero, List.getElem?_cons_succ, List.getElem?_nil, Option.getD_some, Option.getD_none, List.nil_append, List.cons_append, Option.getD] at hK ⊢)
        iterate 3 ((first | refine stp ?_ | refine stf ?_); exact hK z0)
        · refine o_idxN i rfl rfl rfl rfl rfl hi1 ?_; intro p; exact hK _
        · (first | refine stp ?_ | refine stf ?_); exact hK z0
        · have hst : D 11 = false := dnF hDn hDi (by kernel_rfl); simp only [updD, updC, hDi, hst, Nat.reduceEqDiff, ↓reduceIte, cond_true, cond_false, List.nil_append, List.cons_append] at hK ⊢; refine OpK.call rfl rfl rfl rfl (hpk _) inferInstance (Mr := _) (List.Perm.refl _) ?_; rintro u Φ' Mc' ⟨v', rfl, rfl, rfl⟩; dsimp only [List.cons_append, List.nil_append]; refine G.lot v' (nowL N q i) ?_; intro a10 c10 a20 c20 a30 c30 a40 c40 a50 c50 e; subst e; refine G.weaken (hK (.agg #[.slice a10 0 c10, .slice a20 0 c20, .slice a30 0 c30, .slice a40 0 c40, .slice a50 0 c50])) (fun φ hφ => .tail _ (.tail _ (.tail _ (.tail _ (.tail _ hφ))))) (fun _ _ h => h) (List.Sublist.refl _)
        iterate 4 (refine stp ?_; exact hK z0)
        · have hst : D 11 = false := dnF hDn hDi (by kernel_rfl); simp only [updD, updC, hDi, hst, Nat.reduceEqDiff, ↓reduceIte, cond_true, cond_false, List.nil_append, List.cons_append] at hK ⊢; refine o_alloc rfl rfl ?_; intro b; refine G.perm (hK (.pointer (some ⟨b, 0, none⟩))) ?_; exact (List.perm_middle (l₁ := [_, _, _, _, _])).symm
        · have hal : D 10 = true := hAnc 10 (by kernel_rfl); simp only [updD, updC, hDi, hal, Nat.reduceEqDiff, ↓reduceIte, cond_true, cond_false, List.nil_append, List.cons_append] at hK ⊢; refine stp ?_; exact hK z0
        · refine stp ?_; exact hK z0
      case hz_3 => intro c; rfl
      case loc_3 =>
        simp only [AllL, Nat.reduceAdd, and_true]
        refine ⟨?_, ?_, ?_, ?_, ?_, ?_, ?_, ?_, ?_, ?_, ?_, ?_, ?_⟩
        · exact fun _ _ _ _ => ⟨rfl, rfl⟩
        · exact fun _ _ _ _ => ⟨rfl, rfl⟩
        · exact fun _ _ _ _ => ⟨rfl, rfl⟩
        · exact fun _ _ _ _ => ⟨rfl, rfl⟩
        · exact fun _ _ _ _ => ⟨rfl, rfl⟩
        · exact fun _ _ _ _ => ⟨rfl, rfl⟩
        · intro c c' z h; simp only [getD_s, getD_z, h 5 (by kernel_rfl), and_self]
        · intro c c' z h; simp only [getD_s, getD_z, h 5 (by kernel_rfl), and_self]
        · intro c c' z h; simp only [getD_s, getD_z, h 5 (by kernel_rfl), and_self]
        · intro c c' z h; simp only [getD_s, getD_z, h 5 (by kernel_rfl), and_self]
        · exact fun _ _ _ _ => ⟨rfl, rfl⟩
        · exact fun _ _ _ _ => ⟨rfl, rfl⟩
        · exact fun _ _ _ _ => ⟨rfl, rfl⟩
      intro c
      dsimp only [dstOf, dstX, putX, kval, kfac, ancE, ancX,  ancF, getD_z, getD_s, List.getElem?_cons_zero, List.getElem?_cons_succ, List.getElem?_nil, Option.getD_some, Option.getD_none, List.nil_append, List.cons_append, List.drop_succ_cons, List.drop_zero, Option.getD]
      show LW _ _ _ _ _ _ ((b25, Ob [.slice s1 (nowL N q i).sets.length sc1, .slice s2 (nowL N q i).left.length sc2, .slice s3 (nowL N q i).at_.length sc3, .slice s4 (nowL N q i).begun.length sc4, .slice s5 (nowL N q i).done.length sc5] 28) :: (b16, Ob [.slice x1 A.sets.length xc1, .slice x2 A.left.length xc2, .slice x3 A.at_.length xc3, .slice x4 A.begun.length xc4, .slice x5 A.done.length xc5] 28) :: (b12, Ob [.slice n1 N.sets.length nc1, .slice n2 N.left.length nc2, .slice n3 N.at_.length nc3, .slice n4 N.begun.length nc4, .slice n5 N.done.length nc5] 28) :: (b19, Ob [.slice y1 B.sets.length yc1, .slice y2 B.left.length yc2, .slice y3 B.at_.length yc3, .slice y4 B.begun.length yc4, .slice y5 B.done.length yc5] 28) :: (b22, Ob [.slice z1 A.sets.length zc1, .slice z2 A.left.length zc2, .slice z3 A.at_.length zc3, .slice z4 A.begun.length zc4, .slice z5 A.done.length zc5] 28) :: (pb (c 10), Ob [.slice (la 0 (c 5)) (nowL N q i).sets.length (lc 0 (c 5)), .slice (la 1 (c 5)) (nowL N q i).left.length (lc 1 (c 5)), .slice (la 2 (c 5)) (nowL N q i).at_.length (lc 2 (c 5)), .slice (la 3 (c 5)) (nowL N q i).begun.length (lc 3 (c 5)), .slice (la 4 (c 5)) (nowL N q i).done.length (lc 4 (c 5))] 28) :: (ownM 3 o))
      generalize pb (c 10) = b28
      generalize la 0 (c 5) = r1
      generalize lc 0 (c 5) = rc1
      generalize la 1 (c 5) = r2
      generalize lc 1 (c 5) = rc2
      generalize la 2 (c 5) = r3
      generalize lc 2 (c 5) = rc3
      generalize la 3 (c 5) = r4
      generalize lc 3 (c 5) = rc4
      generalize la 4 (c 5) = r5
      generalize lc 4 (c 5) = rc5
      repeat (first | refine stp ?_ | (refine sti ?_; intro _) | refine stf ?_ | (refine stb ?_; intro _))
      refine o_callV rfl rfl rfl rfl (hsa _ _) rfl ?_
      repeat (first | refine stp ?_ | (refine sti ?_; intro _) | refine stf ?_ | (refine stb ?_; intro _))
      refine G.again (S := PtSt) ⟨i + 1, v26, o, r1, rc1, r2, rc2, r3, rc3, r4, rc4, r5, rc5⟩ (by dsimp only; omega) ⟨hi1, by dsimp only; rw [hlf2]; exact hown⟩ (by dsimp only; rw [hst, hlf2]; exact (by (try dsimp only); repeat (first | exact Ents.nil | refine Ents.cons (a := inferInstance) (b := ?_)))) (look_sub_cons rfl (look_sub_cons rfl (look_sub_cons rfl (look_sub_cons rfl (look_sub_cons rfl (look_sub_cons rfl (look_sub_cons rfl (look_sub_cons rfl (look_sub_cons rfl (look_sub_cons rfl (look_sub_cons rfl (look_sub_cons rfl (look_sub_cons rfl (look_sub_cons rfl look_sub_nil)))))))))))))) (by dsimp only; rw [hst]; exact .cons_cons _ (.cons_cons _ (.cons_cons _ (.cons_cons _ (.cons_cons _ (.cons _ (List.Sublist.refl _)))))))
    | false =>
      rw [hno] at hpk
      have hlf2 : leftS N (q.take (i + 1)) = leftS N (q.take i) ++ [q[i]] := by rw [hlf, hno, if_neg (by simp)]
      repeat (first | refine stp ?_ | (refine sti ?_; intro _) | refine stf ?_ | (refine stb ?_; intro _))
      refine W.drawX 13 (fun D c => (b25, Ob [.slice s1 (nowL N q i).sets.length sc1, .slice s2 (nowL N q i).left.length sc2, .slice s3 (nowL N q i).at_.length sc3, .slice s4 (nowL N q i).begun.length sc4, .slice s5 (nowL N q i).done.length sc5] 28) :: (b16, Ob [.slice x1 A.sets.length xc1, .slice x2 A.left.length xc2, .slice x3 A.at_.length xc3, .slice x4 A.begun.length xc4, .slice x5 A.done.length xc5] 28) :: (b12, Ob [.slice n1 N.sets.length nc1, .slice n2 N.left.length nc2, .slice n3 N.at_.length nc3, .slice n4 N.begun.length nc4, .slice n5 N.done.length nc5] 28) :: (b19, Ob [.slice y1 B.sets.length yc1, .slice y2 B.left.length yc2, .slice y3 B.at_.length yc3, .slice y4 B.begun.length yc4, .slice y5 B.done.length yc5] 28) :: (b22, Ob [.slice z1 A.sets.length zc1, .slice z2 A.left.length zc2, .slice z3 A.at_.length zc3, .slice z4 A.begun.length zc4, .slice z5 A.done.length zc5] 28) :: ((bif D 10 then [(pb (c 10), Ob (bif D 11 then [.slice (la 0 (c 5)) (nowL N q (i + 1)).sets.length (lc 0 (c 5)), .slice (la 1 (c 5)) (nowL N q (i + 1)).left.length (lc 1 (c 5)), .slice (la 2 (c 5)) (nowL N q (i + 1)).at_.length (lc 2 (c 5)), .slice (la 3 (c 5)) (nowL N q (i + 1)).begun.length (lc 3 (c 5)), .slice (la 4 (c 5)) (nowL N q (i + 1)).done.length (lc 4 (c 5))] else [.slice none 0 0, .slice none 0 0, .slice none 0 0, .slice none 0 0, .slice none 0 0]) 28)] else []) ++ ownM 3 o)) [⟨?v0_4, fun _ z => []⟩, ⟨?v1_4, fun _ z => []⟩, ⟨?v2_4, fun _ z => []⟩, ⟨fun _ z => z, fun _ z => [fPt z q[i]]⟩, ⟨?v4_4, fun _ z => []⟩, ⟨fun c z => .tuple #[.agg #[.slice (la 0 z) (nowL N q (i + 1)).sets.length (lc 0 z), .slice (la 1 z) (nowL N q (i + 1)).left.length (lc 1 z), .slice (la 2 z) (nowL N q (i + 1)).at_.length (lc 2 z), .slice (la 3 z) (nowL N q (i + 1)).begun.length (lc 3 z), .slice (la 4 z) (nowL N q (i + 1)).done.length (lc 4 z)], .bool true, .int .i64 0], fun _ z => [fRp (.agg #[.slice (la 0 z) (nowL N q (i + 1)).sets.length (lc 0 z), .slice (la 1 z) (nowL N q (i + 1)).left.length (lc 1 z), .slice (la 2 z) (nowL N q (i + 1)).at_.length (lc 2 z), .slice (la 3 z) (nowL N q (i + 1)).begun.length (lc 3 z), .slice (la 4 z) (nowL N q (i + 1)).done.length (lc 4 z)]) (nowL N q (i + 1))]⟩, ⟨?v6_4, fun _ z => []⟩, ⟨?v7_4, fun _ z => []⟩, ⟨?v8_4, fun _ z => []⟩, ⟨?v9_4, fun _ z => []⟩, ⟨fun _ z => .pointer (some ⟨pb z, 0, none⟩), fun _ z => []⟩, ⟨fun _ z => z, fun _ z => []⟩, ⟨?v12_4, fun _ z => []⟩] [[], [], [], [1, 2], [3], [0, 4], [5], [5, 6], [5, 6], [5, 6], [], [7, 10], [8]] [5, 9, 10, 12] (by kernel_rfl) (by kernel_rfl) (by kernel_rfl) (by kernel_rfl) ?loc_4 ?hz_4 ?ops_4 ?rest_4
      case ops_4 =>
        simp only [AllX, Nat.reduceAdd, and_true]
        refine ⟨?_, ?_, ?_, ?_, ?_, ?_, ?_, ?_, ?_, ?_, ?_, ?_, ?_⟩
        all_goals (intro D c z0 Φr Lr K hDi hAnc hDn hK; dsimp only [dstOf, dstX, putX, kval, kfac, ancE, ancX, ancF, getD_z, getD_s, List.getElem?_cons_zero, List.getElem?_cons_succ, List.getElem?_nil, Option.getD_some, Option.getD_none, List.nil_append, List.cons_append, Option.getD] at hK ⊢)
        iterate 3 ((first | refine stp ?_ | refine stf ?_); exact hK z0)
        · refine o_idxN i rfl rfl rfl rfl rfl hi1 ?_; intro p; exact hK _
        · (first | refine stp ?_ | refine stf ?_); exact hK z0
        · have hst : D 11 = false := dnF hDn hDi (by kernel_rfl); simp only [updD, updC, hDi, hst, Nat.reduceEqDiff, ↓reduceIte, cond_true, cond_false, List.nil_append, List.cons_append] at hK ⊢; refine OpK.call rfl rfl rfl rfl (hpk _) inferInstance (Mr := _) (List.Perm.refl _) ?_; rintro u Φ' Mc' ⟨v', rfl, rfl, rfl⟩; dsimp only [List.cons_append, List.nil_append]; refine G.lot v' (nowL N q (i + 1)) ?_; intro a10 c10 a20 c20 a30 c30 a40 c40 a50 c50 e; subst e; refine G.weaken (hK (.agg #[.slice a10 0 c10, .slice a20 0 c20, .slice a30 0 c30, .slice a40 0 c40, .slice a50 0 c50])) (fun φ hφ => .tail _ (.tail _ (.tail _ (.tail _ (.tail _ hφ))))) (fun _ _ h => h) (List.Sublist.refl _)
        iterate 4 (refine stp ?_; exact hK z0)
        · have hst : D 11 = false := dnF hDn hDi (by kernel_rfl); simp only [updD, updC, hDi, hst, Nat.reduceEqDiff, ↓reduceIte, cond_true, cond_false, List.nil_append, List.cons_append] at hK ⊢; refine o_alloc rfl rfl ?_; intro b; refine G.perm (hK (.pointer (some ⟨b, 0, none⟩))) ?_; exact (List.perm_middle (l₁ := [_, _, _, _, _])).symm
        · have hal : D 10 = true := hAnc 10 (by kernel_rfl); simp only [updD, updC, hDi, hal, Nat.reduceEqDiff, ↓reduceIte, cond_true, cond_false, List.nil_append, List.cons_append] at hK ⊢; refine stp ?_; exact hK z0
        · refine stp ?_; exact hK z0
      case hz_4 => intro c; rfl
      case loc_4 =>
        simp only [AllL, Nat.reduceAdd, and_true]
        refine ⟨?_, ?_, ?_, ?_, ?_, ?_, ?_, ?_, ?_, ?_, ?_, ?_, ?_⟩
        · exact fun _ _ _ _ => ⟨rfl, rfl⟩
        · exact fun _ _ _ _ => ⟨rfl, rfl⟩
        · exact fun _ _ _ _ => ⟨rfl, rfl⟩
        · exact fun _ _ _ _ => ⟨rfl, rfl⟩
        · exact fun _ _ _ _ => ⟨rfl, rfl⟩
        · exact fun _ _ _ _ => ⟨rfl, rfl⟩
        · intro c c' z h; simp only [getD_s, getD_z, h 5 (by kernel_rfl), and_self]
        · intro c c' z h; simp only [getD_s, getD_z, h 5 (by kernel_rfl), and_self]
        · intro c c' z h; simp only [getD_s, getD_z, h 5 (by kernel_rfl), and_self]
        · intro c c' z h; simp only [getD_s, getD_z, h 5 (by kernel_rfl), and_self]
        · exact fun _ _ _ _ => ⟨rfl, rfl⟩
        · exact fun _ _ _ _ => ⟨rfl, rfl⟩
        · exact fun _ _ _ _ => ⟨rfl, rfl⟩
      intro c
      dsimp only [dstOf, dstX, putX, kval, kfac, ancE, ancX,  ancF, getD_z, getD_s, List.getElem?_cons_zero, List.getElem?_cons_succ, List.getElem?_nil, Option.getD_some, Option.getD_none, List.nil_append, List.cons_append, List.drop_succ_cons, List.drop_zero, Option.getD]
      show LW _ _ _ _ _ _ ((b25, Ob [.slice s1 (nowL N q i).sets.length sc1, .slice s2 (nowL N q i).left.length sc2, .slice s3 (nowL N q i).at_.length sc3, .slice s4 (nowL N q i).begun.length sc4, .slice s5 (nowL N q i).done.length sc5] 28) :: (b16, Ob [.slice x1 A.sets.length xc1, .slice x2 A.left.length xc2, .slice x3 A.at_.length xc3, .slice x4 A.begun.length xc4, .slice x5 A.done.length xc5] 28) :: (b12, Ob [.slice n1 N.sets.length nc1, .slice n2 N.left.length nc2, .slice n3 N.at_.length nc3, .slice n4 N.begun.length nc4, .slice n5 N.done.length nc5] 28) :: (b19, Ob [.slice y1 B.sets.length yc1, .slice y2 B.left.length yc2, .slice y3 B.at_.length yc3, .slice y4 B.begun.length yc4, .slice y5 B.done.length yc5] 28) :: (b22, Ob [.slice z1 A.sets.length zc1, .slice z2 A.left.length zc2, .slice z3 A.at_.length zc3, .slice z4 A.begun.length zc4, .slice z5 A.done.length zc5] 28) :: (pb (c 10), Ob [.slice (la 0 (c 5)) (nowL N q (i + 1)).sets.length (lc 0 (c 5)), .slice (la 1 (c 5)) (nowL N q (i + 1)).left.length (lc 1 (c 5)), .slice (la 2 (c 5)) (nowL N q (i + 1)).at_.length (lc 2 (c 5)), .slice (la 3 (c 5)) (nowL N q (i + 1)).begun.length (lc 3 (c 5)), .slice (la 4 (c 5)) (nowL N q (i + 1)).done.length (lc 4 (c 5))] 28) :: (ownM 3 o))
      generalize pb (c 10) = b28
      generalize la 0 (c 5) = r1
      generalize lc 0 (c 5) = rc1
      generalize la 1 (c 5) = r2
      generalize lc 1 (c 5) = rc2
      generalize la 2 (c 5) = r3
      generalize lc 2 (c 5) = rc3
      generalize la 3 (c 5) = r4
      generalize lc 3 (c 5) = rc4
      generalize la 4 (c 5) = r5
      generalize lc 4 (c 5) = rc5
      repeat (first | refine stp ?_ | (refine sti ?_; intro _) | refine stf ?_ | (refine stb ?_; intro _))
      refine o_lit (xs := [q[i]]) ⟨by decide, rfl, by decide⟩ rfl rfl rfl ⟨fun _ _ => Rp.flat.2 rfl, trivial⟩ rfl ?_
      intro lv
      repeat (first | refine stp ?_ | (refine sti ?_; intro _) | refine stf ?_ | (refine stb ?_; intro _))
      refine o_app2 (Mr := [_, _, _, _, _, _]) o (xs := leftS N (q.take i)) (ys := [q[i]]) hown ⟨by simp; omega, by simp; omega, rfl⟩ rfl rfl rfl rfl inferInstance inferInstance (List.Perm.refl _) ?_
      intro v' o' hown'
      rw [← hlf2] at hown' ⊢
      dsimp only [List.cons_append, List.nil_append]
      repeat (first | refine stp ?_ | (refine sti ?_; intro _) | refine stf ?_ | (refine stb ?_; intro _))
      exact G.again (S := PtSt) ⟨i + 1, v', o', r1, rc1, r2, rc2, r3, rc3, r4, rc4, r5, rc5⟩ (by dsimp only; omega) ⟨hi1, hown'⟩ (by (try dsimp only); repeat (first | exact Ents.nil | refine Ents.cons (a := inferInstance) (b := ?_))) (look_sub_cons rfl (look_sub_cons rfl (look_sub_cons rfl (look_sub_cons rfl (look_sub_cons rfl (look_sub_cons rfl (look_sub_cons rfl (look_sub_cons rfl (look_sub_cons rfl (look_sub_cons rfl (look_sub_cons rfl (look_sub_cons rfl (look_sub_cons rfl (look_sub_cons rfl look_sub_nil)))))))))))))) (.cons_cons _ (.cons_cons _ (.cons_cons _ (.cons_cons _ (.cons_cons _ (.cons _ (List.Sublist.refl _)))))))
  · repeat (first | refine stp ?_ | (refine sti ?_; intro _) | refine stf ?_ | (refine stb ?_; intro _))
    refine o_callV rfl rfl rfl rfl (pick20_spec at_ (q.length + 1) (by omega) (by omega) hat) rfl ?_
    rw [← hk]
    repeat (first | refine stp ?_ | (refine sti ?_; intro _) | refine stf ?_ | (refine stb ?_; intro _))
    refine OpK.call rfl rfl rfl rfl (hrunA _ _) inferInstance (Mr := _) (List.Perm.refl _) ?_
    rintro u Φ' Mc' ⟨vA, rfl, rfl, rfl⟩
    dsimp only [List.cons_append, List.nil_append]
    refine G.lot vA A ?_
    intro x1 xc1 x2 xc2 x3 xc3 x4 xc4 x5 xc5 e
    subst e
    repeat (first | refine stp ?_ | (refine sti ?_; intro _) | refine stf ?_ | (refine stb ?_; intro _))
    rename_i b16
    refine W.drawX 12 (fun D c => (b16, Ob [.slice x1 A.sets.length xc1, .slice x2 A.left.length xc2, .slice x3 A.at_.length xc3, .slice x4 A.begun.length xc4, .slice x5 A.done.length xc5] 28) :: (b12, Ob [.slice n1 N.sets.length nc1, .slice n2 N.left.length nc2, .slice n3 N.at_.length nc3, .slice n4 N.begun.length nc4, .slice n5 N.done.length nc5] 28) :: ((bif D 9 then [(pb (c 9), Ob (bif D 10 then [.slice (la 0 (c 4)) B.sets.length (lc 0 (c 4)), .slice (la 1 (c 4)) B.left.length (lc 1 (c 4)), .slice (la 2 (c 4)) B.at_.length (lc 2 (c 4)), .slice (la 3 (c 4)) B.begun.length (lc 3 (c 4)), .slice (la 4 (c 4)) B.done.length (lc 4 (c 4))] else [.slice none 0 0, .slice none 0 0, .slice none 0 0, .slice none 0 0, .slice none 0 0]) 28)] else []) ++ [])) [⟨?v0_5, fun _ z => []⟩, ⟨?v1_5, fun _ z => []⟩, ⟨?v2_5, fun _ z => []⟩, ⟨fun _ z => z, fun _ z => [fRp z (q.take k)]⟩, ⟨fun c z => .tuple #[.agg #[.slice (la 0 z) B.sets.length (lc 0 z), .slice (la 1 z) B.left.length (lc 1 z), .slice (la 2 z) B.at_.length (lc 2 z), .slice (la 3 z) B.begun.length (lc 3 z), .slice (la 4 z) B.done.length (lc 4 z)], .int .i64 (mB : Nat), .int .i64 0], fun _ z => [fRp (.agg #[.slice (la 0 z) B.sets.length (lc 0 z), .slice (la 1 z) B.left.length (lc 1 z), .slice (la 2 z) B.at_.length (lc 2 z), .slice (la 3 z) B.begun.length (lc 3 z), .slice (la 4 z) B.done.length (lc 4 z)]) B]⟩, ⟨?v5_5, fun _ z => []⟩, ⟨?v6_5, fun _ z => []⟩, ⟨?v7_5, fun _ z => []⟩, ⟨?v8_5, fun _ z => []⟩, ⟨fun _ z => .pointer (some ⟨pb z, 0, none⟩), fun _ z => []⟩, ⟨fun _ z => z, fun _ z => []⟩, ⟨?v11_5, fun _ z => []⟩] [[], [], [], [1, 2], [0, 3], [4], [4, 5], [4, 5], [4, 5], [], [6, 9], [7]] [4, 8, 9, 11] (by kernel_rfl) (by kernel_rfl) (by kernel_rfl) (by kernel_rfl) ?loc_5 ?hz_5 ?ops_5 ?rest_5
    case ops_5 =>
      simp only [AllX, Nat.reduceAdd, and_true]
      refine ⟨?_, ?_, ?_, ?_, ?_, ?_, ?_, ?_, ?_, ?_, ?_, ?_⟩
      all_goals (intro D c z0 Φr Lr K hDi hAnc hDn hK; dsimp only [dstOf, dstX, putX, kval, kfac, ancE, ancX, ancF, getD_z, getD_s, List.getElem?_cons_zero, List.getElem?_cons_succ, List.getElem?_nil, Option.getD_some, Option.getD_none, List.nil_append, List.cons_append, Option.getD] at hK ⊢)
      iterate 3 ((first | refine stp ?_ | refine stf ?_); exact hK z0)
      · refine o_slice (xs := q) 0 k rfl rfl rfl rfl ⟨_, _, rfl, rfl⟩ (Nat.zero_le _) (by omega) ?_; intro z; rw [List.drop_zero]; exact hK _
      · have hst : D 10 = false := dnF hDn hDi (by kernel_rfl); simp only [updD, updC, hDi, hst, Nat.reduceEqDiff, ↓reduceIte, cond_true, cond_false, List.nil_append, List.cons_append] at hK ⊢; refine OpK.call rfl rfl rfl rfl (hrunB _ _) inferInstance (Mr := _) (List.Perm.refl _) ?_; rintro u Φ' Mc' ⟨v', rfl, rfl, rfl⟩; dsimp only [List.cons_append, List.nil_append]; refine G.lot v' B ?_; intro a10 c10 a20 c20 a30 c30 a40 c40 a50 c50 e; subst e; refine G.weaken (hK (.agg #[.slice a10 0 c10, .slice a20 0 c20, .slice a30 0 c30, .slice a40 0 c40, .slice a50 0 c50])) (fun φ hφ => .tail _ (.tail _ (.tail _ (.tail _ (.tail _ hφ))))) (fun _ _ h => h) (List.Sublist.refl _)
      iterate 4 (refine stp ?_; exact hK z0)
      · have hst : D 10 = false := dnF hDn hDi (by kernel_rfl); simp only [updD, updC, hDi, hst, Nat.reduceEqDiff, ↓reduceIte, cond_true, cond_false, List.nil_append, List.cons_append] at hK ⊢; refine o_alloc rfl rfl ?_; intro b; refine G.perm (hK (.pointer (some ⟨b, 0, none⟩))) ?_; exact (List.perm_middle (l₁ := [_, _])).symm
      · have hal : D 9 = true := hAnc 9 (by kernel_rfl); simp only [updD, updC, hDi, hal, Nat.reduceEqDiff, ↓reduceIte, cond_true, cond_false, List.nil_append, List.cons_append] at hK ⊢; refine stp ?_; exact hK z0
      · refine stp ?_; exact hK z0
    case hz_5 => intro c; rfl
    case loc_5 =>
      simp only [AllL, Nat.reduceAdd, and_true]
      refine ⟨?_, ?_, ?_, ?_, ?_, ?_, ?_, ?_, ?_, ?_, ?_, ?_⟩
      · exact fun _ _ _ _ => ⟨rfl, rfl⟩
      · exact fun _ _ _ _ => ⟨rfl, rfl⟩
      · exact fun _ _ _ _ => ⟨rfl, rfl⟩
      · exact fun _ _ _ _ => ⟨rfl, rfl⟩
      · exact fun _ _ _ _ => ⟨rfl, rfl⟩
      · intro c c' z h; simp only [getD_s, getD_z, h 4 (by kernel_rfl), and_self]
      · intro c c' z h; simp only [getD_s, getD_z, h 4 (by kernel_rfl), and_self]
      · intro c c' z h; simp only [getD_s, getD_z, h 4 (by kernel_rfl), and_self]
      · intro c c' z h; simp only [getD_s, getD_z, h 4 (by kernel_rfl), and_self]
      · exact fun _ _ _ _ => ⟨rfl, rfl⟩
      · exact fun _ _ _ _ => ⟨rfl, rfl⟩
      · exact fun _ _ _ _ => ⟨rfl, rfl⟩
    intro c
    dsimp only [dstOf, dstX, putX, kval, kfac, ancE, ancX,  ancF, getD_z, getD_s, List.getElem?_cons_zero, List.getElem?_cons_succ, List.getElem?_nil, Option.getD_some, Option.getD_none, List.nil_append, List.cons_append, List.drop_succ_cons, List.drop_zero, Option.getD]
    show LW _ _ _ _ _ _ ((b16, Ob [.slice x1 A.sets.length xc1, .slice x2 A.left.length xc2, .slice x3 A.at_.length xc3, .slice x4 A.begun.length xc4, .slice x5 A.done.length xc5] 28) :: (b12, Ob [.slice n1 N.sets.length nc1, .slice n2 N.left.length nc2, .slice n3 N.at_.length nc3, .slice n4 N.begun.length nc4, .slice n5 N.done.length nc5] 28) :: (pb (c 9), Ob [.slice (la 0 (c 4)) B.sets.length (lc 0 (c 4)), .slice (la 1 (c 4)) B.left.length (lc 1 (c 4)), .slice (la 2 (c 4)) B.at_.length (lc 2 (c 4)), .slice (la 3 (c 4)) B.begun.length (lc 3 (c 4)), .slice (la 4 (c 4)) B.done.length (lc 4 (c 4))] 28) :: ([]))
    generalize pb (c 9) = b19
    generalize la 0 (c 4) = y1
    generalize lc 0 (c 4) = yc1
    generalize la 1 (c 4) = y2
    generalize lc 1 (c 4) = yc2
    generalize la 2 (c 4) = y3
    generalize lc 2 (c 4) = yc3
    generalize la 3 (c 4) = y4
    generalize lc 3 (c 4) = yc4
    generalize la 4 (c 4) = y5
    generalize lc 4 (c 4) = yc5
    repeat (first | refine stp ?_ | (refine sti ?_; intro _) | refine stf ?_ | (refine stb ?_; intro _))
    refine W.drawX 12 (fun D c => (b16, Ob [.slice x1 A.sets.length xc1, .slice x2 A.left.length xc2, .slice x3 A.at_.length xc3, .slice x4 A.begun.length xc4, .slice x5 A.done.length xc5] 28) :: (b12, Ob [.slice n1 N.sets.length nc1, .slice n2 N.left.length nc2, .slice n3 N.at_.length nc3, .slice n4 N.begun.length nc4, .slice n5 N.done.length nc5] 28) :: (b19, Ob [.slice y1 B.sets.length yc1, .slice y2 B.left.length yc2, .slice y3 B.at_.length yc3, .slice y4 B.begun.length yc4, .slice y5 B.done.length yc5] 28) :: ((bif D 9 then [(pb (c 9), Ob (bif D 10 then [.slice (la 0 (c 4)) A.sets.length (lc 0 (c 4)), .slice (la 1 (c 4)) A.left.length (lc 1 (c 4)), .slice (la 2 (c 4)) A.at_.length (lc 2 (c 4)), .slice (la 3 (c 4)) A.begun.length (lc 3 (c 4)), .slice (la 4 (c 4)) A.done.length (lc 4 (c 4))] else [.slice none 0 0, .slice none 0 0, .slice none 0 0, .slice none 0 0, .slice none 0 0]) 28)] else []) ++ [])) [⟨?v0_6, fun _ z => []⟩, ⟨?v1_6, fun _ z => []⟩, ⟨?v2_6, fun _ z => []⟩, ⟨fun _ z => z, fun _ z => [fRp z (q.drop k)]⟩, ⟨fun c z => .tuple #[.agg #[.slice (la 0 z) A.sets.length (lc 0 z), .slice (la 1 z) A.left.length (lc 1 z), .slice (la 2 z) A.at_.length (lc 2 z), .slice (la 3 z) A.begun.length (lc 3 z), .slice (la 4 z) A.done.length (lc 4 z)], .int .i64 (oC : Nat), .int .i64 0], fun _ z => [fRp (.agg #[.slice (la 0 z) A.sets.length (lc 0 z), .slice (la 1 z) A.left.length (lc 1 z), .slice (la 2 z) A.at_.length (lc 2 z), .slice (la 3 z) A.begun.length (lc 3 z), .slice (la 4 z) A.done.length (lc 4 z)]) A]⟩, ⟨?v5_6, fun _ z => []⟩, ⟨?v6_6, fun _ z => []⟩, ⟨?v7_6, fun _ z => []⟩, ⟨?v8_6, fun _ z => []⟩, ⟨fun _ z => .pointer (some ⟨pb z, 0, none⟩), fun _ z => []⟩, ⟨fun _ z => z, fun _ z => []⟩, ⟨?v11_6, fun _ z => []⟩] [[], [], [], [1, 2], [0, 3], [4], [4, 5], [4, 5], [4, 5], [], [6, 9], [7]] [4, 8, 9, 11] (by kernel_rfl) (by kernel_rfl) (by kernel_rfl) (by kernel_rfl) ?loc_6 ?hz_6 ?ops_6 ?rest_6
    case ops_6 =>
      simp only [AllX, Nat.reduceAdd, and_true]
      refine ⟨?_, ?_, ?_, ?_, ?_, ?_, ?_, ?_, ?_, ?_, ?_, ?_⟩
      all_goals (intro D c z0 Φr Lr K hDi hAnc hDn hK; dsimp only [dstOf, dstX, putX, kval, kfac, ancE, ancX, ancF, getD_z, getD_s, List.getElem?_cons_zero, List.getElem?_cons_succ, List.getElem?_nil, Option.getD_some, Option.getD_none, List.nil_append, List.cons_append, Option.getD] at hK ⊢)
      iterate 3 ((first | refine stp ?_ | refine stf ?_); exact hK z0)
      · refine o_slice (xs := q) k q.length rfl rfl rfl ⟨_, _, rfl, rfl⟩ rfl (by omega) (Nat.le_refl _) ?_; intro z; rw [List.take_length]; exact hK _
      · have hst : D 10 = false := dnF hDn hDi (by kernel_rfl); simp only [updD, updC, hDi, hst, Nat.reduceEqDiff, ↓reduceIte, cond_true, cond_false, List.nil_append, List.cons_append] at hK ⊢; refine OpK.call rfl rfl rfl rfl (hrunC _ _) inferInstance (Mr := _) (List.Perm.refl _) ?_; rintro u Φ' Mc' ⟨v', rfl, rfl, rfl⟩; dsimp only [List.cons_append, List.nil_append]; refine G.lot v' A ?_; intro a10 c10 a20 c20 a30 c30 a40 c40 a50 c50 e; subst e; refine G.weaken (hK (.agg #[.slice a10 0 c10, .slice a20 0 c20, .slice a30 0 c30, .slice a40 0 c40, .slice a50 0 c50])) (fun φ hφ => .tail _ (.tail _ (.tail _ (.tail _ (.tail _ hφ))))) (fun _ _ h => h) (List.Sublist.refl _)
      iterate 4 (refine stp ?_; exact hK z0)
      · have hst : D 10 = false := dnF hDn hDi (by kernel_rfl); simp only [updD, updC, hDi, hst, Nat.reduceEqDiff, ↓reduceIte, cond_true, cond_false, List.nil_append, List.cons_append] at hK ⊢; refine o_alloc rfl rfl ?_; intro b; refine G.perm (hK (.pointer (some ⟨b, 0, none⟩))) ?_; exact (List.perm_middle (l₁ := [_, _, _])).symm
      · have hal : D 9 = true := hAnc 9 (by kernel_rfl); simp only [updD, updC, hDi, hal, Nat.reduceEqDiff, ↓reduceIte, cond_true, cond_false, List.nil_append, List.cons_append] at hK ⊢; refine stp ?_; exact hK z0
      · refine stp ?_; exact hK z0
    case hz_6 => intro c; rfl
    case loc_6 =>
      simp only [AllL, Nat.reduceAdd, and_true]
      refine ⟨?_, ?_, ?_, ?_, ?_, ?_, ?_, ?_, ?_, ?_, ?_, ?_⟩
      · exact fun _ _ _ _ => ⟨rfl, rfl⟩
      · exact fun _ _ _ _ => ⟨rfl, rfl⟩
      · exact fun _ _ _ _ => ⟨rfl, rfl⟩
      · exact fun _ _ _ _ => ⟨rfl, rfl⟩
      · exact fun _ _ _ _ => ⟨rfl, rfl⟩
      · intro c c' z h; simp only [getD_s, getD_z, h 4 (by kernel_rfl), and_self]
      · intro c c' z h; simp only [getD_s, getD_z, h 4 (by kernel_rfl), and_self]
      · intro c c' z h; simp only [getD_s, getD_z, h 4 (by kernel_rfl), and_self]
      · intro c c' z h; simp only [getD_s, getD_z, h 4 (by kernel_rfl), and_self]
      · exact fun _ _ _ _ => ⟨rfl, rfl⟩
      · exact fun _ _ _ _ => ⟨rfl, rfl⟩
      · exact fun _ _ _ _ => ⟨rfl, rfl⟩
    intro c
    dsimp only [dstOf, dstX, putX, kval, kfac, ancE, ancX,  ancF, getD_z, getD_s, List.getElem?_cons_zero, List.getElem?_cons_succ, List.getElem?_nil, Option.getD_some, Option.getD_none, List.nil_append, List.cons_append, List.drop_succ_cons, List.drop_zero, Option.getD]
    show LW _ _ _ _ _ _ ((b16, Ob [.slice x1 A.sets.length xc1, .slice x2 A.left.length xc2, .slice x3 A.at_.length xc3, .slice x4 A.begun.length xc4, .slice x5 A.done.length xc5] 28) :: (b12, Ob [.slice n1 N.sets.length nc1, .slice n2 N.left.length nc2, .slice n3 N.at_.length nc3, .slice n4 N.begun.length nc4, .slice n5 N.done.length nc5] 28) :: (b19, Ob [.slice y1 B.sets.length yc1, .slice y2 B.left.length yc2, .slice y3 B.at_.length yc3, .slice y4 B.begun.length yc4, .slice y5 B.done.length yc5] 28) :: (pb (c 9), Ob [.slice (la 0 (c 4)) A.sets.length (lc 0 (c 4)), .slice (la 1 (c 4)) A.left.length (lc 1 (c 4)), .slice (la 2 (c 4)) A.at_.length (lc 2 (c 4)), .slice (la 3 (c 4)) A.begun.length (lc 3 (c 4)), .slice (la 4 (c 4)) A.done.length (lc 4 (c 4))] 28) :: ([]))
    generalize pb (c 9) = b22
    generalize la 0 (c 4) = z1
    generalize lc 0 (c 4) = zc1
    generalize la 1 (c 4) = z2
    generalize lc 1 (c 4) = zc2
    generalize la 2 (c 4) = z3
    generalize lc 2 (c 4) = zc3
    generalize la 3 (c 4) = z4
    generalize lc 3 (c 4) = zc4
    generalize la 4 (c 4) = z5
    generalize lc 4 (c 4) = zc5
    repeat (first | refine stp ?_ | (refine sti ?_; intro _) | refine stf ?_ | (refine stb ?_; intro _))
    rename_i b25
    refine W.loopI (fun (s : PtSt) => ([fRp v13 q, fRp (.agg #[.slice x1 A.sets.length xc1, .slice x2 A.left.length xc2, .slice x3 A.at_.length xc3, .slice x4 A.begun.length xc4, .slice x5 A.done.length xc5]) A, fRp (.agg #[.slice z1 A.sets.length zc1, .slice z2 A.left.length zc2, .slice z3 A.at_.length zc3, .slice z4 A.begun.length zc4, .slice z5 A.done.length zc5]) A, fRp (.agg #[.slice n1 N.sets.length nc1, .slice n2 N.left.length nc2, .slice n3 N.at_.length nc3, .slice n4 N.begun.length nc4, .slice n5 N.done.length nc5]) N, fRp (.agg #[.slice s.a1 (nowL N q s.i).sets.length s.ac1, .slice s.a2 (nowL N q s.i).left.length s.ac2, .slice s.a3 (nowL N q s.i).at_.length s.ac3, .slice s.a4 (nowL N q s.i).begun.length s.ac4, .slice s.a5 (nowL N q s.i).done.length s.ac5]) (nowL N q s.i), fRow (ocells s.o) (leftS N (q.take s.i))], [(11, .bool true), (12, .pointer (some ⟨b12, 0, none⟩)), (13, v13), (16, .pointer (some ⟨b16, 0, none⟩)), (17, .int .i64 (nA : Nat)), (18, .int .i64 0), (20, .int .i64 (mB : Nat)), (21, .int .i64 0), (22, .pointer (some ⟨b22, 0, none⟩)), (23, .int .i64 (oC : Nat)), (24, .int .i64 0), (25, .pointer (some ⟨b25, 0, none⟩)), (26, s.v), (27, .int .i64 s.i)], (b25, Ob [.slice s.a1 (nowL N q s.i).sets.length s.ac1, .slice s.a2 (nowL N q s.i).left.length s.ac2, .slice s.a3 (nowL N q s.i).at_.length s.ac3, .slice s.a4 (nowL N q s.i).begun.length s.ac4, .slice s.a5 (nowL N q s.i).done.length s.ac5] 28) :: (b16, Ob [.slice x1 A.sets.length xc1, .slice x2 A.left.length xc2, .slice x3 A.at_.length xc3, .slice x4 A.begun.length xc4, .slice x5 A.done.length xc5] 28) :: (b12, Ob [.slice n1 N.sets.length nc1, .slice n2 N.left.length nc2, .slice n3 N.at_.length nc3, .slice n4 N.begun.length nc4, .slice n5 N.done.length nc5] 28) :: (b19, Ob [.slice y1 B.sets.length yc1, .slice y2 B.left.length yc2, .slice y3 B.at_.length yc3, .slice y4 B.begun.length yc4, .slice y5 B.done.length yc5] 28) :: (b22, Ob [.slice z1 A.sets.length zc1, .slice z2 A.left.length zc2, .slice z3 A.at_.length zc3, .slice z4 A.begun.length zc4, .slice z5 A.done.length zc5] 28) :: ownM 3 s.o)) (fun s => s.i ≤ q.length ∧ IsOwn 1 s.v (leftS N (q.take s.i)).length s.o) (fun s => q.length - s.i) ⟨0, .slice none 0 0, none, n1, nc1, n2, nc2, n3, nc3, n4, nc4, n5, nc5⟩ ⟨Nat.zero_le _, (by dsimp only; rw [List.take_zero, h00]; exact ⟨rfl, rfl⟩)⟩ (by dsimp only; rw [nowL_zero, List.take_zero, h00]; exact (show Ents _ [fRp v13 q, fRp (.agg #[.slice x1 A.sets.length xc1, .slice x2 A.left.length xc2, .slice x3 A.at_.length xc3, .slice x4 A.begun.length xc4, .slice x5 A.done.length xc5]) A, fRp (.agg #[.slice z1 A.sets.length zc1, .slice z2 A.left.length zc2, .slice z3 A.at_.length zc3, .slice z4 A.begun.length zc4, .slice z5 A.done.length zc5]) A, fRp (.agg #[.slice n1 N.sets.length nc1, .slice n2 N.left.length nc2, .slice n3 N.at_.length nc3, .slice n4 N.begun.length nc4, .slice n5 N.done.length nc5]) N, fRp (.agg #[.slice n1 N.sets.length nc1, .slice n2 N.left.length nc2, .slice n3 N.at_.length nc3, .slice n4 N.begun.length nc4, .slice n5 N.done.length nc5]) N, fRow ([] : List Value) ([] : List Int)] from (by (try dsimp only); repeat (first | exact Ents.nil | refine Ents.cons (a := inferInstance) (b := ?_))))) (look_sub_cons rfl (look_sub_cons rfl (look_sub_cons rfl (look_sub_cons rfl (look_sub_cons rfl (look_sub_cons rfl (look_sub_cons rfl (look_sub_cons rfl (look_sub_cons rfl (look_sub_cons rfl (look_sub_cons rfl (look_sub_cons rfl (look_sub_cons rfl (look_sub_cons rfl look_sub_nil)))))))))))))) (by dsimp only; rw [nowL_zero]; exact List.Sublist.refl _) ?_
    rintro ⟨i, v26, o, s1, sc1, s2, sc2, s3, sc3, s4, sc4, s5, sc5⟩ ⟨hi, hown⟩
    dsimp only at hi hown ⊢
    by_cases hi0 : i = q.length
    · subst hi0
      have hnow : nowL N q q.length = A := by unfold nowL; rw [List.take_length]; exact hA.symm
      rw [hnow]
      rw [List.take_length] at hown ⊢
      refine W.bare (G.giveOwn2 v26 (leftS N q) o 3 (Mr := [_, _, _, _, _]) hown inferInstance (List.Perm.refl _) ?_)
      refine G.code ?_
      repeat (first | refine stp ?_ | (refine sti ?_; intro _) | refine stf ?_ | (refine stb ?_; intro _))
      refine OpK.call rfl rfl rfl rfl (hrunD _ _) inferInstance (Mr := _) (List.Perm.refl _) ?_
      rintro u Φ' Mc' ⟨vD, rfl, rfl, rfl⟩
      dsimp only [List.cons_append, List.nil_append]
      refine G.lot vD A ?_
      intro d1 dc1 d2 dc2 d3 dc3 d4 dc4 d5 dc5 e
      subst e
      repeat (first | refine stp ?_ | (refine sti ?_; intro _) | refine stf ?_ | (refine stb ?_; intro _))
      refine o_callV rfl rfl rfl rfl (hsame _ _) rfl ?_
      repeat (first | refine stp ?_ | (refine sti ?_; intro _) | refine stf ?_ | (refine stb ?_; intro _))
      refine o_callV rfl rfl rfl rfl (hsame _ _) rfl ?_
      repeat (first | refine stp ?_ | (refine sti ?_; intro _) | refine stf ?_ | (refine stb ?_; intro _))
      refine o_callV rfl rfl rfl rfl (hsame _ _) rfl ?_
      repeat (first | refine stp ?_ | (refine sti ?_; intro _) | refine stf ?_ | (refine stb ?_; intro _))
      refine G.ret rfl (.cons (.tmp rfl) .nil) (Φ' := []) (M' := []) inferInstance (List.nil_sublist _) ⟨?_, rfl, rfl⟩
      rfl
    have hi1 : i < q.length := by omega
    have hs : RightI (nowL N q i) := runS_right _ _ hR
    have hss : (nowL N q i).sets = N.sets := (runS_sets _ _ _).1
    have hfs : FitL (nowL N q i) := FitL.of hfit hs hss
    have hpk := fun u => ppick_spec u (nowL N q i) hfs q[i]
    rw [(show errL (nowL N q i) = 0 from by rw [show errL (nowL N q i) = if rightL (nowL N q i) then 0 else 1 from by with_unfolding_all rfl, rightL_iff.2 hs]; rfl), (show isR (nowL N q i) q[i] = !noP (nowL N q i) q[i] from by rw [show isR (nowL N q i) q[i] = (rightL (nowL N q i) && !noP (nowL N q i) q[i]) from by with_unfolding_all rfl, rightL_iff.2 hs]; rfl), (show pickR (nowL N q i) q[i] = pickL (nowL N q i) q[i] from by rw [show pickR (nowL N q i) q[i] = if rightL (nowL N q i) then pickL (nowL N q i) q[i] else (nowL N q i) from by with_unfolding_all rfl, rightL_iff.2 hs]; rfl)] at hpk
    have hnx : pickL (nowL N q i) q[i] = nowL N q (i + 1) := by unfold nowL; rw [List.take_succ_eq_append_getElem hi1, runS_snoc]
    have hlf : leftS N (q.take (i + 1)) = leftS N (q.take i) ++ (if noP (nowL N q i) q[i] then [] else [q[i]]) := by rw [List.take_succ_eq_append_getElem hi1, leftS_snoc]; rfl
    have hlq := leftS_short (q.take i) N
    rw [List.length_take, Nat.min_eq_left hi] at hlq
    rw [hnx] at hpk
    have hsa := fun u u' => rsame20_spec u u' (nowL N q i) (nowL N q i) hfs hfs
    rw [sameLot_self] at hsa
    cases hno : noP (nowL N q i) q[i] with
    | true =>
      rw [hno] at hpk
      have hst : nowL N q (i + 1) = nowL N q i := by rw [← hnx, pick_none hno]
      rw [hst] at hpk
      have hlf2 : leftS N (q.take (i + 1)) = leftS N (q.take i) := by rw [hlf, hno, if_pos rfl, List.append_nil]
      repeat (first | refine stp ?_ | (refine sti ?_; intro _) | refine stf ?_ | (refine stb ?_; intro _))
      refine W.drawX 13 (fun D c => (b25, Ob [.slice s1 (nowL N q i).sets.length sc1, .slice s2 (nowL N q i).left.length sc2, .slice s3 (nowL N q i).at_.length sc3, .slice s4 (nowL N q i).begun.length sc4, .slice s5 (nowL N q i).done.length sc5] 28) :: (b16, Ob [.slice x1 A.sets.length xc1, .slice x2 A.left.length xc2, .slice x3 A.at_.length xc3, .slice x4 A.begun.length xc4, .slice x5 A.done.length xc5] 28) :: (b12, Ob [.slice n1 N.sets.length nc1, .slice n2 N.left.length nc2, .slice n3 N.at_.length nc3, .slice n4 N.begun.length nc4, .slice n5 N.done.length nc5] 28) :: (b19, Ob [.slice y1 B.sets.length yc1, .slice y2 B.left.length yc2, .slice y3 B.at_.length yc3, .slice y4 B.begun.length yc4, .slice y5 B.done.length yc5] 28) :: (b22, Ob [.slice z1 A.sets.length zc1, .slice z2 A.left.length zc2, .slice z3 A.at_.length zc3, .slice z4 A.begun.length zc4, .slice z5 A.done.length zc5] 28) :: ((bif D 10 then [(pb (c 10), Ob (bif D 11 then [.slice (la 0 (c 5)) (nowL N q i).sets.length (lc 0 (c 5)), .slice (la 1 (c 5)) (nowL N q i).left.length (lc 1 (c 5)), .slice (la 2 (c 5)) (nowL N q i).at_.length (lc 2 (c 5)), .slice (la 3 (c 5)) (nowL N q i).begun.length (lc 3 (c 5)), .slice (la 4 (c 5)) (nowL N q i).done.length (lc 4 (c 5))] else [.slice none 0 0, .slice none 0 0, .slice none 0 0, .slice none 0 0, .slice none 0 0]) 28)] else []) ++ ownM 3 o)) [⟨?v0_7, fun _ z => []⟩, ⟨?v1_7, fun _ z => []⟩, ⟨?v2_7, fun _ z => []⟩, ⟨fun _ z => z, fun _ z => [fPt z q[i]]⟩, ⟨?v4_7, fun _ z => []⟩, ⟨fun c z => .tuple #[.agg #[.slice (la 0 z) (nowL N q i).sets.length (lc 0 z), .slice (la 1 z) (nowL N q i).left.length (lc 1 z), .slice (la 2 z) (nowL N q i).at_.length (lc 2 z), .slice (la 3 z) (nowL N q i).begun.length (lc 3 z), .slice (la 4 z) (nowL N q i).done.length (lc 4 z)], .bool false, .int .i64 0], fun _ z => [fRp (.agg #[.slice (la 0 z) (nowL N q i).sets.length (lc 0 z), .slice (la 1 z) (nowL N q i).left.length (lc 1 z), .slice (la 2 z) (nowL N q i).at_.length (lc 2 z), .slice (la 3 z) (nowL N q i).begun.length (lc 3 z), .slice (la 4 z) (nowL N q i).done.length (lc 4 z)]) (nowL N q i)]⟩, ⟨?v6_7, fun _ z => []⟩, ⟨?v7_7, fun _ z => []⟩, ⟨?v8_7, fun _ z => []⟩, ⟨?v9_7, fun _ z => []⟩, ⟨fun _ z => .pointer (some ⟨pb z, 0, none⟩), fun _ z => []⟩, ⟨fun _ z => z, fun _ z => []⟩, ⟨?v12_7, fun _ z => []⟩] [[], [], [], [1, 2], [3], [0, 4], [5], [5, 6], [5, 6], [5, 6], [], [7, 10], [8]] [5, 9, 10, 12] (by kernel_rfl) (by kernel_rfl) (by kernel_rfl) (by kernel_rfl) ?loc_7 ?hz_7 ?ops_7 ?rest_7
      case ops_7 =>
        simp only [AllX, Nat.reduceAdd, and_true]
        refine ⟨?_, ?_, ?_, ?_, ?_, ?_, ?_, ?_, ?_, ?_, ?_, ?_, ?_⟩
        all_goals (intro D c z0 Φr Lr K hDi hAnc hDn hK; dsimp only [dstOf, dstX, putX, kval, kfac, ancE, ancX, ancF, getD_z, getD_s, List.getElem?_cons_zero, List.getElem?_cons_succ, List.getElem?_nil, Option.getD_some, Option.getD_none, List.nil_append, List.cons_append, Option.getD] at hK ⊢)
        iterate 3 ((first | refine stp ?_ | refine stf ?_); exact hK z0)
        · refine o_idxN i rfl rfl rfl rfl rfl hi1 ?_; intro p; exact hK _
        · (first | refine stp ?_ | refine stf ?_); exact hK z0
        · have hst : D 11 = false := dnF hDn hDi (by kernel_rfl); simp only [updD, updC, hDi, hst, Nat.reduceEqDiff, ↓reduceIte, cond_true, cond_false, List.nil_append, List.cons_append] at hK ⊢; refine OpK.call rfl rfl rfl rfl (hpk _) inferInstance (Mr := _) (List.Perm.refl _) ?_; rintro u Φ' Mc' ⟨v', rfl, rfl, rfl⟩; dsimp only [List.cons_append, List.nil_append]; refine G.lot v' (nowL N q i) ?_; intro a10 c10 a20 c20 a30 c30 a40 c40 a50 c50 e; subst e; refine G.weaken (hK (.agg #[.slice a10 0 c10, .slice a20 0 c20, .slice a30 0 c30, .slice a40 0 c40, .slice a50 0 c50])) (fun φ hφ => .tail _ (.tail _ (.tail _ (.tail _ (.tail _ hφ))))) (fun _ _ h => h) (List.Sublist.refl _)
        iterate 4 (refine stp ?_; exact hK z0)
        · have hst : D 11 = false := dnF hDn hDi (by kernel_rfl); simp only [updD, updC, hDi, hst, Nat.reduceEqDiff, ↓reduceIte, cond_true, cond_false, List.nil_append, List.cons_append] at hK ⊢; refine o_alloc rfl rfl ?_; intro b; refine G.perm (hK (.pointer (some ⟨b, 0, none⟩))) ?_; exact (List.perm_middle (l₁ := [_, _, _, _, _])).symm
        · have hal : D 10 = true := hAnc 10 (by kernel_rfl); simp only [updD, updC, hDi, hal, Nat.reduceEqDiff, ↓reduceIte, cond_true, cond_false, List.nil_append, List.cons_append] at hK ⊢; refine stp ?_; exact hK z0
        · refine stp ?_; exact hK z0
      case hz_7 => intro c; rfl
      case loc_7 =>
        simp only [AllL, Nat.reduceAdd, and_true]
        refine ⟨?_, ?_, ?_, ?_, ?_, ?_, ?_, ?_, ?_, ?_, ?_, ?_, ?_⟩
        · exact fun _ _ _ _ => ⟨rfl, rfl⟩
        · exact fun _ _ _ _ => ⟨rfl, rfl⟩
        · exact fun _ _ _ _ => ⟨rfl, rfl⟩
        · exact fun _ _ _ _ => ⟨rfl, rfl⟩
        · exact fun _ _ _ _ => ⟨rfl, rfl⟩
        · exact fun _ _ _ _ => ⟨rfl, rfl⟩
        · intro c c' z h; simp only [getD_s, getD_z, h 5 (by kernel_rfl), and_self]
        · intro c c' z h; simp only [getD_s, getD_z, h 5 (by kernel_rfl), and_self]
        · intro c c' z h; simp only [getD_s, getD_z, h 5 (by kernel_rfl), and_self]
        · intro c c' z h; simp only [getD_s, getD_z, h 5 (by kernel_rfl), and_self]
        · exact fun _ _ _ _ => ⟨rfl, rfl⟩
        · exact fun _ _ _ _ => ⟨rfl, rfl⟩
        · exact fun _ _ _ _ => ⟨rfl, rfl⟩
      intro c
      dsimp only [dstOf, dstX, putX, kval, kfac, ancE, ancX,  ancF, getD_z, getD_s, List.getElem?_cons_zero, List.getElem?_cons_succ, List.getElem?_nil, Option.getD_some, Option.getD_none, List.nil_append, List.cons_append, List.drop_succ_cons, List.drop_zero, Option.getD]
      show LW _ _ _ _ _ _ ((b25, Ob [.slice s1 (nowL N q i).sets.length sc1, .slice s2 (nowL N q i).left.length sc2, .slice s3 (nowL N q i).at_.length sc3, .slice s4 (nowL N q i).begun.length sc4, .slice s5 (nowL N q i).done.length sc5] 28) :: (b16, Ob [.slice x1 A.sets.length xc1, .slice x2 A.left.length xc2, .slice x3 A.at_.length xc3, .slice x4 A.begun.length xc4, .slice x5 A.done.length xc5] 28) :: (b12, Ob [.slice n1 N.sets.length nc1, .slice n2 N.left.length nc2, .slice n3 N.at_.length nc3, .slice n4 N.begun.length nc4, .slice n5 N.done.length nc5] 28) :: (b19, Ob [.slice y1 B.sets.length yc1, .slice y2 B.left.length yc2, .slice y3 B.at_.length yc3, .slice y4 B.begun.length yc4, .slice y5 B.done.length yc5] 28) :: (b22, Ob [.slice z1 A.sets.length zc1, .slice z2 A.left.length zc2, .slice z3 A.at_.length zc3, .slice z4 A.begun.length zc4, .slice z5 A.done.length zc5] 28) :: (pb (c 10), Ob [.slice (la 0 (c 5)) (nowL N q i).sets.length (lc 0 (c 5)), .slice (la 1 (c 5)) (nowL N q i).left.length (lc 1 (c 5)), .slice (la 2 (c 5)) (nowL N q i).at_.length (lc 2 (c 5)), .slice (la 3 (c 5)) (nowL N q i).begun.length (lc 3 (c 5)), .slice (la 4 (c 5)) (nowL N q i).done.length (lc 4 (c 5))] 28) :: (ownM 3 o))
      generalize pb (c 10) = b28
      generalize la 0 (c 5) = r1
      generalize lc 0 (c 5) = rc1
      generalize la 1 (c 5) = r2
      generalize lc 1 (c 5) = rc2
      generalize la 2 (c 5) = r3
      generalize lc 2 (c 5) = rc3
      generalize la 3 (c 5) = r4
      generalize lc 3 (c 5) = rc4
      generalize la 4 (c 5) = r5
      generalize lc 4 (c 5) = rc5
      repeat (first | refine stp ?_ | (refine sti ?_; intro _) | refine stf ?_ | (refine stb ?_; intro _))
      refine o_callV rfl rfl rfl rfl (hsa _ _) rfl ?_
      repeat (first | refine stp ?_ | (refine sti ?_; intro _) | refine stf ?_ | (refine stb ?_; intro _))
      refine G.again (S := PtSt) ⟨i + 1, v26, o, r1, rc1, r2, rc2, r3, rc3, r4, rc4, r5, rc5⟩ (by dsimp only; omega) ⟨hi1, by dsimp only; rw [hlf2]; exact hown⟩ (by dsimp only; rw [hst, hlf2]; exact (by (try dsimp only); repeat (first | exact Ents.nil | refine Ents.cons (a := inferInstance) (b := ?_)))) (look_sub_cons rfl (look_sub_cons rfl (look_sub_cons rfl (look_sub_cons rfl (look_sub_cons rfl (look_sub_cons rfl (look_sub_cons rfl (look_sub_cons rfl (look_sub_cons rfl (look_sub_cons rfl (look_sub_cons rfl (look_sub_cons rfl (look_sub_cons rfl (look_sub_cons rfl look_sub_nil)))))))))))))) (by dsimp only; rw [hst]; exact .cons_cons _ (.cons_cons _ (.cons_cons _ (.cons_cons _ (.cons_cons _ (.cons _ (List.Sublist.refl _)))))))
    | false =>
      rw [hno] at hpk
      have hlf2 : leftS N (q.take (i + 1)) = leftS N (q.take i) ++ [q[i]] := by rw [hlf, hno, if_neg (by simp)]
      repeat (first | refine stp ?_ | (refine sti ?_; intro _) | refine stf ?_ | (refine stb ?_; intro _))
      refine W.drawX 13 (fun D c => (b25, Ob [.slice s1 (nowL N q i).sets.length sc1, .slice s2 (nowL N q i).left.length sc2, .slice s3 (nowL N q i).at_.length sc3, .slice s4 (nowL N q i).begun.length sc4, .slice s5 (nowL N q i).done.length sc5] 28) :: (b16, Ob [.slice x1 A.sets.length xc1, .slice x2 A.left.length xc2, .slice x3 A.at_.length xc3, .slice x4 A.begun.length xc4, .slice x5 A.done.length xc5] 28) :: (b12, Ob [.slice n1 N.sets.length nc1, .slice n2 N.left.length nc2, .slice n3 N.at_.length nc3, .slice n4 N.begun.length nc4, .slice n5 N.done.length nc5] 28) :: (b19, Ob [.slice y1 B.sets.length yc1, .slice y2 B.left.length yc2, .slice y3 B.at_.length yc3, .slice y4 B.begun.length yc4, .slice y5 B.done.length yc5] 28) :: (b22, Ob [.slice z1 A.sets.length zc1, .slice z2 A.left.length zc2, .slice z3 A.at_.length zc3, .slice z4 A.begun.length zc4, .slice z5 A.done.length zc5] 28) :: ((bif D 10 then [(pb (c 10), Ob (bif D 11 then [.slice (la 0 (c 5)) (nowL N q (i + 1)).sets.length (lc 0 (c 5)), .slice (la 1 (c 5)) (nowL N q (i + 1)).left.length (lc 1 (c 5)), .slice (la 2 (c 5)) (nowL N q (i + 1)).at_.length (lc 2 (c 5)), .slice (la 3 (c 5)) (nowL N q (i + 1)).begun.length (lc 3 (c 5)), .slice (la 4 (c 5)) (nowL N q (i + 1)).done.length (lc 4 (c 5))] else [.slice none 0 0, .slice none 0 0, .slice none 0 0, .slice none 0 0, .slice none 0 0]) 28)] else []) ++ ownM 3 o)) [⟨?v0_8, fun _ z => []⟩, ⟨?v1_8, fun _ z => []⟩, ⟨?v2_8, fun _ z => []⟩, ⟨fun _ z => z, fun _ z => [fPt z q[i]]⟩, ⟨?v4_8, fun _ z => []⟩, ⟨fun c z => .tuple #[.agg #[.slice (la 0 z) (nowL N q (i + 1)).sets.length (lc 0 z), .slice (la 1 z) (nowL N q (i + 1)).left.length (lc 1 z), .slice (la 2 z) (nowL N q (i + 1)).at_.length (lc 2 z), .slice (la 3 z) (nowL N q (i + 1)).begun.length (lc 3 z), .slice (la 4 z) (nowL N q (i + 1)).done.length (lc 4 z)], .bool true, .int .i64 0], fun _ z => [fRp (.agg #[.slice (la 0 z) (nowL N q (i + 1)).sets.length (lc 0 z), .slice (la 1 z) (nowL N q (i + 1)).left.length (lc 1 z), .slice (la 2 z) (nowL N q (i + 1)).at_.length (lc 2 z), .slice (la 3 z) (nowL N q (i + 1)).begun.length (lc 3 z), .slice (la 4 z) (nowL N q (i + 1)).done.length (lc 4 z)]) (nowL N q (i + 1))]⟩, ⟨?v6_8, fun _ z => []⟩, ⟨?v7_8, fun _ z => []⟩, ⟨?v8_8, fun _ z => []⟩, ⟨?v9_8, fun _ z => []⟩, ⟨fun _ z => .pointer (some ⟨pb z, 0, none⟩), fun _ z => []⟩, ⟨fun _ z => z, fun _ z => []⟩, ⟨?v12_8, fun _ z => []⟩] [[], [], [], [1, 2], [3], [0, 4], [5], [5, 6], [5, 6], [5, 6], [], [7, 10], [8]] [5, 9, 10, 12] (by kernel_rfl) (by kernel_rfl) (by kernel_rfl) (by kernel_rfl) ?loc_8 ?hz_8 ?ops_8 ?rest_8
      case ops_8 =>
        simp only [AllX, Nat.reduceAdd, and_true]
        refine ⟨?_, ?_, ?_, ?_, ?_, ?_, ?_, ?_, ?_, ?_, ?_, ?_, ?_⟩
        all_goals (intro D c z0 Φr Lr K hDi hAnc hDn hK; dsimp only [dstOf, dstX, putX, kval, kfac, ancE, ancX, ancF, getD_z, getD_s, List.getElem?_cons_zero, List.getElem?_cons_succ, List.getElem?_nil, Option.getD_some, Option.getD_none, List.nil_append, List.cons_append, Option.getD] at hK ⊢)
        iterate 3 ((first | refine stp ?_ | refine stf ?_); exact hK z0)
        · refine o_idxN i rfl rfl rfl rfl rfl hi1 ?_; intro p; exact hK _
        · (first | refine stp ?_ | refine stf ?_); exact hK z0
        · have hst : D 11 = false := dnF hDn hDi (by kernel_rfl); simp only [updD, updC, hDi, hst, Nat.reduceEqDiff, ↓reduceIte, cond_true, cond_false, List.nil_append, List.cons_append] at hK ⊢; refine OpK.call rfl rfl rfl rfl (hpk _) inferInstance (Mr := _) (List.Perm.refl _) ?_; rintro u Φ' Mc' ⟨v', rfl, rfl, rfl⟩; dsimp only [List.cons_append, List.nil_append]; refine G.lot v' (nowL N q (i + 1)) ?_; intro a10 c10 a20 c20 a30 c30 a40 c40 a50 c50 e; subst e; refine G.weaken (hK (.agg #[.slice a10 0 c10, .slice a20 0 c20, .slice a30 0 c30, .slice a40 0 c40, .slice a50 0 c50])) (fun φ hφ => .tail _ (.tail _ (.tail _ (.tail _ (.tail _ hφ))))) (fun _ _ h => h) (List.Sublist.refl _)
        iterate 4 (refine stp ?_; exact hK z0)
        · have hst : D 11 = false := dnF hDn hDi (by kernel_rfl); simp only [updD, updC, hDi, hst, Nat.reduceEqDiff, ↓reduceIte, cond_true, cond_false, List.nil_append, List.cons_append] at hK ⊢; refine o_alloc rfl rfl ?_; intro b; refine G.perm (hK (.pointer (some ⟨b, 0, none⟩))) ?_; exact (List.perm_middle (l₁ := [_, _, _, _, _])).symm
        · have hal : D 10 = true := hAnc 10 (by kernel_rfl); simp only [updD, updC, hDi, hal, Nat.reduceEqDiff, ↓reduceIte, cond_true, cond_false, List.nil_append, List.cons_append] at hK ⊢; refine stp ?_; exact hK z0
        · refine stp ?_; exact hK z0
      case hz_8 => intro c; rfl
      case loc_8 =>
        simp only [AllL, Nat.reduceAdd, and_true]
        refine ⟨?_, ?_, ?_, ?_, ?_, ?_, ?_, ?_, ?_, ?_, ?_, ?_, ?_⟩
        · exact fun _ _ _ _ => ⟨rfl, rfl⟩
        · exact fun _ _ _ _ => ⟨rfl, rfl⟩
        · exact fun _ _ _ _ => ⟨rfl, rfl⟩
        · exact fun _ _ _ _ => ⟨rfl, rfl⟩
        · exact fun _ _ _ _ => ⟨rfl, rfl⟩
        · exact fun _ _ _ _ => ⟨rfl, rfl⟩
        · intro c c' z h; simp only [getD_s, getD_z, h 5 (by kernel_rfl), and_self]
        · intro c c' z h; simp only [getD_s, getD_z, h 5 (by kernel_rfl), and_self]
        · intro c c' z h; simp only [getD_s, getD_z, h 5 (by kernel_rfl), and_self]
        · intro c c' z h; simp only [getD_s, getD_z, h 5 (by kernel_rfl), and_self]
        · exact fun _ _ _ _ => ⟨rfl, rfl⟩
        · exact fun _ _ _ _ => ⟨rfl, rfl⟩
        · exact fun _ _ _ _ => ⟨rfl, rfl⟩
      intro c
      dsimp only [dstOf, dstX, putX, kval, kfac, ancE, ancX,  ancF, getD_z, getD_s, List.getElem?_cons_zero, List.getElem?_cons_succ, List.getElem?_nil, Option.getD_some, Option.getD_none, List.nil_append, List.cons_append, List.drop_succ_cons, List.drop_zero, Option.getD]
      show LW _ _ _ _ _ _ ((b25, Ob [.slice s1 (nowL N q i).sets.length sc1, .slice s2 (nowL N q i).left.length sc2, .slice s3 (nowL N q i).at_.length sc3, .slice s4 (nowL N q i).begun.length sc4, .slice s5 (nowL N q i).done.length sc5] 28) :: (b16, Ob [.slice x1 A.sets.length xc1, .slice x2 A.left.length xc2, .slice x3 A.at_.length xc3, .slice x4 A.begun.length xc4, .slice x5 A.done.length xc5] 28) :: (b12, Ob [.slice n1 N.sets.length nc1, .slice n2 N.left.length nc2, .slice n3 N.at_.length nc3, .slice n4 N.begun.length nc4, .slice n5 N.done.length nc5] 28) :: (b19, Ob [.slice y1 B.sets.length yc1, .slice y2 B.left.length yc2, .slice y3 B.at_.length yc3, .slice y4 B.begun.length yc4, .slice y5 B.done.length yc5] 28) :: (b22, Ob [.slice z1 A.sets.length zc1, .slice z2 A.left.length zc2, .slice z3 A.at_.length zc3, .slice z4 A.begun.length zc4, .slice z5 A.done.length zc5] 28) :: (pb (c 10), Ob [.slice (la 0 (c 5)) (nowL N q (i + 1)).sets.length (lc 0 (c 5)), .slice (la 1 (c 5)) (nowL N q (i + 1)).left.length (lc 1 (c 5)), .slice (la 2 (c 5)) (nowL N q (i + 1)).at_.length (lc 2 (c 5)), .slice (la 3 (c 5)) (nowL N q (i + 1)).begun.length (lc 3 (c 5)), .slice (la 4 (c 5)) (nowL N q (i + 1)).done.length (lc 4 (c 5))] 28) :: (ownM 3 o))
      generalize pb (c 10) = b28
      generalize la 0 (c 5) = r1
      generalize lc 0 (c 5) = rc1
      generalize la 1 (c 5) = r2
      generalize lc 1 (c 5) = rc2
      generalize la 2 (c 5) = r3
      generalize lc 2 (c 5) = rc3
      generalize la 3 (c 5) = r4
      generalize lc 3 (c 5) = rc4
      generalize la 4 (c 5) = r5
      generalize lc 4 (c 5) = rc5
      repeat (first | refine stp ?_ | (refine sti ?_; intro _) | refine stf ?_ | (refine stb ?_; intro _))
      refine o_lit (xs := [q[i]]) ⟨by decide, rfl, by decide⟩ rfl rfl rfl ⟨fun _ _ => Rp.flat.2 rfl, trivial⟩ rfl ?_
      intro lv
      repeat (first | refine stp ?_ | (refine sti ?_; intro _) | refine stf ?_ | (refine stb ?_; intro _))
      refine o_app2 (Mr := [_, _, _, _, _, _]) o (xs := leftS N (q.take i)) (ys := [q[i]]) hown ⟨by simp; omega, by simp; omega, rfl⟩ rfl rfl rfl rfl inferInstance inferInstance (List.Perm.refl _) ?_
      intro v' o' hown'
      rw [← hlf2] at hown' ⊢
      dsimp only [List.cons_append, List.nil_append]
      repeat (first | refine stp ?_ | (refine sti ?_; intro _) | refine stf ?_ | (refine stb ?_; intro _))
      exact G.again (S := PtSt) ⟨i + 1, v', o', r1, rc1, r2, rc2, r3, rc3, r4, rc4, r5, rc5⟩ (by dsimp only; omega) ⟨hi1, hown'⟩ (by (try dsimp only); repeat (first | exact Ents.nil | refine Ents.cons (a := inferInstance) (b := ?_))) (look_sub_cons rfl (look_sub_cons rfl (look_sub_cons rfl (look_sub_cons rfl (look_sub_cons rfl (look_sub_cons rfl (look_sub_cons rfl (look_sub_cons rfl (look_sub_cons rfl (look_sub_cons rfl (look_sub_cons rfl (look_sub_cons rfl (look_sub_cons rfl (look_sub_cons rfl look_sub_nil)))))))))))))) (.cons_cons _ (.cons_cons _ (.cons_cons _ (.cons_cons _ (.cons_cons _ (.cons _ (List.Sublist.refl _)))))))
end Go.Rail
