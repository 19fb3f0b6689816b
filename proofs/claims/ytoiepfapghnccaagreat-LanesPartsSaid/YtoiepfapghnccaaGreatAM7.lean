/- The document's Run. -/
import Derived.Test.YtoiepfapghnccaaGreatAM6
namespace Go.Rail
open Go Go.Proofs
set_option linter.unusedSimpArgs false
set_option linter.unusedVariables false
set_option maxHeartbeats 400000
set_option maxRecDepth 4000
attribute [local irreducible] OpK G W LW wpListIn Exit.then Exit.inBlock Post rounds opRun bodyPostM intOp
attribute [local irreducible] badM rightS mayG clashS edgesG edgesI clG rightL holdL shapeR okA okE okO shapeL idxG errG edgesR idleR readyR errR fillLot pickL noP
def la (k : Nat) : Value → Option Addr
  | .agg cs => sa (cs.getD k undef)
  | _ => none
def lc (k : Nat) : Value → Nat
  | .agg cs => sc (cs.getD k undef)
  | _ => 0
structure RnSt2 where
  i : Nat
  s : Lot
  n : Int
  a1 : Option Addr
  c1 : Nat
  a2 : Option Addr
  c2 : Nat
  a3 : Option Addr
  c3 : Nat
  a4 : Option Addr
  c4 : Nat
  a5 : Option Addr
  c5 : Nat
theorem rrun_spec (v vp : Value) (l : Lot) (ps : List Int) (hl : FitL l) (hp : ps.length ≤ 4611686018427387904) : Fn Tryz.prog 23 [v, vp] [fRp v l, fRp vp ps] [] (RLot (fun a => .tuple #[a, .int .i64 (cntL l ps), .int .i64 (errRun l ps)]) (runL l ps)) := by
  have hr := fun w => rright_spec w l hl
  refine Fn.enter Tryz.func23 rfl Tryz.ntmps23 (by simp) (fun I0 w0 => ?_)
  refine W.bare (G.lot v l ?_)
  intro a1x c1x a2x c2x a3x c3x a4x c4x a5x c5x e
  subst e
  refine G.slice vp ps ?_
  intro pa pc e _
  subst e
  refine G.code ?_
  unfold cntL errRun runL
  cases h : rightL l with
  | false =>
    rw [h] at hr
    repeat (first | refine stp ?_ | (refine sti ?_; intro _) | refine stf ?_ | (refine stb ?_; intro _))
    refine o_callV rfl rfl rfl rfl (hr _) rfl ?_
    repeat (first | refine stp ?_ | (refine sti ?_; intro _) | refine stf ?_ | (refine stb ?_; intro _))
    refine OpK.call rfl rfl rfl rfl (Fn.givenLot (rown_spec _ l hl)) inferInstance (Mr := _) (List.Perm.refl _) ?_
    rintro u Φ' Mc' ⟨_, rfl, rfl, rfl⟩
    dsimp only [List.cons_append, List.nil_append, id]
    refine G.lot u l ?_
    intro a10 c10 a20 c20 a30 c30 a40 c40 a50 c50 e
    subst e
    repeat (first | refine stp ?_ | (refine sti ?_; intro _) | refine stf ?_ | (refine stb ?_; intro _))
    exact G.ret rfl (.cons (.cellA rfl rfl) (.cons (.tmp rfl) (.cons (.tmp rfl) .nil))) (Φ' := [fRp (.agg #[.slice a10 l.sets.length c10, .slice a20 l.left.length c20, .slice a30 l.at_.length c30, .slice a40 l.begun.length c40, .slice a50 l.done.length c50]) l]) (M' := []) inferInstance (List.nil_sublist _) ⟨_, rfl, rfl, rfl⟩
  | true =>
  rw [h] at hr
  have hri := rightL_iff.1 h
  rw [if_pos rfl, if_pos rfl, if_pos rfl]
  by_cases hlong : ps.length > 20000
  · rw [if_pos hlong, if_pos hlong, if_pos hlong]
    repeat (first | refine stp ?_ | (refine sti ?_; intro _) | refine stf ?_ | (refine stb ?_; intro _))
    refine o_callV rfl rfl rfl rfl (hr _) rfl ?_
    repeat (first | refine stp ?_ | (refine sti ?_; intro _) | refine stf ?_ | (refine stb ?_; intro _))
    refine OpK.call rfl rfl rfl rfl (Fn.givenLot (rown_spec _ l hl)) inferInstance (Mr := _) (List.Perm.refl _) ?_
    rintro u Φ' Mc' ⟨_, rfl, rfl, rfl⟩
    dsimp only [List.cons_append, List.nil_append, id]
    refine G.lot u l ?_
    intro a10 c10 a20 c20 a30 c30 a40 c40 a50 c50 e
    subst e
    repeat (first | refine stp ?_ | (refine sti ?_; intro _) | refine stf ?_ | (refine stb ?_; intro _))
    exact G.ret rfl (.cons (.cellA rfl rfl) (.cons (.tmp rfl) (.cons (.tmp rfl) .nil))) (Φ' := [fRp (.agg #[.slice a10 l.sets.length c10, .slice a20 l.left.length c20, .slice a30 l.at_.length c30, .slice a40 l.begun.length c40, .slice a50 l.done.length c50]) l]) (M' := []) inferInstance (List.nil_sublist _) ⟨_, rfl, rfl, rfl⟩
  rw [if_neg hlong, if_neg hlong, if_neg hlong]
  repeat (first | refine stp ?_ | (refine sti ?_; intro _) | refine stf ?_ | (refine stb ?_; intro _))
  rename_i b2 b4
  refine o_callV rfl rfl rfl rfl (hr _) rfl ?_
  repeat (first | refine stp ?_ | (refine sti ?_; intro _) | refine stf ?_ | (refine stb ?_; intro _))
  refine OpK.call rfl rfl rfl rfl (Fn.givenLot (rown_spec _ l hl)) inferInstance (Mr := _) (List.Perm.refl _) ?_
  rintro u Φ' Mc' ⟨_, rfl, rfl, rfl⟩
  dsimp only [List.cons_append, List.nil_append, id]
  refine G.lot u l ?_
  intro a10 c10 a20 c20 a30 c30 a40 c40 a50 c50 e
  subst e
  repeat (first | refine stp ?_ | (refine sti ?_; intro _) | refine stf ?_ | (refine stb ?_; intro _))
  rename_i b7
  refine W.loopI (fun (s : RnSt2) => ([fRp (.agg #[.slice s.a1 s.s.sets.length s.c1, .slice s.a2 s.s.left.length s.c2, .slice s.a3 s.s.at_.length s.c3, .slice s.a4 s.s.begun.length s.c4, .slice s.a5 s.s.done.length s.c5]) s.s, fRp (.slice pa ps.length pc) ps], [(1, .slice pa ps.length pc), (2, .pointer (some ⟨b2, 0, none⟩)), (4, .pointer (some ⟨b4, 0, none⟩)), (7, .pointer (some ⟨b7, 0, none⟩)), (8, .int .i64 s.n), (9, .int .i64 s.i)], [(b7, Ob [.slice s.a1 s.s.sets.length s.c1, .slice s.a2 s.s.left.length s.c2, .slice s.a3 s.s.at_.length s.c3, .slice s.a4 s.s.begun.length s.c4, .slice s.a5 s.s.done.length s.c5] 28), (b4, Ob [.slice none 0 0, .slice none 0 0, .slice none 0 0, .slice none 0 0, .slice none 0 0] 28), (b2, Ob [.slice a1x l.sets.length c1x, .slice a2x l.left.length c2x, .slice a3x l.at_.length c3x, .slice a4x l.begun.length c4x, .slice a5x l.done.length c5x] 28)])) (fun s => s.i ≤ ps.length ∧ 0 ≤ s.n ∧ s.n ≤ s.i ∧ RightI s.s ∧ s.s.sets = l.sets ∧ runS s.s s.n (ps.drop s.i) = runS l 0 ps) (fun s => ps.length - s.i) ⟨0, l, 0, a10, c10, a20, c20, a30, c30, a40, c40, a50, c50⟩ ⟨Nat.zero_le _, Int.le_refl _, Int.le_refl _, hri, rfl, rfl⟩ inferInstance (look_sub_cons rfl (look_sub_cons rfl (look_sub_cons rfl (look_sub_cons rfl (look_sub_cons rfl (look_sub_cons rfl look_sub_nil)))))) (List.Sublist.refl _) ?_
  rintro ⟨i, s, n, a1, c1, a2, c2, a3, c3, a4, c4, a5, c5⟩ ⟨hi, hn0, hn1, hs, hss, hrun⟩
  dsimp only at hi hn0 hn1 hs hss hrun ⊢
  have hfs := FitL.of hl hs hss
  by_cases hi0 : i = ps.length
  · subst hi0
    rw [List.drop_length] at hrun
    rw [← hrun]
    unfold runS
    repeat (first | refine stp ?_ | (refine sti ?_; intro _) | refine stf ?_ | (refine stb ?_; intro _))
    exact G.ret rfl (.cons (.cellA rfl rfl) (.cons (.tmp rfl) (.cons (.tmp rfl) .nil))) (Φ' := [fRp (.agg #[.slice a1 s.sets.length c1, .slice a2 s.left.length c2, .slice a3 s.at_.length c3, .slice a4 s.begun.length c4, .slice a5 s.done.length c5]) s]) (M' := []) inferInstance (List.nil_sublist _) ⟨_, rfl, rfl, rfl⟩
  · have hi1 : i < ps.length := by omega
    rw [List.drop_eq_getElem_cons hi1, runS] at hrun
    have hpk := fun w => Fn.givenLot (rpick_spec w s hfs ps[i])
    have hrs := rightL_iff.2 hs
    have e1 : errL s = 0 := by unfold errL; rw [hrs]; rfl
    have e2 : isR s ps[i] = !noP s ps[i] := by unfold isR; rw [hrs]; rfl
    have e3 : pickR s ps[i] = pickL s ps[i] := by unfold pickR; rw [hrs]; rfl
    rw [e1, e2, e3] at hpk
    have hs2 := pick_right hs ps[i]
    have hss2 : (pickL s ps[i]).sets = l.sets := by rw [pickL_sets]; exact hss
    generalize pickL s ps[i] = s2 at hpk hs2 hss2 hrun
    cases hno : noP s ps[i] with
    | true =>
      rw [hno] at hpk hrun
      rw [if_pos rfl] at hrun
      repeat (first | refine stp ?_ | (refine sti ?_; intro _) | refine stf ?_ | (refine stb ?_; intro _))
      refine W.drawX 13 (fun D c => (b7, Ob [.slice a1 s.sets.length c1, .slice a2 s.left.length c2, .slice a3 s.at_.length c3, .slice a4 s.begun.length c4, .slice a5 s.done.length c5] 28) :: (b4, Ob [.slice none 0 0, .slice none 0 0, .slice none 0 0, .slice none 0 0, .slice none 0 0] 28) :: (b2, Ob [.slice a1x l.sets.length c1x, .slice a2x l.left.length c2x, .slice a3x l.at_.length c3x, .slice a4x l.begun.length c4x, .slice a5x l.done.length c5x] 28) :: (bif D 10 then [(pb (c 10), Ob (bif D 11 then [.slice (la 0 (c 5)) s2.sets.length (lc 0 (c 5)), .slice (la 1 (c 5)) s2.left.length (lc 1 (c 5)), .slice (la 2 (c 5)) s2.at_.length (lc 2 (c 5)), .slice (la 3 (c 5)) s2.begun.length (lc 3 (c 5)), .slice (la 4 (c 5)) s2.done.length (lc 4 (c 5))] else [.slice none 0 0, .slice none 0 0, .slice none 0 0, .slice none 0 0, .slice none 0 0]) 28)] else [])) [⟨?v0_1, fun _ z => []⟩, ⟨?v1_1, fun _ z => []⟩, ⟨?v2_1, fun _ z => []⟩, ⟨fun _ z => z, fun _ z => [fPt z ps[i]]⟩, ⟨?v4_1, fun _ z => []⟩, ⟨fun c z => .tuple #[.agg #[.slice (la 0 z) s2.sets.length (lc 0 z), .slice (la 1 z) s2.left.length (lc 1 z), .slice (la 2 z) s2.at_.length (lc 2 z), .slice (la 3 z) s2.begun.length (lc 3 z), .slice (la 4 z) s2.done.length (lc 4 z)], .bool false, .int .i64 0], fun _ z => [fRp (.agg #[.slice (la 0 z) s2.sets.length (lc 0 z), .slice (la 1 z) s2.left.length (lc 1 z), .slice (la 2 z) s2.at_.length (lc 2 z), .slice (la 3 z) s2.begun.length (lc 3 z), .slice (la 4 z) s2.done.length (lc 4 z)]) s2]⟩, ⟨?v6_1, fun _ z => []⟩, ⟨?v7_1, fun _ z => []⟩, ⟨?v8_1, fun _ z => []⟩, ⟨?v9_1, fun _ z => []⟩, ⟨fun _ z => .pointer (some ⟨pb z, 0, none⟩), fun _ z => []⟩, ⟨fun _ z => z, fun _ z => []⟩, ⟨?v12_1, fun _ z => []⟩] [[], [], [], [1, 2], [3], [0, 4], [5], [5, 6], [5, 6], [5, 6], [], [7, 10], [8]] [5, 9, 10, 12] (by kernel_rfl) (by kernel_rfl) (by kernel_rfl) (by kernel_rfl) ?loc_1 ?hz_1 ?ops_1 ?rest_1
      case ops_1 =>
        simp only [AllX, Nat.reduceAdd, and_true]
        refine ⟨?_, ?_, ?_, ?_, ?_, ?_, ?_, ?_, ?_, ?_, ?_, ?_, ?_⟩
        all_goals (intro D c z0 Φr Lr K hDi hAnc hDn hK; dsimp only [dstOf, dstX, putX, kval, kfac, ancE, ancX, ancF, getD_z, getD_s, List.getElem?_cons_zero, List.getElem?_cons_succ, List.getElem?_nil, Option.getD_some, Option.getD_none, List.nil_append, List.cons_append, Option.getD] at hK ⊢)
        iterate 3 ((first | refine stp ?_ | refine stf ?_); exact hK z0)
        · refine o_idxN i rfl rfl rfl rfl rfl hi1 ?_; intro p; exact hK _
        · (first | refine stp ?_ | refine stf ?_); exact hK z0
        · have h11 : D 11 = false := dnF hDn hDi (by kernel_rfl); simp only [updD, updC, hDi, h11, Nat.reduceEqDiff, ↓reduceIte, cond_true, cond_false] at hK ⊢; refine OpK.call rfl rfl rfl rfl (hpk _) inferInstance (Mr := _) (List.Perm.refl _) ?_; rintro u Φ' Mc' ⟨v', rfl, rfl, rfl⟩; dsimp only [List.cons_append, List.nil_append]; refine G.lot v' s2 ?_; intro a10 c10 a20 c20 a30 c30 a40 c40 a50 c50 e; subst e; refine G.weaken (hK (.agg #[.slice a10 0 c10, .slice a20 0 c20, .slice a30 0 c30, .slice a40 0 c40, .slice a50 0 c50])) (fun φ hφ => .tail _ (.tail _ (.tail _ (.tail _ (.tail _ hφ))))) (fun _ _ h => h) (List.Sublist.refl _)
        iterate 4 (refine stp ?_; exact hK z0)
        · have h11 : D 11 = false := dnF hDn hDi (by kernel_rfl); simp only [updD, updC, hDi, h11, Nat.reduceEqDiff, ↓reduceIte, cond_true, cond_false] at hK ⊢; refine o_alloc rfl rfl ?_; intro b; refine G.perm (hK (.pointer (some ⟨b, 0, none⟩))) ?_; exact (List.perm_append_comm (l₁ := [_]) (l₂ := [_, _, _]))
        · have h10 : D 10 = true := hAnc 10 (by kernel_rfl); simp only [updD, updC, hDi, h10, Nat.reduceEqDiff, ↓reduceIte, cond_true, cond_false] at hK ⊢; refine stp ?_; exact hK z0
        · refine stp ?_; exact hK z0
      case hz_1 => intro c; rfl
      case loc_1 =>
        simp only [AllL, Nat.reduceAdd, and_true]
        refine ⟨?_, ?_, ?_, ?_, ?_, ?_, ?_, ?_, ?_, ?_, ?_, ?_, ?_⟩
        · exact fun _ _ _ _ => ⟨rfl, rfl⟩
        · exact fun _ _ _ _ => ⟨rfl, rfl⟩
        · exact fun _ _ _ _ => ⟨rfl, rfl⟩
        · exact fun _ _ _ _ => ⟨rfl, rfl⟩
        · exact fun _ _ _ _ => ⟨rfl, rfl⟩
        · exact fun _ _ _ _ => ⟨rfl, rfl⟩
        · intro c c' z h; simp only [getD_s, getD_z, h 5 (by kernel_rfl), and_self]
        · intro c c' z h; simp only [getD_s, getD_z, h 5 (by kernel_rfl), and_self]
        · intro c c' z h; simp only [getD_s, getD_z, h 5 (by kernel_rfl), and_self]
        · intro c c' z h; simp only [getD_s, getD_z, h 5 (by kernel_rfl), and_self]
        · exact fun _ _ _ _ => ⟨rfl, rfl⟩
        · exact fun _ _ _ _ => ⟨rfl, rfl⟩
        · exact fun _ _ _ _ => ⟨rfl, rfl⟩
      intro c
      dsimp only [dstOf, dstX, putX, kval, kfac, ancE, ancX,  ancF, getD_z, getD_s, List.getElem?_cons_zero, List.getElem?_cons_succ, List.getElem?_nil, Option.getD_some, Option.getD_none, List.nil_append, List.cons_append, List.drop_succ_cons, List.drop_zero, Option.getD]
      show LW _ _ _ _ _ _ [(b7, Ob [.slice a1 s.sets.length c1, .slice a2 s.left.length c2, .slice a3 s.at_.length c3, .slice a4 s.begun.length c4, .slice a5 s.done.length c5] 28), (b4, Ob [.slice none 0 0, .slice none 0 0, .slice none 0 0, .slice none 0 0, .slice none 0 0] 28), (b2, Ob [.slice a1x l.sets.length c1x, .slice a2x l.left.length c2x, .slice a3x l.at_.length c3x, .slice a4x l.begun.length c4x, .slice a5x l.done.length c5x] 28), (pb (c 10), Ob [.slice (la 0 (c 5)) s2.sets.length (lc 0 (c 5)), .slice (la 1 (c 5)) s2.left.length (lc 1 (c 5)), .slice (la 2 (c 5)) s2.at_.length (lc 2 (c 5)), .slice (la 3 (c 5)) s2.begun.length (lc 3 (c 5)), .slice (la 4 (c 5)) s2.done.length (lc 4 (c 5))] 28)]
      generalize pb (c 10) = b10
      generalize la 0 (c 5) = a10
      generalize lc 0 (c 5) = c10
      generalize la 1 (c 5) = a20
      generalize lc 1 (c 5) = c20
      generalize la 2 (c 5) = a30
      generalize lc 2 (c 5) = c30
      generalize la 3 (c 5) = a40
      generalize lc 3 (c 5) = c40
      generalize la 4 (c 5) = a50
      generalize lc 4 (c 5) = c50
      repeat (first | refine stp ?_ | (refine sti ?_; intro _) | refine stf ?_ | (refine stb ?_; intro _))
      exact G.again (S := RnSt2) ⟨i + 1, s2, n, a10, c10, a20, c20, a30, c30, a40, c40, a50, c50⟩ (by dsimp only; omega) ⟨hi1, by dsimp only; omega, by dsimp only; omega, hs2, hss2, hrun⟩ inferInstance (look_sub_cons rfl (look_sub_cons rfl (look_sub_cons rfl (look_sub_cons rfl (look_sub_cons rfl (look_sub_cons rfl look_sub_nil)))))) (List.sublist_append_left [_, _, _] [_])
    | false =>
      rw [hno] at hpk hrun
      rw [if_neg (by simp)] at hrun
      repeat (first | refine stp ?_ | (refine sti ?_; intro _) | refine stf ?_ | (refine stb ?_; intro _))
      refine W.drawX 13 (fun D c => (b7, Ob [.slice a1 s.sets.length c1, .slice a2 s.left.length c2, .slice a3 s.at_.length c3, .slice a4 s.begun.length c4, .slice a5 s.done.length c5] 28) :: (b4, Ob [.slice none 0 0, .slice none 0 0, .slice none 0 0, .slice none 0 0, .slice none 0 0] 28) :: (b2, Ob [.slice a1x l.sets.length c1x, .slice a2x l.left.length c2x, .slice a3x l.at_.length c3x, .slice a4x l.begun.length c4x, .slice a5x l.done.length c5x] 28) :: (bif D 10 then [(pb (c 10), Ob (bif D 11 then [.slice (la 0 (c 5)) s2.sets.length (lc 0 (c 5)), .slice (la 1 (c 5)) s2.left.length (lc 1 (c 5)), .slice (la 2 (c 5)) s2.at_.length (lc 2 (c 5)), .slice (la 3 (c 5)) s2.begun.length (lc 3 (c 5)), .slice (la 4 (c 5)) s2.done.length (lc 4 (c 5))] else [.slice none 0 0, .slice none 0 0, .slice none 0 0, .slice none 0 0, .slice none 0 0]) 28)] else [])) [⟨?v0_2, fun _ z => []⟩, ⟨?v1_2, fun _ z => []⟩, ⟨?v2_2, fun _ z => []⟩, ⟨fun _ z => z, fun _ z => [fPt z ps[i]]⟩, ⟨?v4_2, fun _ z => []⟩, ⟨fun c z => .tuple #[.agg #[.slice (la 0 z) s2.sets.length (lc 0 z), .slice (la 1 z) s2.left.length (lc 1 z), .slice (la 2 z) s2.at_.length (lc 2 z), .slice (la 3 z) s2.begun.length (lc 3 z), .slice (la 4 z) s2.done.length (lc 4 z)], .bool true, .int .i64 0], fun _ z => [fRp (.agg #[.slice (la 0 z) s2.sets.length (lc 0 z), .slice (la 1 z) s2.left.length (lc 1 z), .slice (la 2 z) s2.at_.length (lc 2 z), .slice (la 3 z) s2.begun.length (lc 3 z), .slice (la 4 z) s2.done.length (lc 4 z)]) s2]⟩, ⟨?v6_2, fun _ z => []⟩, ⟨?v7_2, fun _ z => []⟩, ⟨?v8_2, fun _ z => []⟩, ⟨?v9_2, fun _ z => []⟩, ⟨fun _ z => .pointer (some ⟨pb z, 0, none⟩), fun _ z => []⟩, ⟨fun _ z => z, fun _ z => []⟩, ⟨?v12_2, fun _ z => []⟩] [[], [], [], [1, 2], [3], [0, 4], [5], [5, 6], [5, 6], [5, 6], [], [7, 10], [8]] [5, 9, 10, 12] (by kernel_rfl) (by kernel_rfl) (by kernel_rfl) (by kernel_rfl) ?loc_2 ?hz_2 ?ops_2 ?rest_2
      case ops_2 =>
        simp only [AllX, Nat.reduceAdd, and_true]
        refine ⟨?_, ?_, ?_, ?_, ?_, ?_, ?_, ?_, ?_, ?_, ?_, ?_, ?_⟩
        all_goals (intro D c z0 Φr Lr K hDi hAnc hDn hK; dsimp only [dstOf, dstX, putX, kval, kfac, ancE, ancX, ancF, getD_z, getD_s, List.getElem?_cons_zero, List.getElem?_cons_succ, List.getElem?_nil, Option.getD_some, Option.getD_none, List.nil_append, List.cons_append, Option.getD] at hK ⊢)
        iterate 3 ((first | refine stp ?_ | refine stf ?_); exact hK z0)
        · refine o_idxN i rfl rfl rfl rfl rfl hi1 ?_; intro p; exact hK _
        · (first | refine stp ?_ | refine stf ?_); exact hK z0
        · have h11 : D 11 = false := dnF hDn hDi (by kernel_rfl); simp only [updD, updC, hDi, h11, Nat.reduceEqDiff, ↓reduceIte, cond_true, cond_false] at hK ⊢; refine OpK.call rfl rfl rfl rfl (hpk _) inferInstance (Mr := _) (List.Perm.refl _) ?_; rintro u Φ' Mc' ⟨v', rfl, rfl, rfl⟩; dsimp only [List.cons_append, List.nil_append]; refine G.lot v' s2 ?_; intro a10 c10 a20 c20 a30 c30 a40 c40 a50 c50 e; subst e; refine G.weaken (hK (.agg #[.slice a10 0 c10, .slice a20 0 c20, .slice a30 0 c30, .slice a40 0 c40, .slice a50 0 c50])) (fun φ hφ => .tail _ (.tail _ (.tail _ (.tail _ (.tail _ hφ))))) (fun _ _ h => h) (List.Sublist.refl _)
        iterate 4 (refine stp ?_; exact hK z0)
        · have h11 : D 11 = false := dnF hDn hDi (by kernel_rfl); simp only [updD, updC, hDi, h11, Nat.reduceEqDiff, ↓reduceIte, cond_true, cond_false] at hK ⊢; refine o_alloc rfl rfl ?_; intro b; refine G.perm (hK (.pointer (some ⟨b, 0, none⟩))) ?_; exact (List.perm_append_comm (l₁ := [_]) (l₂ := [_, _, _]))
        · have h10 : D 10 = true := hAnc 10 (by kernel_rfl); simp only [updD, updC, hDi, h10, Nat.reduceEqDiff, ↓reduceIte, cond_true, cond_false] at hK ⊢; refine stp ?_; exact hK z0
        · refine stp ?_; exact hK z0
      case hz_2 => intro c; rfl
      case loc_2 =>
        simp only [AllL, Nat.reduceAdd, and_true]
        refine ⟨?_, ?_, ?_, ?_, ?_, ?_, ?_, ?_, ?_, ?_, ?_, ?_, ?_⟩
        · exact fun _ _ _ _ => ⟨rfl, rfl⟩
        · exact fun _ _ _ _ => ⟨rfl, rfl⟩
        · exact fun _ _ _ _ => ⟨rfl, rfl⟩
        · exact fun _ _ _ _ => ⟨rfl, rfl⟩
        · exact fun _ _ _ _ => ⟨rfl, rfl⟩
        · exact fun _ _ _ _ => ⟨rfl, rfl⟩
        · intro c c' z h; simp only [getD_s, getD_z, h 5 (by kernel_rfl), and_self]
        · intro c c' z h; simp only [getD_s, getD_z, h 5 (by kernel_rfl), and_self]
        · intro c c' z h; simp only [getD_s, getD_z, h 5 (by kernel_rfl), and_self]
        · intro c c' z h; simp only [getD_s, getD_z, h 5 (by kernel_rfl), and_self]
        · exact fun _ _ _ _ => ⟨rfl, rfl⟩
        · exact fun _ _ _ _ => ⟨rfl, rfl⟩
        · exact fun _ _ _ _ => ⟨rfl, rfl⟩
      intro c
      dsimp only [dstOf, dstX, putX, kval, kfac, ancE, ancX,  ancF, getD_z, getD_s, List.getElem?_cons_zero, List.getElem?_cons_succ, List.getElem?_nil, Option.getD_some, Option.getD_none, List.nil_append, List.cons_append, List.drop_succ_cons, List.drop_zero, Option.getD]
      show LW _ _ _ _ _ _ [(b7, Ob [.slice a1 s.sets.length c1, .slice a2 s.left.length c2, .slice a3 s.at_.length c3, .slice a4 s.begun.length c4, .slice a5 s.done.length c5] 28), (b4, Ob [.slice none 0 0, .slice none 0 0, .slice none 0 0, .slice none 0 0, .slice none 0 0] 28), (b2, Ob [.slice a1x l.sets.length c1x, .slice a2x l.left.length c2x, .slice a3x l.at_.length c3x, .slice a4x l.begun.length c4x, .slice a5x l.done.length c5x] 28), (pb (c 10), Ob [.slice (la 0 (c 5)) s2.sets.length (lc 0 (c 5)), .slice (la 1 (c 5)) s2.left.length (lc 1 (c 5)), .slice (la 2 (c 5)) s2.at_.length (lc 2 (c 5)), .slice (la 3 (c 5)) s2.begun.length (lc 3 (c 5)), .slice (la 4 (c 5)) s2.done.length (lc 4 (c 5))] 28)]
      generalize pb (c 10) = b10
      generalize la 0 (c 5) = a10
      generalize lc 0 (c 5) = c10
      generalize la 1 (c 5) = a20
      generalize lc 1 (c 5) = c20
      generalize la 2 (c 5) = a30
      generalize lc 2 (c 5) = c30
      generalize la 3 (c 5) = a40
      generalize lc 3 (c 5) = c40
      generalize la 4 (c 5) = a50
      generalize lc 4 (c 5) = c50
      repeat (first | refine stp ?_ | (refine sti ?_; intro _) | refine stf ?_ | (refine stb ?_; intro _))
      exact G.again (S := RnSt2) ⟨i + 1, s2, n + 1, a10, c10, a20, c20, a30, c30, a40, c40, a50, c50⟩ (by dsimp only; omega) ⟨hi1, by dsimp only; omega, by dsimp only; omega, hs2, hss2, hrun⟩ inferInstance (look_sub_cons rfl (look_sub_cons rfl (look_sub_cons rfl (look_sub_cons rfl (look_sub_cons rfl (look_sub_cons rfl look_sub_nil)))))) (List.sublist_append_left [_, _, _] [_])
end Go.Rail
