/- lanes.own lays a lot into memory of its own. -/
import Derived.Test.YtoiepfapghnccaaGreatAN1N2
import Derived.Test.YtoiepfapghnccaaGreatRailE
import Derived.Test.YtoiepfapghnccaaGreatRailD
namespace Go.Rail
open Go Go.Proofs
set_option linter.unusedSimpArgs false
set_option linter.unusedVariables false
set_option maxHeartbeats 400000
set_option maxRecDepth 4000
attribute [local irreducible] OpK G W LW wpListIn Exit.then Exit.inBlock Post rounds opRun bodyPostM intOp
attribute [local irreducible] badM rightS mayG clashS
structure OwSt where
  i : Nat
  cs : List Value
set_option maxHeartbeats 4000000 in
theorem own_spec (v : Value) (l : Lot) (hl : FitL l) : Fn Tryz.prog 29 [v] [fRp v l] [] (ROwnLot 3 4 id l) := by
  obtain ⟨fs, ns, nl, na, nb, nd⟩ := hl
  refine Fn.enter Tryz.func29 rfl Tryz.ntmps29 (by simp) (fun I0 w0 => ?_)
  refine W.bare (G.lot v l ?_)
  intro a1 c1 a2 c2 a3 c3 a4 c4 a5 c5 e
  subst e
  repeat (first | refine stp ?_ | (refine sti ?_; intro _) | refine stf ?_ | (refine stb ?_; intro _))
  rename_i b1 b2
  refine o_callO rfl rfl rfl rfl (cloneSe_spec (.slice a1 l.sets.length c1) l.sets (by omega)) ?_
  intro v7 oS hS
  dsimp only [List.cons_append, List.nil_append]
  repeat (first | refine stp ?_ | (refine sti ?_; intro _) | refine stf ?_ | (refine stb ?_; intro _))
  refine o_store (vs := [v7]) (cs' := [v7, .slice a2 l.left.length c2, .slice a3 l.at_.length c3, .slice a4 l.begun.length c4, .slice a5 l.done.length c5]) rfl rfl rfl (own_cell hS).1 rfl (Nat.le_of_ble_eq_true rfl) (own_cell hS).2 rfl ?_
  repeat (first | refine stp ?_ | (refine sti ?_; intro _) | refine stf ?_ | (refine stb ?_; intro _))
  refine o_lenO oS hS rfl rfl rfl ?_
  cases oS with
  | none =>
    obtain ⟨rfl, hn0⟩ := hS
    repeat (first | refine stp ?_ | (refine sti ?_; intro _) | refine stf ?_ | (refine stb ?_; intro _))
    have hs0 : l.sets = [] := List.length_eq_zero_iff.1 hn0
    refine W.loopN 1 ?_
    repeat (first | refine stp ?_ | (refine sti ?_; intro _) | refine stf ?_ | (refine stb ?_; intro _))
    refine W.drawX 13 (fun D c => (b2, Ob [.slice none 0 0, .slice none 0 0, .slice none 0 0, .slice none 0 0, .slice none 0 0] 28) :: (b1, Ob [.slice none 0 0, .slice a2 l.left.length c2, .slice a3 l.at_.length c3, .slice a4 l.begun.length c4, .slice a5 l.done.length c5] 28) :: ((bif D 2 then ownM 3 (co (c 2)) else []) ++ ((bif D 5 then ownM 3 (co (c 5)) else []) ++ ((bif D 8 then ownM 4 (co (c 8)) else []) ++ (bif D 11 then ownM 3 (co (c 11)) else []))))) [⟨?v0_1, fun _ z => []⟩, ⟨?v1_1, fun _ z => []⟩, ⟨fun _ z => cv z, fun _ z => [fPure (IsOwn 1 (cv z) l.left.length (co z)), fRow (ocells (co z)) l.left]⟩, ⟨?v3_1, fun _ z => []⟩, ⟨?v4_1, fun _ z => []⟩, ⟨fun _ z => cv z, fun _ z => [fPure (IsOwn 1 (cv z) l.at_.length (co z)), fRow (ocells (co z)) l.at_]⟩, ⟨?v6_1, fun _ z => []⟩, ⟨?v7_1, fun _ z => []⟩, ⟨fun _ z => cv z, fun _ z => [fPure (IsOwn 1 (cv z) l.begun.length (co z)), fRow (ocells (co z)) l.begun]⟩, ⟨?v9_1, fun _ z => []⟩, ⟨?v10_1, fun _ z => []⟩, ⟨fun _ z => cv z, fun _ z => [fPure (IsOwn 1 (cv z) l.done.length (co z)), fRow (ocells (co z)) l.done]⟩, ⟨?v12_1, fun _ z => []⟩] [[], [0], [1], [], [3], [4], [], [6], [7], [], [9], [10], []] [2, 5, 8, 11, 12] (by kernel_rfl) (by kernel_rfl) (by kernel_rfl) (by kernel_rfl) ?loc_1 ?hz_1 ?ops_1 ?rest_1
    case ops_1 =>
      simp only [AllX, Nat.reduceAdd, and_true]
      refine ⟨?_, ?_, ?_, ?_, ?_, ?_, ?_, ?_, ?_, ?_, ?_, ?_, ?_⟩
      all_goals (intro D c z0 Φr Lr K hDi hAnc hDn hK; dsimp only [dstOf, dstX, putX, kval, kfac, ancE, ancX, ancF, getD_z, getD_s, List.getElem?_cons_zero, List.getElem?_cons_succ, List.getElem?_nil, Option.getD_some, Option.getD_none, List.nil_append, List.cons_append, Option.getD] at hK ⊢)
      · refine stp ?_; exact hK z0
      · (first | refine stp ?_ | refine stf ?_); exact hK z0
      · have h5 : D 5 = false := dnF hDn hDi (by kernel_rfl); have h8 : D 8 = false := dnF hDn hDi (by kernel_rfl); have h11 : D 11 = false := dnF hDn hDi (by kernel_rfl); simp only [updD, updC, hDi, h5, h8, h11, Nat.reduceEqDiff, ↓reduceIte, cond_true, cond_false, List.append_nil, List.nil_append] at hK ⊢; refine o_callO rfl rfl rfl rfl (cloneI_spec (.slice a2 l.left.length c2) l.left (by omega)) ?_; intro v' o' hown'; have hk := hK (codeO v' o'); simp only [cv_code, co_code] at hk; refine G.learn (fPure (IsOwn 1 v' _ o')) (e := ⟨fun _ _ => hown'⟩) ?_; exact hk
      · refine stp ?_; exact hK z0
      · (first | refine stp ?_ | refine stf ?_); exact hK z0
      · have h2 : D 2 = true := hAnc 2 (by kernel_rfl); have h8 : D 8 = false := dnF hDn hDi (by kernel_rfl); have h11 : D 11 = false := dnF hDn hDi (by kernel_rfl); simp only [updD, updC, hDi, h2, h8, h11, Nat.reduceEqDiff, ↓reduceIte, cond_true, cond_false, List.append_nil, List.nil_append] at hK ⊢; refine o_callO rfl rfl rfl rfl (cloneI_spec (.slice a3 l.at_.length c3) l.at_ (by omega)) ?_; intro v' o' hown'; have hk := hK (codeO v' o'); simp only [cv_code, co_code] at hk; refine G.learn (fPure (IsOwn 1 v' _ o')) (e := ⟨fun _ _ => hown'⟩) ?_; refine G.perm hk ?_; simp only [List.cons_append, List.append_assoc]; exact List.Perm.refl _
      · refine stp ?_; exact hK z0
      · (first | refine stp ?_ | refine stf ?_); exact hK z0
      · have h2 : D 2 = true := hAnc 2 (by kernel_rfl); have h5 : D 5 = true := hAnc 5 (by kernel_rfl); have h11 : D 11 = false := dnF hDn hDi (by kernel_rfl); simp only [updD, updC, hDi, h2, h5, h11, Nat.reduceEqDiff, ↓reduceIte, cond_true, cond_false, List.append_nil, List.nil_append] at hK ⊢; refine o_callO rfl rfl rfl rfl (cloneBo_spec (.slice a4 l.begun.length c4) l.begun (by omega)) ?_; intro v' o' hown'; have hk := hK (codeO v' o'); simp only [cv_code, co_code] at hk; refine G.learn (fPure (IsOwn 1 v' _ o')) (e := ⟨fun _ _ => hown'⟩) ?_; refine G.perm hk ?_; simp only [List.cons_append, List.append_assoc]; exact List.Perm.refl _
      · refine stp ?_; exact hK z0
      · (first | refine stp ?_ | refine stf ?_); exact hK z0
      · have h2 : D 2 = true := hAnc 2 (by kernel_rfl); have h5 : D 5 = true := hAnc 5 (by kernel_rfl); have h8 : D 8 = true := hAnc 8 (by kernel_rfl); simp only [updD, updC, hDi, h2, h5, h8, Nat.reduceEqDiff, ↓reduceIte, cond_true, cond_false, List.append_nil, List.nil_append] at hK ⊢; refine o_callO rfl rfl rfl rfl (cloneI_spec (.slice a5 l.done.length c5) l.done (by omega)) ?_; intro v' o' hown'; have hk := hK (codeO v' o'); simp only [cv_code, co_code] at hk; refine G.learn (fPure (IsOwn 1 v' _ o')) (e := ⟨fun _ _ => hown'⟩) ?_; refine G.perm hk ?_; simp only [List.cons_append, List.append_assoc]; exact List.Perm.refl _
      · refine stp ?_; exact hK z0
    case hz_1 => intro c; rfl
    case loc_1 =>
      simp only [AllL, Nat.reduceAdd, and_true]
      refine ⟨?_, ?_, ?_, ?_, ?_, ?_, ?_, ?_, ?_, ?_, ?_, ?_, ?_⟩
      all_goals (intro c c' z h; first | exact ⟨rfl, rfl⟩ | (skip))
    intro c
    dsimp only [dstOf, dstX, putX, kval, kfac, ancE, ancX,  ancF, getD_z, getD_s, List.getElem?_cons_zero, List.getElem?_cons_succ, List.getElem?_nil, Option.getD_some, Option.getD_none, List.nil_append, List.cons_append, List.drop_succ_cons, List.drop_zero, Option.getD]
    show LW _ _ _ _ _ _ (_ :: _ :: (ownM 3 (co (c 2)) ++ (ownM 3 (co (c 5)) ++ (ownM 4 (co (c 8)) ++ ownM 3 (co (c 11))))))
    refine LW.bare (G.use (p := IsOwn 1 (cv (c 2)) l.left.length (co (c 2))) (fun I hp => hp (fPure _) (by first | exact .head _ | exact .tail _ (.head _) | exact .tail _ (.tail _ (.head _)) | exact .tail _ (.tail _ (.tail _ (.head _))) | exact .tail _ (.tail _ (.tail _ (.tail _ (.head _)))) | exact .tail _ (.tail _ (.tail _ (.tail _ (.tail _ (.head _))))) | exact .tail _ (.tail _ (.tail _ (.tail _ (.tail _ (.tail _ (.head _)))))) | exact .tail _ (.tail _ (.tail _ (.tail _ (.tail _ (.tail _ (.tail _ (.head _))))))) | exact .tail _ (.tail _ (.tail _ (.tail _ (.tail _ (.tail _ (.tail _ (.tail _ (.head _)))))))) | exact .tail _ (.tail _ (.tail _ (.tail _ (.tail _ (.tail _ (.tail _ (.tail _ (.tail _ (.head _))))))))) | exact .tail _ (.tail _ (.tail _ (.tail _ (.tail _ (.tail _ (.tail _ (.tail _ (.tail _ (.tail _ (.head _)))))))))) | exact .tail _ (.tail _ (.tail _ (.tail _ (.tail _ (.tail _ (.tail _ (.tail _ (.tail _ (.tail _ (.tail _ (.head _))))))))))) | exact .tail _ (.tail _ (.tail _ (.tail _ (.tail _ (.tail _ (.tail _ (.tail _ (.tail _ (.tail _ (.tail _ (.tail _ (.head _)))))))))))))) ?_)
    intro hoL
    refine G.use (p := IsOwn 1 (cv (c 5)) l.at_.length (co (c 5))) (fun I hp => hp (fPure _) (by first | exact .head _ | exact .tail _ (.head _) | exact .tail _ (.tail _ (.head _)) | exact .tail _ (.tail _ (.tail _ (.head _))) | exact .tail _ (.tail _ (.tail _ (.tail _ (.head _)))) | exact .tail _ (.tail _ (.tail _ (.tail _ (.tail _ (.head _))))) | exact .tail _ (.tail _ (.tail _ (.tail _ (.tail _ (.tail _ (.head _)))))) | exact .tail _ (.tail _ (.tail _ (.tail _ (.tail _ (.tail _ (.tail _ (.head _))))))) | exact .tail _ (.tail _ (.tail _ (.tail _ (.tail _ (.tail _ (.tail _ (.tail _ (.head _)))))))) | exact .tail _ (.tail _ (.tail _ (.tail _ (.tail _ (.tail _ (.tail _ (.tail _ (.tail _ (.head _))))))))) | exact .tail _ (.tail _ (.tail _ (.tail _ (.tail _ (.tail _ (.tail _ (.tail _ (.tail _ (.tail _ (.head _)))))))))) | exact .tail _ (.tail _ (.tail _ (.tail _ (.tail _ (.tail _ (.tail _ (.tail _ (.tail _ (.tail _ (.tail _ (.head _))))))))))) | exact .tail _ (.tail _ (.tail _ (.tail _ (.tail _ (.tail _ (.tail _ (.tail _ (.tail _ (.tail _ (.tail _ (.tail _ (.head _)))))))))))))) ?_
    intro hoA
    refine G.use (p := IsOwn 1 (cv (c 8)) l.begun.length (co (c 8))) (fun I hp => hp (fPure _) (by first | exact .head _ | exact .tail _ (.head _) | exact .tail _ (.tail _ (.head _)) | exact .tail _ (.tail _ (.tail _ (.head _))) | exact .tail _ (.tail _ (.tail _ (.tail _ (.head _)))) | exact .tail _ (.tail _ (.tail _ (.tail _ (.tail _ (.head _))))) | exact .tail _ (.tail _ (.tail _ (.tail _ (.tail _ (.tail _ (.head _)))))) | exact .tail _ (.tail _ (.tail _ (.tail _ (.tail _ (.tail _ (.tail _ (.head _))))))) | exact .tail _ (.tail _ (.tail _ (.tail _ (.tail _ (.tail _ (.tail _ (.tail _ (.head _)))))))) | exact .tail _ (.tail _ (.tail _ (.tail _ (.tail _ (.tail _ (.tail _ (.tail _ (.tail _ (.head _))))))))) | exact .tail _ (.tail _ (.tail _ (.tail _ (.tail _ (.tail _ (.tail _ (.tail _ (.tail _ (.tail _ (.head _)))))))))) | exact .tail _ (.tail _ (.tail _ (.tail _ (.tail _ (.tail _ (.tail _ (.tail _ (.tail _ (.tail _ (.tail _ (.head _))))))))))) | exact .tail _ (.tail _ (.tail _ (.tail _ (.tail _ (.tail _ (.tail _ (.tail _ (.tail _ (.tail _ (.tail _ (.tail _ (.head _)))))))))))))) ?_
    intro hoB
    refine G.use (p := IsOwn 1 (cv (c 11)) l.done.length (co (c 11))) (fun I hp => hp (fPure _) (by first | exact .head _ | exact .tail _ (.head _) | exact .tail _ (.tail _ (.head _)) | exact .tail _ (.tail _ (.tail _ (.head _))) | exact .tail _ (.tail _ (.tail _ (.tail _ (.head _)))) | exact .tail _ (.tail _ (.tail _ (.tail _ (.tail _ (.head _))))) | exact .tail _ (.tail _ (.tail _ (.tail _ (.tail _ (.tail _ (.head _)))))) | exact .tail _ (.tail _ (.tail _ (.tail _ (.tail _ (.tail _ (.tail _ (.head _))))))) | exact .tail _ (.tail _ (.tail _ (.tail _ (.tail _ (.tail _ (.tail _ (.tail _ (.head _)))))))) | exact .tail _ (.tail _ (.tail _ (.tail _ (.tail _ (.tail _ (.tail _ (.tail _ (.tail _ (.head _))))))))) | exact .tail _ (.tail _ (.tail _ (.tail _ (.tail _ (.tail _ (.tail _ (.tail _ (.tail _ (.tail _ (.head _)))))))))) | exact .tail _ (.tail _ (.tail _ (.tail _ (.tail _ (.tail _ (.tail _ (.tail _ (.tail _ (.tail _ (.tail _ (.head _))))))))))) | exact .tail _ (.tail _ (.tail _ (.tail _ (.tail _ (.tail _ (.tail _ (.tail _ (.tail _ (.tail _ (.tail _ (.tail _ (.head _)))))))))))))) ?_
    intro hoD
    generalize cv (c 2) = vL at hoL ⊢
    generalize co (c 2) = oL at hoL ⊢
    generalize cv (c 5) = vA at hoA ⊢
    generalize co (c 5) = oA at hoA ⊢
    generalize cv (c 8) = vB at hoB ⊢
    generalize co (c 8) = oB at hoB ⊢
    generalize cv (c 11) = vD at hoD ⊢
    generalize co (c 11) = oD at hoD ⊢
    repeat (first | refine stp ?_ | (refine sti ?_; intro _) | refine stf ?_ | (refine stb ?_; intro _))
    refine o_store (vs := [vL]) (cs' := [.slice none 0 0, vL, .slice a3 l.at_.length c3, .slice a4 l.begun.length c4, .slice a5 l.done.length c5]) rfl rfl rfl (own_cell hoL).1 rfl (Nat.le_of_ble_eq_true rfl) (own_cell hoL).2 rfl ?_
    repeat (first | refine stp ?_ | (refine sti ?_; intro _) | refine stf ?_ | (refine stb ?_; intro _))
    refine o_store (vs := [vA]) (cs' := [.slice none 0 0, vL, vA, .slice a4 l.begun.length c4, .slice a5 l.done.length c5]) rfl rfl rfl (own_cell hoA).1 rfl (Nat.le_of_ble_eq_true rfl) (own_cell hoA).2 rfl ?_
    repeat (first | refine stp ?_ | (refine sti ?_; intro _) | refine stf ?_ | (refine stb ?_; intro _))
    refine o_store (vs := [vB]) (cs' := [.slice none 0 0, vL, vA, vB, .slice a5 l.done.length c5]) rfl rfl rfl (own_cell hoB).1 rfl (Nat.le_of_ble_eq_true rfl) (own_cell hoB).2 rfl ?_
    repeat (first | refine stp ?_ | (refine sti ?_; intro _) | refine stf ?_ | (refine stb ?_; intro _))
    refine o_store (vs := [vD]) (cs' := [.slice none 0 0, vL, vA, vB, vD]) rfl rfl rfl (own_cell hoD).1 rfl (Nat.le_of_ble_eq_true rfl) (own_cell hoD).2 rfl ?_
    repeat (first | refine stp ?_ | (refine sti ?_; intro _) | refine stf ?_ | (refine stb ?_; intro _))
    refine o_store (vs := [.slice none 0 0, vL, vA, vB, vD]) (cs' := [.slice none 0 0, vL, vA, vB, vD]) rfl rfl rfl rfl rfl (Nat.le_of_ble_eq_true rfl) (by
      have q1 := (own_cell hoL).2
      have q2 := (own_cell hoA).2
      have q3 := (own_cell hoB).2
      have q4 := (own_cell hoD).2
      simp only [ones, List.all_cons, List.all_nil, Bool.and_true, Bool.and_eq_true] at q1 q2 q3 q4 ⊢
      exact ⟨rfl, q1, q2, q3, q4⟩) rfl ?_
    repeat (first | refine stp ?_ | (refine sti ?_; intro _) | refine stf ?_ | (refine stb ?_; intro _))
    refine G.ret rfl (.cons (.cellA rfl rfl) .nil) (Φ' := [fRp (.slice none l.sets.length 0) l.sets, fRow (ocells oL) l.left, fRow (ocells oA) l.at_, fRow (ocells oB) l.begun, fRow (ocells oD) l.done]) (M' := ownM 3 oL ++ (ownM 3 oA ++ (ownM 4 oB ++ ownM 3 oD))) (Ents.cons (a := ⟨fun I _ => by rw [hs0]; exact Rp.nil none 0⟩) (b := inferInstance)) (.cons _ (.cons _ (List.Sublist.refl _))) ⟨none, 0, vL, oL, vA, oA, vB, oB, vD, oD, ?_, hoL, hoA, hoB, hoD, rfl, rfl⟩
    rw [hn0]
    rfl
  | some q =>
    obtain ⟨bS, cs0⟩ := q
    obtain ⟨cap, rfl, hcs, hcap⟩ := hS
    show G _ (fRow cs0 l.sets :: fRp (.slice a1 l.sets.length c1) l.sets :: fRp (.slice a2 l.left.length c2) l.left :: fRp (.slice a3 l.at_.length c3) l.at_ :: fRp (.slice a4 l.begun.length c4) l.begun :: fRp (.slice a5 l.done.length c5) l.done :: _) _ [(b2, Ob [.slice none 0 0, .slice none 0 0, .slice none 0 0, .slice none 0 0, .slice none 0 0] 28), (b1, Ob [.slice (some ⟨bS, 0, none⟩) l.sets.length cap, .slice a2 l.left.length c2, .slice a3 l.at_.length c3, .slice a4 l.begun.length c4, .slice a5 l.done.length c5] 28), (bS, Ob cs0 39)] _
    repeat (first | refine stp ?_ | (refine sti ?_; intro _) | refine stf ?_ | (refine stb ?_; intro _))
    refine W.loopI (fun (s : OwSt) => ([fRow s.cs l.sets, fRp (.slice a2 l.left.length c2) l.left, fRp (.slice a3 l.at_.length c3) l.at_, fRp (.slice a4 l.begun.length c4) l.begun, fRp (.slice a5 l.done.length c5) l.done], [(1, .pointer (some ⟨b1, 0, none⟩)), (2, .pointer (some ⟨b2, 0, none⟩)), (10, .slice (some ⟨bS, 0, none⟩) l.sets.length cap), (11, .int .i64 l.sets.length), (12, .int .i64 s.i)], [(b2, Ob [.slice none 0 0, .slice none 0 0, .slice none 0 0, .slice none 0 0, .slice none 0 0] 28), (b1, Ob [.slice (some ⟨bS, 0, none⟩) l.sets.length cap, .slice a2 l.left.length c2, .slice a3 l.at_.length c3, .slice a4 l.begun.length c4, .slice a5 l.done.length c5] 28), (bS, Ob s.cs 39)])) (fun s => s.i ≤ l.sets.length ∧ s.cs.length = cs0.length) (fun s => l.sets.length - s.i) ⟨0, cs0⟩ ⟨Nat.zero_le _, rfl⟩ inferInstance (look_sub_cons rfl (look_sub_cons rfl (look_sub_cons rfl (look_sub_cons rfl (look_sub_cons rfl look_sub_nil))))) (List.Sublist.refl _) ?_
    rintro ⟨i, cs⟩ ⟨hi, hcl⟩
    dsimp only at hi hcl ⊢
    by_cases hi0 : i = l.sets.length
    case neg =>
      have hi1 : i < l.sets.length := by omega
      have hfi := fs l.sets[i] (List.getElem_mem hi1)
      repeat (first | refine stp ?_ | (refine sti ?_; intro _) | refine stf ?_ | (refine stb ?_; intro _))
      refine o_idxO rfl rfl rfl rfl (by omega) (by omega) (o' := i * 2) (by omega) ?_
      repeat (first | refine stp ?_ | (refine sti ?_; intro _) | refine stf ?_ | (refine stb ?_; intro _))
      refine o_loadOR (α := Sets) (xs := l.sets) i hi1 rfl rfl rfl rfl rfl ?_
      intro v16
      refine G.sets v16 l.sets[i] ?_
      intro r1 w1 e1
      refine G.slice r1 l.sets[i].reads ?_
      intro ar cr x1 _
      refine G.slice w1 l.sets[i].writes ?_
      intro aw cw x2 _
      subst x1 x2
      subst e1
      repeat (first | refine stp ?_ | (refine sti ?_; intro _) | refine stf ?_ | (refine stb ?_; intro _))
      refine W.draw 10 [⟨?v0_2, fun _ z => []⟩, ⟨?v1_2, fun _ z => []⟩, ⟨?v2_2, fun _ z => []⟩, ⟨?v3_2, fun _ z => []⟩, ⟨?v4_2, fun _ z => []⟩, ⟨fun c z => .slice (sa z) l.sets[i].reads.length (sc z), fun _ z => [fRp (.slice (sa z) l.sets[i].reads.length (sc z)) l.sets[i].reads]⟩, ⟨?v6_2, fun _ z => []⟩, ⟨?v7_2, fun _ z => []⟩, ⟨fun c z => .slice (sa z) l.sets[i].writes.length (sc z), fun _ z => [fRp (.slice (sa z) l.sets[i].writes.length (sc z)) l.sets[i].writes]⟩, ⟨?v9_2, fun _ z => []⟩] [[], [0], [], [], [3], [4], [], [6], [7], [5, 8]] [1, 2, 5, 8, 9] (by kernel_rfl) (by kernel_rfl) (by kernel_rfl) (by kernel_rfl) ?loc_2 ?ops_2 ?rest_2
      case ops_2 =>
        simp only [AllQ, Nat.reduceAdd, and_true]
        refine ⟨?_, ?_, ?_, ?_, ?_, ?_, ?_, ?_, ?_, ?_⟩
        all_goals (intro c z0 Φr Lr K hK; dsimp only [dstOf, kval, kfac, ancE, ancF, getD_z, getD_s, List.getElem?_cons_zero, List.getElem?_cons_succ, List.getElem?_nil, Option.getD_some, Option.getD_none, List.nil_append, List.cons_append, Option.getD] at hK ⊢)
        iterate 5 ((first | refine stp ?_ | refine stf ?_); exact hK z0)
        · refine o_callD rfl rfl rfl rfl (Fn.given (cloneK_spec (.slice ar l.sets[i].reads.length cr) l.sets[i].reads hfi.1)) ?_; intro u; refine G.slice u l.sets[i].reads ?_; intro a' cap' e' _; subst e'; exact hK (.slice a' 0 cap')
        · refine stp ?_; exact hK z0
        · (first | refine stp ?_ | refine stf ?_); exact hK z0
        · refine o_callD rfl rfl rfl rfl (Fn.given (cloneK_spec (.slice aw l.sets[i].writes.length cw) l.sets[i].writes hfi.2)) ?_; intro u; refine G.slice u l.sets[i].writes ?_; intro a' cap' e' _; subst e'; exact hK (.slice a' 0 cap')
        · refine stp ?_; exact hK z0
      case loc_2 =>
        simp only [AllL, Nat.reduceAdd, and_true]
        refine ⟨?_, ?_, ?_, ?_, ?_, ?_, ?_, ?_, ?_, ?_⟩
        · exact fun _ _ _ _ => ⟨rfl, rfl⟩
        · exact fun _ _ _ _ => ⟨rfl, rfl⟩
        · exact fun _ _ _ _ => ⟨rfl, rfl⟩
        · exact fun _ _ _ _ => ⟨rfl, rfl⟩
        · exact fun _ _ _ _ => ⟨rfl, rfl⟩
        · exact fun _ _ _ _ => ⟨rfl, rfl⟩
        · exact fun _ _ _ _ => ⟨rfl, rfl⟩
        · exact fun _ _ _ _ => ⟨rfl, rfl⟩
        · exact fun _ _ _ _ => ⟨rfl, rfl⟩
        · intro c c' z h; simp only [getD_s, getD_z, h 5 (by kernel_rfl), h 8 (by kernel_rfl), and_self]
      intro c
      dsimp only [dstOf, kval, kfac, ancE,  ancF, getD_z, getD_s, List.getElem?_cons_zero, List.getElem?_cons_succ, List.getElem?_nil, Option.getD_some, Option.getD_none, List.nil_append, List.cons_append, List.drop_succ_cons, List.drop_zero, Option.getD]
      repeat (first | refine stp ?_ | (refine sti ?_; intro _) | refine stf ?_ | (refine stb ?_; intro _))
      refine o_idxO rfl rfl rfl rfl (by omega) (by omega) (o' := i * 2) (by omega) ?_
      refine G.cons ?_
      refine o_storeO (α := Sets) l.sets[i] i hi1 rfl rfl rfl inferInstance rfl ?_
      intro cs' hcs'
      rw [List.set_getElem_self]
      refine G.perm ?_ (List.perm_append_comm (l₁ := [_]) (l₂ := [_, _, _]))
      dsimp only [List.cons_append, List.nil_append]
      repeat (first | refine stp ?_ | (refine sti ?_; intro _) | refine stf ?_ | (refine stb ?_; intro _))
      exact G.again (S := OwSt) ⟨i + 1, cs'⟩ (by dsimp only; omega) ⟨hi1, by dsimp only; omega⟩ inferInstance (look_sub_cons rfl (look_sub_cons rfl (look_sub_cons rfl (look_sub_cons rfl (look_sub_cons rfl look_sub_nil))))) (.cons _ (List.Sublist.refl _))
    subst hi0
    repeat (first | refine stp ?_ | (refine sti ?_; intro _) | refine stf ?_ | (refine stb ?_; intro _))
    refine W.bare (G.giveOwn (.slice (some ⟨bS, 0, none⟩) l.sets.length cap) l.sets (some (bS, cs)) 39 (Mr := [(b2, Ob [.slice none 0 0, .slice none 0 0, .slice none 0 0, .slice none 0 0, .slice none 0 0] 28), (b1, Ob [.slice (some ⟨bS, 0, none⟩) l.sets.length cap, .slice a2 l.left.length c2, .slice a3 l.at_.length c3, .slice a4 l.begun.length c4, .slice a5 l.done.length c5] 28)]) ⟨cap, rfl, by rw [hcl]; exact hcs, hcap⟩ ⟨fun I hp => Ent'.h (φ := fRow cs l.sets) I hp⟩ (List.perm_append_comm (l₁ := [_, _]) (l₂ := [_])) ?_)
    refine G.code ?_
    refine W.drawX 13 (fun D c => (b2, Ob [.slice none 0 0, .slice none 0 0, .slice none 0 0, .slice none 0 0, .slice none 0 0] 28) :: (b1, Ob [.slice (some ⟨bS, 0, none⟩) l.sets.length cap, .slice a2 l.left.length c2, .slice a3 l.at_.length c3, .slice a4 l.begun.length c4, .slice a5 l.done.length c5] 28) :: ((bif D 2 then ownM 3 (co (c 2)) else []) ++ ((bif D 5 then ownM 3 (co (c 5)) else []) ++ ((bif D 8 then ownM 4 (co (c 8)) else []) ++ (bif D 11 then ownM 3 (co (c 11)) else []))))) [⟨?v0_3, fun _ z => []⟩, ⟨?v1_3, fun _ z => []⟩, ⟨fun _ z => cv z, fun _ z => [fPure (IsOwn 1 (cv z) l.left.length (co z)), fRow (ocells (co z)) l.left]⟩, ⟨?v3_3, fun _ z => []⟩, ⟨?v4_3, fun _ z => []⟩, ⟨fun _ z => cv z, fun _ z => [fPure (IsOwn 1 (cv z) l.at_.length (co z)), fRow (ocells (co z)) l.at_]⟩, ⟨?v6_3, fun _ z => []⟩, ⟨?v7_3, fun _ z => []⟩, ⟨fun _ z => cv z, fun _ z => [fPure (IsOwn 1 (cv z) l.begun.length (co z)), fRow (ocells (co z)) l.begun]⟩, ⟨?v9_3, fun _ z => []⟩, ⟨?v10_3, fun _ z => []⟩, ⟨fun _ z => cv z, fun _ z => [fPure (IsOwn 1 (cv z) l.done.length (co z)), fRow (ocells (co z)) l.done]⟩, ⟨?v12_3, fun _ z => []⟩] [[], [0], [1], [], [3], [4], [], [6], [7], [], [9], [10], []] [2, 5, 8, 11, 12] (by kernel_rfl) (by kernel_rfl) (by kernel_rfl) (by kernel_rfl) ?loc_3 ?hz_3 ?ops_3 ?rest_3
    case ops_3 =>
      simp only [AllX, Nat.reduceAdd, and_true]
      refine ⟨?_, ?_, ?_, ?_, ?_, ?_, ?_, ?_, ?_, ?_, ?_, ?_, ?_⟩
      all_goals (intro D c z0 Φr Lr K hDi hAnc hDn hK; dsimp only [dstOf, dstX, putX, kval, kfac, ancE, ancX, ancF, getD_z, getD_s, List.getElem?_cons_zero, List.getElem?_cons_succ, List.getElem?_nil, Option.getD_some, Option.getD_none, List.nil_append, List.cons_append, Option.getD] at hK ⊢)
      · refine stp ?_; exact hK z0
      · (first | refine stp ?_ | refine stf ?_); exact hK z0
      · have h5 : D 5 = false := dnF hDn hDi (by kernel_rfl); have h8 : D 8 = false := dnF hDn hDi (by kernel_rfl); have h11 : D 11 = false := dnF hDn hDi (by kernel_rfl); simp only [updD, updC, hDi, h5, h8, h11, Nat.reduceEqDiff, ↓reduceIte, cond_true, cond_false, List.append_nil, List.nil_append] at hK ⊢; refine o_callO rfl rfl rfl rfl (cloneI_spec (.slice a2 l.left.length c2) l.left (by omega)) ?_; intro v' o' hown'; have hk := hK (codeO v' o'); simp only [cv_code, co_code] at hk; refine G.learn (fPure (IsOwn 1 v' _ o')) (e := ⟨fun _ _ => hown'⟩) ?_; exact hk
      · refine stp ?_; exact hK z0
      · (first | refine stp ?_ | refine stf ?_); exact hK z0
      · have h2 : D 2 = true := hAnc 2 (by kernel_rfl); have h8 : D 8 = false := dnF hDn hDi (by kernel_rfl); have h11 : D 11 = false := dnF hDn hDi (by kernel_rfl); simp only [updD, updC, hDi, h2, h8, h11, Nat.reduceEqDiff, ↓reduceIte, cond_true, cond_false, List.append_nil, List.nil_append] at hK ⊢; refine o_callO rfl rfl rfl rfl (cloneI_spec (.slice a3 l.at_.length c3) l.at_ (by omega)) ?_; intro v' o' hown'; have hk := hK (codeO v' o'); simp only [cv_code, co_code] at hk; refine G.learn (fPure (IsOwn 1 v' _ o')) (e := ⟨fun _ _ => hown'⟩) ?_; refine G.perm hk ?_; simp only [List.cons_append, List.append_assoc]; exact List.Perm.refl _
      · refine stp ?_; exact hK z0
      · (first | refine stp ?_ | refine stf ?_); exact hK z0
      · have h2 : D 2 = true := hAnc 2 (by kernel_rfl); have h5 : D 5 = true := hAnc 5 (by kernel_rfl); have h11 : D 11 = false := dnF hDn hDi (by kernel_rfl); simp only [updD, updC, hDi, h2, h5, h11, Nat.reduceEqDiff, ↓reduceIte, cond_true, cond_false, List.append_nil, List.nil_append] at hK ⊢; refine o_callO rfl rfl rfl rfl (cloneBo_spec (.slice a4 l.begun.length c4) l.begun (by omega)) ?_; intro v' o' hown'; have hk := hK (codeO v' o'); simp only [cv_code, co_code] at hk; refine G.learn (fPure (IsOwn 1 v' _ o')) (e := ⟨fun _ _ => hown'⟩) ?_; refine G.perm hk ?_; simp only [List.cons_append, List.append_assoc]; exact List.Perm.refl _
      · refine stp ?_; exact hK z0
      · (first | refine stp ?_ | refine stf ?_); exact hK z0
      · have h2 : D 2 = true := hAnc 2 (by kernel_rfl); have h5 : D 5 = true := hAnc 5 (by kernel_rfl); have h8 : D 8 = true := hAnc 8 (by kernel_rfl); simp only [updD, updC, hDi, h2, h5, h8, Nat.reduceEqDiff, ↓reduceIte, cond_true, cond_false, List.append_nil, List.nil_append] at hK ⊢; refine o_callO rfl rfl rfl rfl (cloneI_spec (.slice a5 l.done.length c5) l.done (by omega)) ?_; intro v' o' hown'; have hk := hK (codeO v' o'); simp only [cv_code, co_code] at hk; refine G.learn (fPure (IsOwn 1 v' _ o')) (e := ⟨fun _ _ => hown'⟩) ?_; refine G.perm hk ?_; simp only [List.cons_append, List.append_assoc]; exact List.Perm.refl _
      · refine stp ?_; exact hK z0
    case hz_3 => intro c; rfl
    case loc_3 =>
      simp only [AllL, Nat.reduceAdd, and_true]
      refine ⟨?_, ?_, ?_, ?_, ?_, ?_, ?_, ?_, ?_, ?_, ?_, ?_, ?_⟩
      all_goals (intro c c' z h; first | exact ⟨rfl, rfl⟩ | (skip))
    intro c
    dsimp only [dstOf, dstX, putX, kval, kfac, ancE, ancX,  ancF, getD_z, getD_s, List.getElem?_cons_zero, List.getElem?_cons_succ, List.getElem?_nil, Option.getD_some, Option.getD_none, List.nil_append, List.cons_append, List.drop_succ_cons, List.drop_zero, Option.getD]
    show LW _ _ _ _ _ _ (_ :: _ :: (ownM 3 (co (c 2)) ++ (ownM 3 (co (c 5)) ++ (ownM 4 (co (c 8)) ++ ownM 3 (co (c 11))))))
    refine LW.bare (G.use (p := IsOwn 1 (cv (c 2)) l.left.length (co (c 2))) (fun I hp => hp (fPure _) (by first | exact .head _ | exact .tail _ (.head _) | exact .tail _ (.tail _ (.head _)) | exact .tail _ (.tail _ (.tail _ (.head _))) | exact .tail _ (.tail _ (.tail _ (.tail _ (.head _)))) | exact .tail _ (.tail _ (.tail _ (.tail _ (.tail _ (.head _))))) | exact .tail _ (.tail _ (.tail _ (.tail _ (.tail _ (.tail _ (.head _)))))) | exact .tail _ (.tail _ (.tail _ (.tail _ (.tail _ (.tail _ (.tail _ (.head _))))))) | exact .tail _ (.tail _ (.tail _ (.tail _ (.tail _ (.tail _ (.tail _ (.tail _ (.head _)))))))) | exact .tail _ (.tail _ (.tail _ (.tail _ (.tail _ (.tail _ (.tail _ (.tail _ (.tail _ (.head _))))))))) | exact .tail _ (.tail _ (.tail _ (.tail _ (.tail _ (.tail _ (.tail _ (.tail _ (.tail _ (.tail _ (.head _)))))))))) | exact .tail _ (.tail _ (.tail _ (.tail _ (.tail _ (.tail _ (.tail _ (.tail _ (.tail _ (.tail _ (.tail _ (.head _))))))))))) | exact .tail _ (.tail _ (.tail _ (.tail _ (.tail _ (.tail _ (.tail _ (.tail _ (.tail _ (.tail _ (.tail _ (.tail _ (.head _)))))))))))))) ?_)
    intro hoL
    refine G.use (p := IsOwn 1 (cv (c 5)) l.at_.length (co (c 5))) (fun I hp => hp (fPure _) (by first | exact .head _ | exact .tail _ (.head _) | exact .tail _ (.tail _ (.head _)) | exact .tail _ (.tail _ (.tail _ (.head _))) | exact .tail _ (.tail _ (.tail _ (.tail _ (.head _)))) | exact .tail _ (.tail _ (.tail _ (.tail _ (.tail _ (.head _))))) | exact .tail _ (.tail _ (.tail _ (.tail _ (.tail _ (.tail _ (.head _)))))) | exact .tail _ (.tail _ (.tail _ (.tail _ (.tail _ (.tail _ (.tail _ (.head _))))))) | exact .tail _ (.tail _ (.tail _ (.tail _ (.tail _ (.tail _ (.tail _ (.tail _ (.head _)))))))) | exact .tail _ (.tail _ (.tail _ (.tail _ (.tail _ (.tail _ (.tail _ (.tail _ (.tail _ (.head _))))))))) | exact .tail _ (.tail _ (.tail _ (.tail _ (.tail _ (.tail _ (.tail _ (.tail _ (.tail _ (.tail _ (.head _)))))))))) | exact .tail _ (.tail _ (.tail _ (.tail _ (.tail _ (.tail _ (.tail _ (.tail _ (.tail _ (.tail _ (.tail _ (.head _))))))))))) | exact .tail _ (.tail _ (.tail _ (.tail _ (.tail _ (.tail _ (.tail _ (.tail _ (.tail _ (.tail _ (.tail _ (.tail _ (.head _)))))))))))))) ?_
    intro hoA
    refine G.use (p := IsOwn 1 (cv (c 8)) l.begun.length (co (c 8))) (fun I hp => hp (fPure _) (by first | exact .head _ | exact .tail _ (.head _) | exact .tail _ (.tail _ (.head _)) | exact .tail _ (.tail _ (.tail _ (.head _))) | exact .tail _ (.tail _ (.tail _ (.tail _ (.head _)))) | exact .tail _ (.tail _ (.tail _ (.tail _ (.tail _ (.head _))))) | exact .tail _ (.tail _ (.tail _ (.tail _ (.tail _ (.tail _ (.head _)))))) | exact .tail _ (.tail _ (.tail _ (.tail _ (.tail _ (.tail _ (.tail _ (.head _))))))) | exact .tail _ (.tail _ (.tail _ (.tail _ (.tail _ (.tail _ (.tail _ (.tail _ (.head _)))))))) | exact .tail _ (.tail _ (.tail _ (.tail _ (.tail _ (.tail _ (.tail _ (.tail _ (.tail _ (.head _))))))))) | exact .tail _ (.tail _ (.tail _ (.tail _ (.tail _ (.tail _ (.tail _ (.tail _ (.tail _ (.tail _ (.head _)))))))))) | exact .tail _ (.tail _ (.tail _ (.tail _ (.tail _ (.tail _ (.tail _ (.tail _ (.tail _ (.tail _ (.tail _ (.head _))))))))))) | exact .tail _ (.tail _ (.tail _ (.tail _ (.tail _ (.tail _ (.tail _ (.tail _ (.tail _ (.tail _ (.tail _ (.tail _ (.head _)))))))))))))) ?_
    intro hoB
    refine G.use (p := IsOwn 1 (cv (c 11)) l.done.length (co (c 11))) (fun I hp => hp (fPure _) (by first | exact .head _ | exact .tail _ (.head _) | exact .tail _ (.tail _ (.head _)) | exact .tail _ (.tail _ (.tail _ (.head _))) | exact .tail _ (.tail _ (.tail _ (.tail _ (.head _)))) | exact .tail _ (.tail _ (.tail _ (.tail _ (.tail _ (.head _))))) | exact .tail _ (.tail _ (.tail _ (.tail _ (.tail _ (.tail _ (.head _)))))) | exact .tail _ (.tail _ (.tail _ (.tail _ (.tail _ (.tail _ (.tail _ (.head _))))))) | exact .tail _ (.tail _ (.tail _ (.tail _ (.tail _ (.tail _ (.tail _ (.tail _ (.head _)))))))) | exact .tail _ (.tail _ (.tail _ (.tail _ (.tail _ (.tail _ (.tail _ (.tail _ (.tail _ (.head _))))))))) | exact .tail _ (.tail _ (.tail _ (.tail _ (.tail _ (.tail _ (.tail _ (.tail _ (.tail _ (.tail _ (.head _)))))))))) | exact .tail _ (.tail _ (.tail _ (.tail _ (.tail _ (.tail _ (.tail _ (.tail _ (.tail _ (.tail _ (.tail _ (.head _))))))))))) | exact .tail _ (.tail _ (.tail _ (.tail _ (.tail _ (.tail _ (.tail _ (.tail _ (.tail _ (.tail _ (.tail _ (.tail _ (.head _)))))))))))))) ?_
    intro hoD
    generalize cv (c 2) = vL at hoL ⊢
    generalize co (c 2) = oL at hoL ⊢
    generalize cv (c 5) = vA at hoA ⊢
    generalize co (c 5) = oA at hoA ⊢
    generalize cv (c 8) = vB at hoB ⊢
    generalize co (c 8) = oB at hoB ⊢
    generalize cv (c 11) = vD at hoD ⊢
    generalize co (c 11) = oD at hoD ⊢
    repeat (first | refine stp ?_ | (refine sti ?_; intro _) | refine stf ?_ | (refine stb ?_; intro _))
    refine o_store (vs := [vL]) (cs' := [.slice (some ⟨bS, 0, none⟩) l.sets.length cap, vL, .slice a3 l.at_.length c3, .slice a4 l.begun.length c4, .slice a5 l.done.length c5]) rfl rfl rfl (own_cell hoL).1 rfl (Nat.le_of_ble_eq_true rfl) (own_cell hoL).2 rfl ?_
    repeat (first | refine stp ?_ | (refine sti ?_; intro _) | refine stf ?_ | (refine stb ?_; intro _))
    refine o_store (vs := [vA]) (cs' := [.slice (some ⟨bS, 0, none⟩) l.sets.length cap, vL, vA, .slice a4 l.begun.length c4, .slice a5 l.done.length c5]) rfl rfl rfl (own_cell hoA).1 rfl (Nat.le_of_ble_eq_true rfl) (own_cell hoA).2 rfl ?_
    repeat (first | refine stp ?_ | (refine sti ?_; intro _) | refine stf ?_ | (refine stb ?_; intro _))
    refine o_store (vs := [vB]) (cs' := [.slice (some ⟨bS, 0, none⟩) l.sets.length cap, vL, vA, vB, .slice a5 l.done.length c5]) rfl rfl rfl (own_cell hoB).1 rfl (Nat.le_of_ble_eq_true rfl) (own_cell hoB).2 rfl ?_
    repeat (first | refine stp ?_ | (refine sti ?_; intro _) | refine stf ?_ | (refine stb ?_; intro _))
    refine o_store (vs := [vD]) (cs' := [.slice (some ⟨bS, 0, none⟩) l.sets.length cap, vL, vA, vB, vD]) rfl rfl rfl (own_cell hoD).1 rfl (Nat.le_of_ble_eq_true rfl) (own_cell hoD).2 rfl ?_
    repeat (first | refine stp ?_ | (refine sti ?_; intro _) | refine stf ?_ | (refine stb ?_; intro _))
    refine o_store (vs := [.slice (some ⟨bS, 0, none⟩) l.sets.length cap, vL, vA, vB, vD]) (cs' := [.slice (some ⟨bS, 0, none⟩) l.sets.length cap, vL, vA, vB, vD]) rfl rfl rfl rfl rfl (Nat.le_of_ble_eq_true rfl) (by
      have q1 := (own_cell hoL).2
      have q2 := (own_cell hoA).2
      have q3 := (own_cell hoB).2
      have q4 := (own_cell hoD).2
      simp only [ones, List.all_cons, List.all_nil, Bool.and_true, Bool.and_eq_true] at q1 q2 q3 q4 ⊢
      exact ⟨rfl, q1, q2, q3, q4⟩) rfl ?_
    repeat (first | refine stp ?_ | (refine sti ?_; intro _) | refine stf ?_ | (refine stb ?_; intro _))
    exact G.ret rfl (.cons (.cellA rfl rfl) .nil) (Φ' := [fRp (.slice (some ⟨bS, 0, none⟩) l.sets.length cap) l.sets, fRow (ocells oL) l.left, fRow (ocells oA) l.at_, fRow (ocells oB) l.begun, fRow (ocells oD) l.done]) (M' := ownM 3 oL ++ (ownM 3 oA ++ (ownM 4 oB ++ ownM 3 oD))) inferInstance (.cons _ (.cons _ (List.Sublist.refl _))) ⟨some ⟨bS, 0, none⟩, cap, vL, oL, vA, oA, vB, oB, vD, oD, rfl, hoL, hoA, hoB, hoD, rfl, rfl⟩
end Go.Rail
