/- lanes.pick. -/
import Derived.Test.YtoiepfapghnccaaGreatAN6
import Derived.Test.YtoiepfapghnccaaGreatRailE
namespace Go.Rail
open Go Go.Proofs
set_option linter.unusedSimpArgs false
set_option linter.unusedVariables false
set_option maxHeartbeats 400000
set_option maxRecDepth 4000
attribute [local irreducible] OpK G W LW wpListIn Exit.then Exit.inBlock Post rounds opRun bodyPostM intOp
attribute [local irreducible] badM rightS mayG clashS edgesG edgesI clG rightL donesL heldL shapeL idxG errG edgesR idleR readyR errR fillLot
theorem lpick_spec (v : Value) (l : Lot) (hl : FitL l) (hr : RightI l) (lane : Int) : Fn Tryz.prog 30 [v, .int .i64 lane] [fRp v l] [] (ROwnLot 3 4 (fun a => .tuple #[a, .bool (!noP l lane)]) (pickL l lane)) := by
  have hfit := hl
  obtain ⟨fs, ns, nl, na, nb, nd⟩ := hl
  have hA1 := hr.a1
  have hdl := right_done_len hr
  have h64 := may_len hr.may
  refine Fn.enter Tryz.func30 rfl Tryz.ntmps30 (by simp) (fun I0 w0 => ?_)
  refine W.bare (G.lot v l ?_)
  intro a1 c1 a2 c2 a3 c3 a4 c4 a5 c5 e
  subst e
  refine G.code ?_
  repeat (first | refine stp ?_ | (refine sti ?_; intro _) | refine stf ?_ | (refine stb ?_; intro _))
  rename_i b2 b4
  refine OpK.call rfl rfl rfl rfl (own_spec _ l hfit) inferInstance (Mr := _) (List.Perm.refl _) ?_
  rintro u Φ' Mc' ⟨vs, cs, vL, oL, vA, oA, vB, oB, vD, oD, rfl, hL, hA, hB, hD, rfl, rfl⟩
  cases oA with
  | none => exact absurd hA.2 (by omega)
  | some qA =>
  obtain ⟨bA, csA⟩ := qA
  refine G.use (p := ∃ ex, csA = cIx l.at_ ex) (fun I hp => row_cIx (hp (fRow csA l.at_) (.tail _ (.tail _ (.head _))))) ?_
  rintro ⟨exA, rfl⟩
  obtain ⟨capA, rfl, hcA, hcapA⟩ := id hA
  have hone : ones [.slice vs l.sets.length cs, vL, .slice (some ⟨bA, 0, none⟩) l.at_.length capA, vB, vD] = true := (by
      have q1 := (own_cell hL).2
      have q2 := (own_cell hA).2
      have q3 := (own_cell hB).2
      have q4 := (own_cell hD).2
      simp only [ones, List.all_cons, List.all_nil, Bool.and_true, Bool.and_eq_true] at q1 q2 q3 q4 ⊢
      exact ⟨rfl, q1, q2, q3, q4⟩)
  refine G.perm ?_ (perm_front (bA, Ob (cIx l.at_ exA) 3) (ownM 3 oL) (ownM 4 oB ++ ownM 3 oD) [_, _])
  dsimp only [List.cons_append, List.nil_append]
  repeat (first | refine stp ?_ | (refine sti ?_; intro _) | refine stf ?_ | (refine stb ?_; intro _))
  refine o_store (vs := [.slice vs l.sets.length cs, vL, .slice (some ⟨bA, 0, none⟩) l.at_.length capA, vB, vD]) (cs' := [.slice vs l.sets.length cs, vL, .slice (some ⟨bA, 0, none⟩) l.at_.length capA, vB, vD]) rfl rfl rfl rfl rfl (Nat.le_of_ble_eq_true rfl) hone rfl ?_
  by_cases hc1 : lane < 0
  · have hno : noP l lane = true := by simp [noP, hc1]
    unfold pickL
    rw [hno, if_pos rfl]
    repeat (first | refine stp ?_ | (refine sti ?_; intro _) | refine stf ?_ | (refine stb ?_; intro _))
    refine o_store (vs := [.slice vs l.sets.length cs, vL, .slice (some ⟨bA, 0, none⟩) l.at_.length capA, vB, vD]) (cs' := [.slice vs l.sets.length cs, vL, .slice (some ⟨bA, 0, none⟩) l.at_.length capA, vB, vD]) rfl rfl rfl rfl rfl (Nat.le_of_ble_eq_true rfl) hone rfl ?_
    repeat (first | refine stp ?_ | (refine sti ?_; intro _) | refine stf ?_ | (refine stb ?_; intro _))
    refine G.perm ?_ (List.Perm.cons _ (List.Perm.cons _ (perm_mid (bA, Ob (cIx l.at_ exA) 3) (ownM 3 oL) (ownM 4 oB ++ ownM 3 oD))))
    exact G.ret rfl (.cons (.cellA rfl rfl) (.cons (.tmp rfl) .nil)) (Φ' := [fRp (.slice vs l.sets.length cs) l.sets, fRow (ocells oL) l.left, fRow (cIx l.at_ exA) l.at_, fRow (ocells oB) l.begun, fRow (ocells oD) l.done]) (M' := ownM 3 oL ++ (ownM 3 (some (bA, cIx l.at_ exA)) ++ (ownM 4 oB ++ ownM 3 oD))) inferInstance (.cons _ (.cons _ (List.Sublist.refl _))) ⟨vs, cs, vL, oL, _, some (bA, cIx l.at_ exA), vB, oB, vD, oD, rfl, hL, hA, hB, hD, rfl, rfl⟩
  by_cases hc2 : (l.at_.length : Int) ≤ lane
  · have hno : noP l lane = true := by simp [noP, hc2]
    unfold pickL
    rw [hno, if_pos rfl]
    repeat (first | refine stp ?_ | (refine sti ?_; intro _) | refine stf ?_ | (refine stb ?_; intro _))
    refine o_store (vs := [.slice vs l.sets.length cs, vL, .slice (some ⟨bA, 0, none⟩) l.at_.length capA, vB, vD]) (cs' := [.slice vs l.sets.length cs, vL, .slice (some ⟨bA, 0, none⟩) l.at_.length capA, vB, vD]) rfl rfl rfl rfl rfl (Nat.le_of_ble_eq_true rfl) hone rfl ?_
    repeat (first | refine stp ?_ | (refine sti ?_; intro _) | refine stf ?_ | (refine stb ?_; intro _))
    refine G.perm ?_ (List.Perm.cons _ (List.Perm.cons _ (perm_mid (bA, Ob (cIx l.at_ exA) 3) (ownM 3 oL) (ownM 4 oB ++ ownM 3 oD))))
    exact G.ret rfl (.cons (.cellA rfl rfl) (.cons (.tmp rfl) .nil)) (Φ' := [fRp (.slice vs l.sets.length cs) l.sets, fRow (ocells oL) l.left, fRow (cIx l.at_ exA) l.at_, fRow (ocells oB) l.begun, fRow (ocells oD) l.done]) (M' := ownM 3 oL ++ (ownM 3 (some (bA, cIx l.at_ exA)) ++ (ownM 4 oB ++ ownM 3 oD))) inferInstance (.cons _ (.cons _ (List.Sublist.refl _))) ⟨vs, cs, vL, oL, _, some (bA, cIx l.at_ exA), vB, oB, vD, oD, rfl, hL, hA, hB, hD, rfl, rfl⟩
  obtain ⟨i, rfl⟩ : ∃ i : Nat, lane = (i : Int) := ⟨lane.toNat, by omega⟩
  have hi : i < l.at_.length := by omega
  repeat (first | refine stp ?_ | (refine sti ?_; intro _) | refine stf ?_ | (refine stb ?_; intro _))
  refine o_idxO rfl rfl rfl rfl (by omega) (by omega) (o' := i) (by omega) ?_
  refine G.cons ?_
  refine o_loadIx i hi rfl rfl rfl rfl ?_
  by_cases hc3 : l.at_[i] = -1
  · have hno : noP l (i : Int) = true := by simp [noP, atK, hi, hc3]
    unfold pickL
    rw [hno, if_pos rfl]
    repeat (first | refine stp ?_ | (refine sti ?_; intro _) | refine stf ?_ | (refine stb ?_; intro _))
    refine o_store (vs := [.slice vs l.sets.length cs, vL, .slice (some ⟨bA, 0, none⟩) l.at_.length capA, vB, vD]) (cs' := [.slice vs l.sets.length cs, vL, .slice (some ⟨bA, 0, none⟩) l.at_.length capA, vB, vD]) rfl rfl rfl rfl rfl (Nat.le_of_ble_eq_true rfl) hone rfl ?_
    repeat (first | refine stp ?_ | (refine sti ?_; intro _) | refine stf ?_ | (refine stb ?_; intro _))
    refine G.perm ?_ (List.Perm.cons _ (List.Perm.cons _ (perm_mid (bA, Ob (cIx l.at_ exA) 3) (ownM 3 oL) (ownM 4 oB ++ ownM 3 oD))))
    exact G.ret rfl (.cons (.cellA rfl rfl) (.cons (.tmp rfl) .nil)) (Φ' := [fRp (.slice vs l.sets.length cs) l.sets, fRow (ocells oL) l.left, fRow (cIx l.at_ exA) l.at_, fRow (ocells oB) l.begun, fRow (ocells oD) l.done]) (M' := ownM 3 oL ++ (ownM 3 (some (bA, cIx l.at_ exA)) ++ (ownM 4 oB ++ ownM 3 oD))) inferInstance (.cons _ (.cons _ (List.Sublist.refl _))) ⟨vs, cs, vL, oL, _, some (bA, cIx l.at_ exA), vB, oB, vD, oD, rfl, hL, hA, hB, hD, rfl, rfl⟩
  have hno : noP l (i : Int) = false := by
    unfold noP atK
    rw [Int.toNat_natCast, getD_at _ _ hi, decide_eq_false hc1, decide_eq_false hc2, decide_eq_false hc3]
    rfl
  obtain ⟨i2, k, e2, _, hk, hkn, hkl, g1, g2, hnd⟩ := pick_at hr hno
  obtain rfl : i2 = i := by omega
  rw [getD_at _ _ hi] at hk
  rw [getD_at _ _ hkl] at g1 g2
  have hpk : pickL l (i2 : Int) = if l.left[k] - 1 = 0 then fillLot ⟨l.sets, (l.left.set k (l.left[k] - 1)), l.at_.set i2 (-1), l.begun, l.done ++ [(k : Int)]⟩ else ⟨l.sets, (l.left.set k (l.left[k] - 1)), l.at_, l.begun, l.done⟩ := by
    have hat : atK l (i2 : Int) = (k : Int) := by unfold atK; rw [Int.toNat_natCast, getD_at _ _ hi]; exact hk
    unfold pickL lessL
    rw [hno, if_neg (by simp), hat, Int.toNat_natCast, Int.toNat_natCast, getD_at _ _ hkl]
  rw [hk] at hc3
  rw [hpk, hno, hk]
  cases oL with
  | none => exact absurd hL.2 (by omega)
  | some qL =>
  obtain ⟨bL, csL⟩ := qL
  refine G.use (p := ∃ ex, csL = cIx l.left ex) (fun I hp => row_cIx (hp (fRow csL l.left) (.tail _ (.head _)))) ?_
  rintro ⟨exL, rfl⟩
  obtain ⟨capL, rfl, hcL, hcapL⟩ := id hL
  change G _ _ _ ((b4, Ob [.slice none 0 0, .slice none 0 0, .slice none 0 0, .slice none 0 0, .slice none 0 0] 28) :: (b2, Ob [.slice vs l.sets.length cs, .slice (some ⟨bL, 0, none⟩) l.left.length capL, .slice (some ⟨bA, 0, none⟩) l.at_.length capA, vB, vD] 28) :: (bA, Ob (cIx l.at_ exA) 3) :: (bL, Ob (cIx l.left exL) 3) :: (ownM 4 oB ++ ownM 3 oD)) _
  repeat (first | refine stp ?_ | (refine sti ?_; intro _) | refine stf ?_ | (refine stb ?_; intro _))
  refine o_idxO rfl rfl rfl rfl (by omega) (by omega) (o' := i2) (by omega) ?_
  refine G.cons ?_
  refine o_loadIx i2 hi rfl rfl rfl rfl ?_
  rw [hk]
  repeat (first | refine stp ?_ | (refine sti ?_; intro _) | refine stf ?_ | (refine stb ?_; intro _))
  refine o_idxO rfl rfl rfl rfl (by omega) (by omega) (o' := k) (by omega) ?_
  refine G.cons ?_
  refine o_loadIx k hkl rfl rfl rfl rfl ?_
  repeat (first | refine stp ?_ | (refine sti ?_; intro _) | refine stf ?_ | (refine stb ?_; intro _))
  refine o_idxO rfl rfl rfl rfl (by omega) (by omega) (o' := k) (by omega) ?_
  refine G.cons ?_
  refine o_storeIx k (l.left[k] - 1) hkl rfl rfl rfl rfl ?_
  repeat (first | refine stp ?_ | (refine sti ?_; intro _) | refine stf ?_ | (refine stb ?_; intro _))
  refine o_idxO rfl rfl rfl rfl (by omega) (by omega) (o' := k) (by omega) ?_
  refine G.cons ?_
  refine o_loadIx k (by rw [List.length_set]; exact hkl) rfl rfl rfl rfl ?_
  rw [List.getElem_set_self]
  have hlL : (l.left.set k (l.left[k] - 1)).length = l.left.length := List.length_set
  have hLs := own_cIx (ex := exL) (A' := (l.left.set k (l.left[k] - 1))) (by exact hL) hlL
  by_cases hz : l.left[k] - 1 = 0
  case neg =>
    rw [if_neg hz]
    repeat (first | refine stp ?_ | (refine sti ?_; intro _) | refine stf ?_ | (refine stb ?_; intro _))
    refine o_store (vs := [.slice vs l.sets.length cs, .slice (some ⟨bL, 0, none⟩) l.left.length capL, .slice (some ⟨bA, 0, none⟩) l.at_.length capA, vB, vD]) (cs' := [.slice vs l.sets.length cs, .slice (some ⟨bL, 0, none⟩) l.left.length capL, .slice (some ⟨bA, 0, none⟩) l.at_.length capA, vB, vD]) rfl rfl rfl rfl rfl (Nat.le_of_ble_eq_true rfl) hone rfl ?_
    repeat (first | refine stp ?_ | (refine sti ?_; intro _) | refine stf ?_ | (refine stb ?_; intro _))
    refine G.perm ?_ (List.Perm.cons _ (List.Perm.cons _ (List.Perm.swap _ _ _)))
    exact G.ret rfl (.cons (.cellA rfl rfl) (.cons (.tmp rfl) .nil)) (Φ' := [fRp (.slice vs l.sets.length cs) l.sets, fRow (cIx (l.left.set k (l.left[k] - 1)) exL) (l.left.set k (l.left[k] - 1)), fRow (cIx l.at_ exA) l.at_, fRow (ocells oB) l.begun, fRow (ocells oD) l.done]) (M' := ownM 3 (some (bL, cIx (l.left.set k (l.left[k] - 1)) exL)) ++ (ownM 3 (some (bA, cIx l.at_ exA)) ++ (ownM 4 oB ++ ownM 3 oD))) inferInstance (.cons _ (.cons _ (List.Sublist.refl _))) ⟨vs, cs, _, some (bL, cIx (l.left.set k (l.left[k] - 1)) exL), _, some (bA, cIx l.at_ exA), vB, oB, vD, oD, rfl, by dsimp only; rw [hlL]; exact hLs, hA, hB, hD, rfl, rfl⟩
  case pos =>
  rw [if_pos hz]
  repeat (first | refine stp ?_ | (refine sti ?_; intro _) | refine stf ?_ | (refine stb ?_; intro _))
  refine W.drawX 10 (fun D c => (b4, Ob [.slice none 0 0, .slice none 0 0, .slice none 0 0, .slice none 0 0, .slice none 0 0] 28) :: (b2, Ob (bif D 9 then [.slice vs l.sets.length cs, .slice (some ⟨bL, 0, none⟩) l.left.length capL, .slice (some ⟨bA, 0, none⟩) l.at_.length capA, vB, cv (c 7)] else [.slice vs l.sets.length cs, .slice (some ⟨bL, 0, none⟩) l.left.length capL, .slice (some ⟨bA, 0, none⟩) l.at_.length capA, vB, vD]) 28) :: (bA, Ob (cIx l.at_ exA) 3) :: (bL, Ob (cIx (l.left.set k (l.left[k] - 1)) exL) 3) :: (ownM 4 oB ++ (bif D 7 then ownM 3 (co (c 7)) else ownM 3 oD))) [⟨?v0_1, fun _ z => []⟩, ⟨?v1_1, fun _ z => []⟩, ⟨?v2_1, fun _ z => []⟩, ⟨?v3_1, fun _ z => []⟩, ⟨?v4_1, fun _ z => []⟩, ⟨?v5_1, fun _ z => []⟩, ⟨fun _ z => z, fun _ z => [fRp z [(k : Int)]]⟩, ⟨fun _ z => cv z, fun _ z => [fPure (IsOwn 1 (cv z) (l.done ++ [(k : Int)]).length (co z)), fRow (ocells (co z)) (l.done ++ [(k : Int)])]⟩, ⟨?v8_1, fun _ z => []⟩, ⟨fun _ z => z, fun _ z => []⟩] [[], [0], [], [], [3], [], [5], [4, 6], [], [7, 8]] [1, 2, 7, 9] (by kernel_rfl) (by kernel_rfl) (by kernel_rfl) (by kernel_rfl) ?loc_1 ?hz_1 ?ops_1 ?rest_1
  case ops_1 =>
    simp only [AllX, Nat.reduceAdd, and_true]
    refine ⟨?_, ?_, ?_, ?_, ?_, ?_, ?_, ?_, ?_, ?_⟩
    all_goals (intro D c z0 Φr Lr K hDi hAnc hDn hK; dsimp only [dstOf, dstX, putX, kval, kfac, ancE, ancX, ancF, getD_z, getD_s, List.getElem?_cons_zero, List.getElem?_cons_succ, List.getElem?_nil, Option.getD_some, Option.getD_none, List.nil_append, List.cons_append, Option.getD] at hK ⊢)
    · refine stp ?_; exact hK z0
    · have h9 : D 9 = false := dnF hDn hDi (by kernel_rfl); simp only [updD, hDi, h9, Nat.reduceEqDiff, ↓reduceIte, cond_true, cond_false] at hK ⊢; refine stp ?_; exact hK z0
    · refine stp ?_; exact hK z0
    · refine stp ?_; exact hK z0
    · have h9 : D 9 = false := dnF hDn hDi (by kernel_rfl); simp only [updD, hDi, h9, Nat.reduceEqDiff, ↓reduceIte, cond_true, cond_false] at hK ⊢; refine stp ?_; exact hK z0
    · refine stp ?_; exact hK z0
    · refine o_lit (xs := [(k : Int)]) ⟨by decide, rfl, by decide⟩ rfl rfl rfl ⟨fun _ _ => Rp.flat.2 rfl, trivial⟩ rfl ?_; intro p1; exact hK _
    · have h9 : D 9 = false := dnF hDn hDi (by kernel_rfl); simp only [updD, updC, hDi, h9, Nat.reduceEqDiff, ↓reduceIte, cond_true, cond_false] at hK ⊢; refine o_app2 (Mr := _ :: _ :: _ :: _ :: ownM 4 oB) oD (xs := l.done) (ys := [(k : Int)]) hD ⟨by simp; omega, by simp; omega, rfl⟩ rfl rfl rfl rfl inferInstance inferInstance (List.Perm.refl _) ?_; intro v' o' hown'; have hk := hK (codeO v' o'); simp only [cv_code, co_code] at hk; refine G.learn (fPure (IsOwn 1 v' _ o')) (e := ⟨fun _ _ => hown'⟩) ?_; exact hk
    · refine stp ?_; exact hK z0
    · have h7 : D 7 = true := hAnc 7 (by kernel_rfl); simp only [updD, updC, hDi, h7, Nat.reduceEqDiff, ↓reduceIte, cond_true, cond_false] at hK ⊢; refine OpK.use (p := IsOwn 1 (cv (c 7)) (l.done ++ [(k : Int)]).length (co (c 7))) (fun I hp => hp (fPure _) (by first | exact .head _ | exact .tail _ (.head _) | exact .tail _ (.tail _ (.head _)) | exact .tail _ (.tail _ (.tail _ (.head _))) | exact .tail _ (.tail _ (.tail _ (.tail _ (.head _)))) | exact .tail _ (.tail _ (.tail _ (.tail _ (.tail _ (.head _))))) | exact .tail _ (.tail _ (.tail _ (.tail _ (.tail _ (.tail _ (.head _)))))) | exact .tail _ (.tail _ (.tail _ (.tail _ (.tail _ (.tail _ (.tail _ (.head _))))))) | exact .tail _ (.tail _ (.tail _ (.tail _ (.tail _ (.tail _ (.tail _ (.tail _ (.head _)))))))) | exact .tail _ (.tail _ (.tail _ (.tail _ (.tail _ (.tail _ (.tail _ (.tail _ (.tail _ (.head _))))))))) | exact .tail _ (.tail _ (.tail _ (.tail _ (.tail _ (.tail _ (.tail _ (.tail _ (.tail _ (.tail _ (.head _)))))))))) | exact .tail _ (.tail _ (.tail _ (.tail _ (.tail _ (.tail _ (.tail _ (.tail _ (.tail _ (.tail _ (.tail _ (.head _))))))))))) | exact .tail _ (.tail _ (.tail _ (.tail _ (.tail _ (.tail _ (.tail _ (.tail _ (.tail _ (.tail _ (.tail _ (.tail _ (.head _)))))))))))) | exact .tail _ (.tail _ (.tail _ (.tail _ (.tail _ (.tail _ (.tail _ (.tail _ (.tail _ (.tail _ (.tail _ (.tail _ (.tail _ (.head _))))))))))))) | exact .tail _ (.tail _ (.tail _ (.tail _ (.tail _ (.tail _ (.tail _ (.tail _ (.tail _ (.tail _ (.tail _ (.tail _ (.tail _ (.tail _ (.head _)))))))))))))))) ?_; intro h7o; refine o_store (vs := [cv (c 7)]) (cs' := [.slice vs l.sets.length cs, .slice (some ⟨bL, 0, none⟩) l.left.length capL, .slice (some ⟨bA, 0, none⟩) l.at_.length capA, vB, cv (c 7)]) rfl rfl rfl (own_cell h7o).1 rfl (Nat.le_of_ble_eq_true rfl) (own_cell h7o).2 rfl ?_; exact hK z0
  case hz_1 => intro c; rfl
  case loc_1 =>
    simp only [AllL, Nat.reduceAdd, and_true]
    refine ⟨?_, ?_, ?_, ?_, ?_, ?_, ?_, ?_, ?_, ?_⟩
    all_goals (intro c c' z h; first | exact ⟨rfl, rfl⟩ | (skip))
  intro c
  dsimp only [dstOf, dstX, putX, kval, kfac, ancE, ancX,  ancF, getD_z, getD_s, List.getElem?_cons_zero, List.getElem?_cons_succ, List.getElem?_nil, Option.getD_some, Option.getD_none, List.nil_append, List.cons_append, List.drop_succ_cons, List.drop_zero, Option.getD]
  show LW _ _ _ _ _ _ ((b4, Ob [.slice none 0 0, .slice none 0 0, .slice none 0 0, .slice none 0 0, .slice none 0 0] 28) :: (b2, Ob [.slice vs l.sets.length cs, .slice (some ⟨bL, 0, none⟩) l.left.length capL, .slice (some ⟨bA, 0, none⟩) l.at_.length capA, vB, cv (c 7)] 28) :: (bA, Ob (cIx l.at_ exA) 3) :: (bL, Ob (cIx (l.left.set k (l.left[k] - 1)) exL) 3) :: (ownM 4 oB ++ ownM 3 (co (c 7))))
  refine LW.bare (G.use (p := IsOwn 1 (cv (c 7)) (l.done ++ [(k : Int)]).length (co (c 7))) (fun I hp => hp (fPure _) (by first | exact .head _ | exact .tail _ (.head _) | exact .tail _ (.tail _ (.head _)) | exact .tail _ (.tail _ (.tail _ (.head _))) | exact .tail _ (.tail _ (.tail _ (.tail _ (.head _)))) | exact .tail _ (.tail _ (.tail _ (.tail _ (.tail _ (.head _))))) | exact .tail _ (.tail _ (.tail _ (.tail _ (.tail _ (.tail _ (.head _)))))) | exact .tail _ (.tail _ (.tail _ (.tail _ (.tail _ (.tail _ (.tail _ (.head _))))))) | exact .tail _ (.tail _ (.tail _ (.tail _ (.tail _ (.tail _ (.tail _ (.tail _ (.head _)))))))) | exact .tail _ (.tail _ (.tail _ (.tail _ (.tail _ (.tail _ (.tail _ (.tail _ (.tail _ (.head _))))))))) | exact .tail _ (.tail _ (.tail _ (.tail _ (.tail _ (.tail _ (.tail _ (.tail _ (.tail _ (.tail _ (.head _)))))))))) | exact .tail _ (.tail _ (.tail _ (.tail _ (.tail _ (.tail _ (.tail _ (.tail _ (.tail _ (.tail _ (.tail _ (.head _))))))))))) | exact .tail _ (.tail _ (.tail _ (.tail _ (.tail _ (.tail _ (.tail _ (.tail _ (.tail _ (.tail _ (.tail _ (.tail _ (.head _)))))))))))) | exact .tail _ (.tail _ (.tail _ (.tail _ (.tail _ (.tail _ (.tail _ (.tail _ (.tail _ (.tail _ (.tail _ (.tail _ (.tail _ (.head _))))))))))))) | exact .tail _ (.tail _ (.tail _ (.tail _ (.tail _ (.tail _ (.tail _ (.tail _ (.tail _ (.tail _ (.tail _ (.tail _ (.tail _ (.tail _ (.head _)))))))))))))))) ?_)
  intro hD2
  generalize cv (c 7) = vD2 at hD2 ⊢
  generalize co (c 7) = oD2 at hD2 ⊢
  repeat (first | refine stp ?_ | (refine sti ?_; intro _) | refine stf ?_ | (refine stb ?_; intro _))
  refine o_idxO rfl rfl rfl rfl (by omega) (by omega) (o' := i2) (by omega) ?_
  refine G.cons ?_
  refine o_storeIx i2 (-1) hi rfl rfl rfl rfl ?_
  have hlA : (l.at_.set i2 (-1)).length = l.at_.length := List.length_set
  have hAs := own_cIx (ex := exA) (A' := l.at_.set i2 (-1)) (by exact hA) hlA
  repeat (first | refine stp ?_ | (refine sti ?_; intro _) | refine stf ?_ | (refine stb ?_; intro _))
  have hf := fill_spec vs cs (.slice (some ⟨bL, 0, none⟩) l.left.length capL) (.slice (some ⟨bA, 0, none⟩) l.at_.length capA) vB vD2 (some (bL, cIx (l.left.set k (l.left[k] - 1)) exL)) (some (bA, cIx (l.at_.set i2 (-1)) exA)) oB oD2 ⟨l.sets, (l.left.set k (l.left[k] - 1)), l.at_.set i2 (-1), l.begun, l.done ++ [(k : Int)]⟩ ⟨fs, ns, by dsimp only; omega, by dsimp only; omega, nb, by simp; omega⟩ (by dsimp only; omega) (by dsimp only; rw [hlL]; exact hLs) (by dsimp only; rw [hlA]; exact hAs) hB hD2
  change Fn _ _ [.agg #[.slice vs l.sets.length cs, .slice (some ⟨bL, 0, none⟩) l.left.length capL, .slice (some ⟨bA, 0, none⟩) l.at_.length capA, vB, vD2]] [fRp (.slice vs l.sets.length cs) l.sets, fRow (cIx (l.left.set k (l.left[k] - 1)) exL) (l.left.set k (l.left[k] - 1)), fRow (cIx (l.at_.set i2 (-1)) exA) (l.at_.set i2 (-1)), fRow (ocells oB) l.begun, fRow (ocells oD2) (l.done ++ [(k : Int)])] _ _ at hf
  refine OpK.call rfl rfl rfl rfl hf inferInstance (Mr := [(b4, Ob [.slice none 0 0, .slice none 0 0, .slice none 0 0, .slice none 0 0, .slice none 0 0] 28), (b2, Ob [.slice vs l.sets.length cs, .slice (some ⟨bL, 0, none⟩) l.left.length capL, .slice (some ⟨bA, 0, none⟩) l.at_.length capA, vB, vD2] 28)]) (perm_call (b4, Ob [.slice none 0 0, .slice none 0 0, .slice none 0 0, .slice none 0 0, .slice none 0 0] 28) (b2, Ob [.slice vs l.sets.length cs, .slice (some ⟨bL, 0, none⟩) l.left.length capL, .slice (some ⟨bA, 0, none⟩) l.at_.length capA, vB, vD2] 28) (bA, Ob (cIx (l.at_.set i2 (-1)) exA) 3) (bL, Ob (cIx (l.left.set k (l.left[k] - 1)) exL) 3) (ownM 4 oB ++ ownM 3 oD2)) ?_
  clear hf hpk
  generalize fillLot ⟨l.sets, (l.left.set k (l.left[k] - 1)), l.at_.set i2 (-1), l.begun, l.done ++ [(k : Int)]⟩ = l2
  clear hLs hAs hA hL hB hD
  rintro u Φ' Mc' ⟨vs2, cs2, vL2, oL2, vA2, oA2, vB2, oB2, vD3, oD3, rfl, hL, hA, hB, hD, rfl, rfl⟩
  have hone2 : ones [.slice vs2 l2.sets.length cs2, vL2, vA2, vB2, vD3] = true := (by
      have q1 := (own_cell hL).2
      have q2 := (own_cell hA).2
      have q3 := (own_cell hB).2
      have q4 := (own_cell hD).2
      simp only [ones, List.all_cons, List.all_nil, Bool.and_true, Bool.and_eq_true] at q1 q2 q3 q4 ⊢
      exact ⟨rfl, q1, q2, q3, q4⟩)
  refine G.perm ?_ List.perm_append_comm
  dsimp only [List.cons_append, List.nil_append, id]
  repeat (first | refine stp ?_ | (refine sti ?_; intro _) | refine stf ?_ | (refine stb ?_; intro _))
  refine o_store (vs := [.slice vs2 l2.sets.length cs2, vL2, vA2, vB2, vD3]) (cs' := [.slice vs2 l2.sets.length cs2, vL2, vA2, vB2, vD3]) rfl rfl rfl rfl rfl (Nat.le_of_ble_eq_true rfl) hone2 rfl ?_
  repeat (first | refine stp ?_ | (refine sti ?_; intro _) | refine stf ?_ | (refine stb ?_; intro _))
  refine o_store (vs := [.slice vs2 l2.sets.length cs2, vL2, vA2, vB2, vD3]) (cs' := [.slice vs2 l2.sets.length cs2, vL2, vA2, vB2, vD3]) rfl rfl rfl rfl rfl (Nat.le_of_ble_eq_true rfl) hone2 rfl ?_
  repeat (first | refine stp ?_ | (refine sti ?_; intro _) | refine stf ?_ | (refine stb ?_; intro _))
  exact G.ret rfl (.cons (.cellA rfl rfl) (.cons (.tmp rfl) .nil)) (Φ' := [fRp (.slice vs2 l2.sets.length cs2) l2.sets, fRow (ocells oL2) l2.left, fRow (ocells oA2) l2.at_, fRow (ocells oB2) l2.begun, fRow (ocells oD3) l2.done]) (M' := ownM 3 oL2 ++ (ownM 3 oA2 ++ (ownM 4 oB2 ++ ownM 3 oD3))) inferInstance (.cons _ (.cons _ (List.Sublist.refl _))) ⟨vs2, cs2, vL2, oL2, vA2, oA2, vB2, oB2, vD3, oD3, rfl, hL, hA, hB, hD, rfl, rfl⟩
end Go.Rail
