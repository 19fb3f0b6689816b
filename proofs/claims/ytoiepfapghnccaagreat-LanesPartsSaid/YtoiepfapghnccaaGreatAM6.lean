/- The document's Pick. -/
import Derived.Test.YtoiepfapghnccaaGreatAM5
namespace Go.Rail
open Go Go.Proofs
set_option linter.unusedSimpArgs false
set_option linter.unusedVariables false
set_option maxHeartbeats 400000
set_option maxRecDepth 4000
attribute [local irreducible] OpK G W LW wpListIn Exit.then Exit.inBlock Post rounds opRun bodyPostM intOp
attribute [local irreducible] badM rightS mayG clashS edgesG edgesI clG rightL holdL shapeR okA okE okO shapeL idxG errG edgesR idleR readyR errR fillLot
theorem own_len {sz n m : Nat} {v : Value} {o : OR} (h : IsOwn sz v n o) (e : m = n) : IsOwn sz v m o := by subst e; exact h
theorem rpick_spec (v : Value) (l : Lot) (hl : FitL l) (lane : Int) : Fn Tryz.prog 47 [v, .int .i64 lane] [fRp v l] [] (ROwnLot 3 4 (fun a => .tuple #[a, .bool (isR l lane), .int .i64 (errL l)]) (pickR l lane)) := by
  have hfit := hl
  obtain ⟨fs, ns, nl, na, nb, nd⟩ := hl
  have hR := fun w => rright_spec w l hfit
  refine Fn.enter Tryz.func47 rfl Tryz.ntmps47 (by simp) (fun I0 w0 => ?_)
  refine W.bare (G.lot v l ?_)
  intro a1 c1 a2 c2 a3 c3 a4 c4 a5 c5 e
  subst e
  refine G.code ?_
  repeat (first | refine stp ?_ | (refine sti ?_; intro _) | refine stf ?_ | (refine stb ?_; intro _))
  rename_i b2 b4
  refine OpK.call rfl rfl rfl rfl (rown_spec _ l hfit) inferInstance (Mr := _) (List.Perm.refl _) ?_
  rintro u Φ' Mc' ⟨vs, cs, vL, oL, vA, oA, vB, oB, vD, oD, rfl, hL, hA, hB, hD, rfl, rfl⟩
  have hone : ones [.slice vs l.sets.length cs, vL, vA, vB, vD] = true := (by
    have q1 := (own_cell hL).2
    have q2 := (own_cell hA).2
    have q3 := (own_cell hB).2
    have q4 := (own_cell hD).2
    simp only [ones, List.all_cons, List.all_nil, Bool.and_true, Bool.and_eq_true] at q1 q2 q3 q4 ⊢
    exact ⟨rfl, q1, q2, q3, q4⟩)
  refine G.perm ?_ List.perm_append_comm
  dsimp only [List.cons_append, List.nil_append, id]
  repeat (first | refine stp ?_ | (refine sti ?_; intro _) | refine stf ?_ | (refine stb ?_; intro _))
  rename_i b7
  refine o_store (vs := [.slice vs l.sets.length cs, vL, vA, vB, vD]) (cs' := [.slice vs l.sets.length cs, vL, vA, vB, vD]) rfl rfl rfl rfl rfl (Nat.le_of_ble_eq_true rfl) hone rfl ?_
  unfold isR errL pickR
  cases h : rightL l with
  | false =>
    rw [h] at hR
    repeat (first | refine stp ?_ | (refine sti ?_; intro _) | refine stf ?_ | (refine stb ?_; intro _))
    refine o_callV rfl rfl rfl rfl (hR _) rfl ?_
    repeat (first | refine stp ?_ | (refine sti ?_; intro _) | refine stf ?_ | (refine stb ?_; intro _))
    refine o_store (vs := [.slice vs l.sets.length cs, vL, vA, vB, vD]) (cs' := [.slice vs l.sets.length cs, vL, vA, vB, vD]) rfl rfl rfl rfl rfl (Nat.le_of_ble_eq_true rfl) hone rfl ?_
    repeat (first | refine stp ?_ | (refine sti ?_; intro _) | refine stf ?_ | (refine stb ?_; intro _))
    exact G.ret rfl (.cons (.cellA rfl rfl) (.cons (.tmp rfl) (.cons (.tmp rfl) .nil))) (Φ' := [fRp (.slice vs l.sets.length cs) l.sets, fRow (ocells oL) l.left, fRow (ocells oA) l.at_, fRow (ocells oB) l.begun, fRow (ocells oD) l.done]) (M' := ownM 3 oL ++ (ownM 3 oA ++ (ownM 4 oB ++ ownM 3 oD))) inferInstance (.cons _ (.cons _ (.cons _ (List.Sublist.refl _)))) ⟨vs, cs, _, oL, _, oA, _, oB, _, oD, rfl, hL, hA, hB, hD, rfl, rfl⟩
  | true =>
  rw [h] at hR
  have hri := rightL_iff.1 h
  rw [if_pos rfl, if_pos rfl]
  have hdl := right_done_len hri
  have h64 := may_len hri.may
  by_cases h1 : lane < 0
  · have hno : noP l lane = true := by simp [noP, h1]
    rw [pick_none hno, hno]
    repeat (first | refine stp ?_ | (refine sti ?_; intro _) | refine stf ?_ | (refine stb ?_; intro _))
    refine o_callV rfl rfl rfl rfl (hR _) rfl ?_
    repeat (first | refine stp ?_ | (refine sti ?_; intro _) | refine stf ?_ | (refine stb ?_; intro _))
    refine o_store (vs := [.slice vs l.sets.length cs, vL, vA, vB, vD]) (cs' := [.slice vs l.sets.length cs, vL, vA, vB, vD]) rfl rfl rfl rfl rfl (Nat.le_of_ble_eq_true rfl) hone rfl ?_
    repeat (first | refine stp ?_ | (refine sti ?_; intro _) | refine stf ?_ | (refine stb ?_; intro _))
    exact G.ret rfl (.cons (.cellA rfl rfl) (.cons (.tmp rfl) (.cons (.tmp rfl) .nil))) (Φ' := [fRp (.slice vs l.sets.length cs) l.sets, fRow (ocells oL) l.left, fRow (ocells oA) l.at_, fRow (ocells oB) l.begun, fRow (ocells oD) l.done]) (M' := ownM 3 oL ++ (ownM 3 oA ++ (ownM 4 oB ++ ownM 3 oD))) inferInstance (.cons _ (.cons _ (.cons _ (List.Sublist.refl _)))) ⟨vs, cs, _, oL, _, oA, _, oB, _, oD, rfl, hL, hA, hB, hD, rfl, rfl⟩
  by_cases h2 : (l.at_.length : Int) ≤ lane
  · have hno : noP l lane = true := by simp [noP, h2]
    rw [pick_none hno, hno]
    repeat (first | refine stp ?_ | (refine sti ?_; intro _) | refine stf ?_ | (refine stb ?_; intro _))
    refine o_callV rfl rfl rfl rfl (hR _) rfl ?_
    repeat (first | refine stp ?_ | (refine sti ?_; intro _) | refine stf ?_ | (refine stb ?_; intro _))
    refine o_store (vs := [.slice vs l.sets.length cs, vL, vA, vB, vD]) (cs' := [.slice vs l.sets.length cs, vL, vA, vB, vD]) rfl rfl rfl rfl rfl (Nat.le_of_ble_eq_true rfl) hone rfl ?_
    repeat (first | refine stp ?_ | (refine sti ?_; intro _) | refine stf ?_ | (refine stb ?_; intro _))
    exact G.ret rfl (.cons (.cellA rfl rfl) (.cons (.tmp rfl) (.cons (.tmp rfl) .nil))) (Φ' := [fRp (.slice vs l.sets.length cs) l.sets, fRow (ocells oL) l.left, fRow (ocells oA) l.at_, fRow (ocells oB) l.begun, fRow (ocells oD) l.done]) (M' := ownM 3 oL ++ (ownM 3 oA ++ (ownM 4 oB ++ ownM 3 oD))) inferInstance (.cons _ (.cons _ (.cons _ (List.Sublist.refl _)))) ⟨vs, cs, _, oL, _, oA, _, oB, _, oD, rfl, hL, hA, hB, hD, rfl, rfl⟩
  obtain ⟨i, rfl⟩ : ∃ i : Nat, lane = (i : Int) := ⟨lane.toNat, by omega⟩
  have hi : i < l.at_.length := by omega
  by_cases h3 : l.at_[i] < 0
  · have hno : noP l (i : Int) = true := by
      rcases at_cases hri hi with e | ⟨k, e, _⟩
      · unfold noP
        rw [atK_nat, e]; simp
      · rw [getD_at _ _ hi] at e; omega
    rw [pick_none hno, hno]
    repeat (first | refine stp ?_ | (refine sti ?_; intro _) | refine stf ?_ | (refine stb ?_; intro _))
    refine o_callV rfl rfl rfl rfl (hR _) rfl ?_
    repeat (first | refine stp ?_ | (refine sti ?_; intro _) | refine stf ?_ | (refine stb ?_; intro _))
    refine o_store (vs := [.slice vs l.sets.length cs, vL, vA, vB, vD]) (cs' := [.slice vs l.sets.length cs, vL, vA, vB, vD]) rfl rfl rfl rfl rfl (Nat.le_of_ble_eq_true rfl) hone rfl ?_
    repeat (first | refine stp ?_ | (refine sti ?_; intro _) | refine stf ?_ | (refine stb ?_; intro _))
    exact G.ret rfl (.cons (.cellA rfl rfl) (.cons (.tmp rfl) (.cons (.tmp rfl) .nil))) (Φ' := [fRp (.slice vs l.sets.length cs) l.sets, fRow (ocells oL) l.left, fRow (ocells oA) l.at_, fRow (ocells oB) l.begun, fRow (ocells oD) l.done]) (M' := ownM 3 oL ++ (ownM 3 oA ++ (ownM 4 oB ++ ownM 3 oD))) inferInstance (.cons _ (.cons _ (.cons _ (List.Sublist.refl _)))) ⟨vs, cs, _, oL, _, oA, _, oB, _, oD, rfl, hL, hA, hB, hD, rfl, rfl⟩
  have hno : noP l (i : Int) = false := noP_iff.2 ⟨hi, by rw [getD_at _ _ hi]; omega⟩
  obtain ⟨i2, k, e2, _, hk, hkn, hkl, g1, g2, hnd⟩ := pick_at hri hno
  obtain rfl : i2 = i := by omega
  have hk' := hk
  rw [getD_at _ _ hi] at hk
  rw [getD_at _ _ hkl] at g1 g2
  have hpk : pickL l (i2 : Int) = if l.left[k] - 1 = 0 then fillLot ⟨l.sets, (l.left.set k (l.left[k] - 1)), l.at_.set i2 (-1), l.begun, l.done ++ [(k : Int)]⟩ else ⟨l.sets, (l.left.set k (l.left[k] - 1)), l.at_, l.begun, l.done⟩ := by
    have hat : atK l (i2 : Int) = (k : Int) := by rw [atK_nat]; exact hk'
    unfold pickL lessL
    rw [hno, if_neg (by simp), hat, Int.toNat_natCast, Int.toNat_natCast, getD_at _ _ hkl]
  rw [hpk, hno]
  cases oL with
  | none => exact absurd hL.2 (by omega)
  | some qL =>
  obtain ⟨bL, csL⟩ := qL
  cases oA with
  | none => exact absurd hA.2 (by omega)
  | some qA =>
  obtain ⟨bA, csA⟩ := qA
  refine G.use (p := ∃ ex, csL = cIx l.left ex) (fun I hp => row_cIx (hp (fRow csL l.left) (.tail _ (.head _)))) ?_
  rintro ⟨exL, rfl⟩
  refine G.use (p := ∃ ex, csA = cIx l.at_ ex) (fun I hp => row_cIx (hp (fRow csA l.at_) (.tail _ (.tail _ (.head _))))) ?_
  rintro ⟨exA, rfl⟩
  obtain ⟨capL, rfl, hcL, hcapL⟩ := id hL
  obtain ⟨capA, rfl, hcA, hcapA⟩ := id hA
  change G _ _ _ ((b7, Ob [.slice vs l.sets.length cs, .slice (some ⟨bL, 0, none⟩) l.left.length capL, .slice (some ⟨bA, 0, none⟩) l.at_.length capA, vB, vD] 28) :: (b4, Ob [.slice none 0 0, .slice none 0 0, .slice none 0 0, .slice none 0 0, .slice none 0 0] 28) :: (b2, _) :: (bL, Ob (cIx l.left exL) 3) :: (bA, Ob (cIx l.at_ exA) 3) :: (ownM 4 oB ++ ownM 3 oD)) _
  repeat (first | refine stp ?_ | (refine sti ?_; intro _) | refine stf ?_ | (refine stb ?_; intro _))
  refine o_callV rfl rfl rfl rfl (hR _) rfl ?_
  repeat (first | refine stp ?_ | (refine sti ?_; intro _) | refine stf ?_ | (refine stb ?_; intro _))
  rw [hk]
  repeat (first | refine stp ?_ | (refine sti ?_; intro _) | refine stf ?_ | (refine stb ?_; intro _))
  refine o_idxO rfl rfl rfl rfl (by omega) (by omega) (o' := k) (by omega) ?_
  refine G.cons ?_
  refine o_loadIx k hkl rfl rfl rfl rfl ?_
  repeat (first | refine stp ?_ | (refine sti ?_; intro _) | refine stf ?_ | (refine stb ?_; intro _))
  refine o_idxO rfl rfl rfl rfl (by omega) (by omega) (o' := k) (by omega) ?_
  refine G.cons ?_
  refine o_storeIx k (l.left[k] - 1) hkl rfl rfl rfl rfl ?_
  repeat (first | refine stp ?_ | (refine sti ?_; intro _) | refine stf ?_ | (refine stb ?_; intro _))
  refine o_idxO rfl rfl rfl rfl (by omega) (by omega) (o' := k) (by omega) ?_
  refine G.cons ?_
  refine o_loadIx k (by rw [List.length_set]; exact hkl) rfl rfl rfl rfl ?_
  rw [List.getElem_set_self]
  have hlL : (l.left.set k (l.left[k] - 1)).length = l.left.length := List.length_set
  have hLs := own_cIx (ex := exL) (A' := (l.left.set k (l.left[k] - 1))) (by exact hL) hlL
  by_cases hz : l.left[k] - 1 = 0
  case neg =>
    rw [if_neg hz]
    repeat (first | refine stp ?_ | (refine sti ?_; intro _) | refine stf ?_ | (refine stb ?_; intro _))
    refine o_store (vs := [.slice vs l.sets.length cs, .slice (some ⟨bL, 0, none⟩) l.left.length capL, .slice (some ⟨bA, 0, none⟩) l.at_.length capA, vB, vD]) (cs' := [.slice vs l.sets.length cs, .slice (some ⟨bL, 0, none⟩) l.left.length capL, .slice (some ⟨bA, 0, none⟩) l.at_.length capA, vB, vD]) rfl rfl rfl rfl rfl (Nat.le_of_ble_eq_true rfl) hone rfl ?_
    repeat (first | refine stp ?_ | (refine sti ?_; intro _) | refine stf ?_ | (refine stb ?_; intro _))
    exact G.ret rfl (.cons (.cellA rfl rfl) (.cons (.tmp rfl) (.cons (.tmp rfl) .nil))) (Φ' := [fRp (.slice vs l.sets.length cs) l.sets, fRow (cIx (l.left.set k (l.left[k] - 1)) exL) (l.left.set k (l.left[k] - 1)), fRow (cIx l.at_ exA) l.at_, fRow (ocells oB) l.begun, fRow (ocells oD) l.done]) (M' := ownM 3 (some (bL, cIx (l.left.set k (l.left[k] - 1)) exL)) ++ (ownM 3 (some (bA, cIx l.at_ exA)) ++ (ownM 4 oB ++ ownM 3 oD))) inferInstance (.cons _ (.cons _ (.cons _ (List.Sublist.refl _)))) ⟨vs, cs, _, (some (bL, cIx (l.left.set k (l.left[k] - 1)) exL)), _, (some (bA, cIx l.at_ exA)), _, oB, _, oD, rfl, own_len hLs hlL, hA, hB, hD, rfl, rfl⟩
  case pos =>
  rw [if_pos hz]
  repeat (first | refine stp ?_ | (refine sti ?_; intro _) | refine stf ?_ | (refine stb ?_; intro _))
  refine o_lit (xs := [(k : Int)]) ⟨by decide, rfl, by decide⟩ rfl rfl rfl ⟨fun _ _ => Rp.flat.2 rfl, trivial⟩ rfl ?_
  intro p1
  repeat (first | refine stp ?_ | (refine sti ?_; intro _) | refine stf ?_ | (refine stb ?_; intro _))
  refine o_app2 (Mr := (b7, Ob [.slice vs l.sets.length cs, .slice (some ⟨bL, 0, none⟩) l.left.length capL, .slice (some ⟨bA, 0, none⟩) l.at_.length capA, vB, vD] 28) :: (b4, Ob [.slice none 0 0, .slice none 0 0, .slice none 0 0, .slice none 0 0, .slice none 0 0] 28) :: (b2, _) :: (bL, Ob (cIx (l.left.set k (l.left[k] - 1)) exL) 3) :: (bA, Ob (cIx l.at_ exA) 3) :: ownM 4 oB) oD (xs := l.done) (ys := [(k : Int)]) hD ⟨by simp; omega, by simp; omega, rfl⟩ rfl rfl rfl rfl inferInstance inferInstance (List.Perm.refl _) ?_
  intro vD2 oD2 hD2
  dsimp only [List.cons_append]
  repeat (first | refine stp ?_ | (refine sti ?_; intro _) | refine stf ?_ | (refine stb ?_; intro _))
  refine o_store (vs := [vD2]) (cs' := [.slice vs l.sets.length cs, .slice (some ⟨bL, 0, none⟩) l.left.length capL, .slice (some ⟨bA, 0, none⟩) l.at_.length capA, vB, vD2]) rfl rfl rfl (own_cell hD2).1 rfl (Nat.le_of_ble_eq_true rfl) (own_cell hD2).2 rfl ?_
  repeat (first | refine stp ?_ | (refine sti ?_; intro _) | refine stf ?_ | (refine stb ?_; intro _))
  refine o_idxO rfl rfl rfl rfl (by omega) (by omega) (o' := i2) (by omega) ?_
  refine G.cons ?_
  refine o_storeIx i2 (-1) hi rfl rfl rfl rfl ?_
  have hlA : (l.at_.set i2 (-1)).length = l.at_.length := List.length_set
  have hAs := own_cIx (ex := exA) (A' := l.at_.set i2 (-1)) (by exact hA) hlA
  have hmid := mid_right hri hi hk' hkn hkl hnd (by rw [getD_at _ _ hkl]; exact hz)
  rw [getD_at _ _ hkl] at hmid
  have hf := rfill_spec vs cs (.slice (some ⟨bL, 0, none⟩) l.left.length capL) (.slice (some ⟨bA, 0, none⟩) l.at_.length capA) vB vD2 (some (bL, cIx (l.left.set k (l.left[k] - 1)) exL)) (some (bA, cIx (l.at_.set i2 (-1)) exA)) oB oD2 ⟨l.sets, (l.left.set k (l.left[k] - 1)), l.at_.set i2 (-1), l.begun, l.done ++ [(k : Int)]⟩ ⟨fs, ns, by dsimp only; omega, by dsimp only; omega, nb, by simp; omega⟩ hmid (own_len hLs hlL) (own_len hAs hlA) hB hD2
  change Fn _ _ [.agg #[.slice vs l.sets.length cs, .slice (some ⟨bL, 0, none⟩) l.left.length capL, .slice (some ⟨bA, 0, none⟩) l.at_.length capA, vB, vD2]] [fRp (.slice vs l.sets.length cs) l.sets, fRow (cIx (l.left.set k (l.left[k] - 1)) exL) (l.left.set k (l.left[k] - 1)), fRow (cIx (l.at_.set i2 (-1)) exA) (l.at_.set i2 (-1)), fRow (ocells oB) l.begun, fRow (ocells oD2) (l.done ++ [(k : Int)])] _ _ at hf
  repeat (first | refine stp ?_ | (refine sti ?_; intro _) | refine stf ?_ | (refine stb ?_; intro _))
  refine OpK.call rfl rfl rfl rfl hf inferInstance (Mr := [_, _, _]) (List.perm_append_comm (l₁ := [_, _, _])) ?_
  clear hf hpk
  generalize fillLot ⟨l.sets, (l.left.set k (l.left[k] - 1)), l.at_.set i2 (-1), l.begun, l.done ++ [(k : Int)]⟩ = l2
  clear hLs hAs hA hL hB hD hone
  rintro u Φ' Mc' ⟨vs2, cs2, vL2, oL2, vA2, oA2, vB2, oB2, vD3, oD3, rfl, hL, hA, hB, hD, rfl, rfl⟩
  have hone : ones [.slice vs2 l2.sets.length cs2, vL2, vA2, vB2, vD3] = true := (by
    have q1 := (own_cell hL).2
    have q2 := (own_cell hA).2
    have q3 := (own_cell hB).2
    have q4 := (own_cell hD).2
    simp only [ones, List.all_cons, List.all_nil, Bool.and_true, Bool.and_eq_true] at q1 q2 q3 q4 ⊢
    exact ⟨rfl, q1, q2, q3, q4⟩)
  refine G.perm ?_ List.perm_append_comm
  dsimp only [List.cons_append, List.nil_append, id]
  repeat (first | refine stp ?_ | (refine sti ?_; intro _) | refine stf ?_ | (refine stb ?_; intro _))
  refine o_store (vs := [.slice vs2 l2.sets.length cs2, vL2, vA2, vB2, vD3]) (cs' := [.slice vs2 l2.sets.length cs2, vL2, vA2, vB2, vD3]) rfl rfl rfl rfl rfl (Nat.le_of_ble_eq_true rfl) hone rfl ?_
  repeat (first | refine stp ?_ | (refine sti ?_; intro _) | refine stf ?_ | (refine stb ?_; intro _))
  refine o_store (vs := [.slice vs2 l2.sets.length cs2, vL2, vA2, vB2, vD3]) (cs' := [.slice vs2 l2.sets.length cs2, vL2, vA2, vB2, vD3]) rfl rfl rfl rfl rfl (Nat.le_of_ble_eq_true rfl) hone rfl ?_
  repeat (first | refine stp ?_ | (refine sti ?_; intro _) | refine stf ?_ | (refine stb ?_; intro _))
  exact G.ret rfl (.cons (.cellA rfl rfl) (.cons (.tmp rfl) (.cons (.tmp rfl) .nil))) (Φ' := [fRp (.slice vs2 l2.sets.length cs2) l2.sets, fRow (ocells oL2) l2.left, fRow (ocells oA2) l2.at_, fRow (ocells oB2) l2.begun, fRow (ocells oD3) l2.done]) (M' := ownM 3 oL2 ++ (ownM 3 oA2 ++ (ownM 4 oB2 ++ ownM 3 oD3))) inferInstance (.cons _ (.cons _ (.cons _ (List.Sublist.refl _)))) ⟨vs2, cs2, _, oL2, _, oA2, _, oB2, _, oD3, rfl, hL, hA, hB, hD, rfl, rfl⟩
end Go.Rail
