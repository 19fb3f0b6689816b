/- lanes.fill. -/
import Derived.Test.YtoiepfapghnccaaGreatAN5
import Derived.Test.YtoiepfapghnccaaGreatRailE
namespace Go.Rail
open Go Go.Proofs
set_option linter.unusedSimpArgs false
set_option linter.unusedVariables false
set_option maxHeartbeats 400000
set_option maxRecDepth 4000
attribute [local irreducible] OpK G W LW wpListIn Exit.then Exit.inBlock Post rounds opRun bodyPostM intOp
attribute [local irreducible] badM rightS mayG clashS edgesG edgesI clG rightL donesL heldL shapeL idxG errG edgesR idleR readyR errR
theorem idle1o_spec (b bA : Nat) (ex : List Value) (v1 v2 v4 v5 : Value) (cap : Nat) (A0 : List Int) (h1 : A0.length ≤ 1000000) : IterC Tryz.prog (CRow bA 3 ex A0) 50 [.pointer (some ⟨b, 0, none⟩)] ((idleL A0).map fun (k : Nat) => [.int .i64 (k : Int)]) [fBlk b [v1, v2, .slice (some ⟨bA, 0, none⟩) A0.length cap, v4, v5] 28] := by
  intro l T Z hC hy s0 hs0
  have hy' : ∀ k (h : k < (idleL A0).length) s, T k s → FnY Tryz.prog l [.int .i64 ((idleL A0)[k] : Nat)] s.1 s.2 (YRr (T (k + 1)) Z) := fun k h s hs => by
    have := hy k (by simpa using h) s hs
    simpa using this
  rw [List.length_map]
  show Fn _ _ _ (fBlk b [v1, v2, .slice (some ⟨bA, 0, none⟩) A0.length cap, v4, v5] 28 :: s0.1) _ _
  refine Fn.enter Tryz.func50 rfl Tryz.ntmps50 (by simp) (fun I0 w0 => ?_)
  repeat (first | refine stp ?_ | (refine sti ?_; intro _) | refine stf ?_ | (refine stb ?_; intro _))
  refine W.loopI (fun (s : (Nat × Nat) × St) => (fBlk b [v1, v2, .slice (some ⟨bA, 0, none⟩) A0.length cap, v4, v5] 28 :: s.2.1, [(0, .func (.yield l) #[] #[]), (6, .slice (some ⟨bA, 0, none⟩) A0.length cap), (7, .int .i64 A0.length), (8, .int .i64 s.1.1)], s.2.2)) (fun s => s.1.1 ≤ A0.length ∧ (idleL A0).drop s.1.2 = idleR A0 s.1.1 ∧ s.1.2 ≤ (idleL A0).length ∧ T s.1.2 s.2 ∧ (s.1.2 = 0 ∨ (idleL A0).getD (s.1.2 - 1) 0 < s.1.1)) (fun s => A0.length - s.1.1) ((0, 0), s0) ⟨Nat.zero_le _, rfl, Nat.zero_le _, hs0, .inl rfl⟩ ⟨fun I hp => hp⟩ (look_sub_cons rfl (look_sub_cons rfl (look_sub_cons rfl (look_sub_cons rfl look_sub_nil)))) (List.Sublist.refl _) ?_
  rintro ⟨⟨i, m⟩, st⟩ ⟨hi, hd, hm, hst, hlast⟩
  dsimp only at hi hd hm hst hlast ⊢
  by_cases hi0 : i = A0.length
  · subst hi0
    rw [idleR_end (Nat.le_refl _), List.drop_eq_nil_iff] at hd
    have hme : m = (idleL A0).length := by omega
    subst hme
    repeat (first | refine stp ?_ | (refine sti ?_; intro _) | refine stf ?_ | (refine stb ?_; intro _))
    exact G.fin rfl .nil (Φ' := st.1) (M' := st.2) ⟨fun I hp φ hφ => hp φ (.tail _ hφ)⟩ (List.Sublist.refl _) (.inl hst)
  · have hi1 : i < A0.length := by omega
    obtain ⟨A, M', hperm, hal, hag⟩ := hC m st hst
    have hiA : i < A.length := by omega
    have hAi : A[i] = A0[i] := by
      have := hag i hlast
      rwa [List.getD_eq_getElem?_getD, List.getD_eq_getElem?_getD, List.getElem?_eq_getElem hiA, List.getElem?_eq_getElem hi1] at this
    by_cases hno : A0[i] = -1
    · obtain ⟨hm1, hmi, hd'⟩ := idleR_at hd hi1 hno
      have hyk := hy' m hm1 st hst
      rw [hmi] at hyk
      repeat (first | refine stp ?_ | (refine sti ?_; intro _) | refine stf ?_ | (refine stb ?_; intro _))
      refine o_idxO rfl rfl rfl rfl (by omega) (by omega) (o' := i) (by omega) ?_
      refine G.perm ?_ hperm
      refine G.cons ?_
      refine o_loadIx i hiA rfl rfl rfl rfl ?_
      refine G.perm ?_ hperm.symm
      rw [hAi]
      repeat (first | refine stp ?_ | (refine sti ?_; intro _) | refine stf ?_ | (refine stb ?_; intro _))
      refine o_yieldR (Mr := []) rfl rfl rfl rfl hyk (fun I hp φ hφ => hp φ (by simp [hφ])) (by simp) ?_ ?_
      · intro st2 hst2
        repeat (first | refine stp ?_ | (refine sti ?_; intro _) | refine stf ?_ | (refine stb ?_; intro _))
        refine G.again (S := (Nat × Nat) × St) ((i + 1, m + 1), st2) (by dsimp only; omega) ⟨by dsimp only; omega, hd', hm1, hst2, .inr ?_⟩ ⟨fun I hp φ hφ => ?_⟩ (look_sub_cons rfl (look_sub_cons rfl (look_sub_cons rfl (look_sub_cons rfl look_sub_nil)))) (by simp)
        · dsimp only
          rw [Nat.add_sub_cancel, List.getD_eq_getElem?_getD, List.getElem?_eq_getElem hm1]
          show (idleL A0)[m] < i + 1
          omega
        · rcases List.mem_cons.1 hφ with rfl | hφ
          · exact hp _ (by simp)
          · exact hp _ (by simp [hφ])
      · intro s hs
        repeat (first | refine stp ?_ | (refine sti ?_; intro _) | refine stf ?_ | (refine stb ?_; intro _))
        exact G.ret rfl .nil (Φ' := s.1) (M' := s.2) ⟨fun I hp φ hφ => hp φ (List.mem_append_left _ hφ)⟩ (by simp) (.inr hs)
    · rw [idleR_step hi1, if_neg hno] at hd
      repeat (first | refine stp ?_ | (refine sti ?_; intro _) | refine stf ?_ | (refine stb ?_; intro _))
      refine o_idxO rfl rfl rfl rfl (by omega) (by omega) (o' := i) (by omega) ?_
      refine G.perm ?_ hperm
      refine G.cons ?_
      refine o_loadIx i hiA rfl rfl rfl rfl ?_
      refine G.perm ?_ hperm.symm
      rw [hAi]
      repeat (first | refine stp ?_ | (refine sti ?_; intro _) | refine stf ?_ | (refine stb ?_; intro _))
      refine G.again (S := (Nat × Nat) × St) ((i + 1, m), st) (by dsimp only; omega) ⟨by dsimp only; omega, hd, hm, hst, hlast.imp id (fun h => by dsimp only; omega)⟩ ⟨fun I hp φ hφ => hp φ ?_⟩ (look_sub_cons rfl (look_sub_cons rfl (look_sub_cons rfl (look_sub_cons rfl look_sub_nil)))) (List.Sublist.refl _)
      first | exact hφ | exact .tail _ hφ | exact .tail _ (.tail _ hφ)
theorem dones2_spec (v : Value) (l : Lot) (hl : FitL l) : Fn Tryz.prog 39 [v] [fRp v l] [] (ROwn 4 (dvL l)) := by
  intro I w hp hw
  refine (dones_spec v l hl I w hp hw).mono ?_
  rintro e w' ⟨u, Φ', M', I', rfl, hR, hf, hwd⟩
  unfold dvL
  cases hD : donesL l with
  | none =>
    rw [hD] at hR
    obtain ⟨rfl, rfl, rfl⟩ := hR
    exact ⟨_, [fRow ([] : List Value) ([] : List Bool)], [], I', rfl, ⟨none, ⟨rfl, rfl⟩, rfl, rfl⟩, fun φ hφ => by
      rw [List.mem_singleton] at hφ
      subst hφ
      exact ⟨Nat.le_refl _, fun k hk => by cases hk⟩, hwd⟩
  | some D =>
    rw [hD] at hR
    obtain ⟨b, rfl, rfl, rfl⟩ := hR
    have hlen : D.length = l.sets.length := by
      unfold donesL at hD
      rw [markP_len _ _ _ hD, List.length_replicate]
    exact ⟨_, [fRow (cB D) D], [(b, Ob (cB D) 4)], I', rfl, ⟨some (b, cB D), own_cB b D hlen.symm, rfl, rfl⟩, fun φ hφ => by
      rw [List.mem_singleton] at hφ
      subst hφ
      exact rowB I' D, hwd⟩
theorem dvL_len (l : Lot) : (dvL l).length ≤ l.sets.length := by
  unfold dvL
  cases hD : donesL l with
  | none => simp
  | some D =>
    unfold donesL at hD
    show D.length ≤ _
    rw [markP_len _ _ _ hD, List.length_replicate]
    exact Nat.le_refl _
/-- Filling the lanes of a lot of one's own. -/
theorem fill_spec (vs : Option Addr) (cs : Nat) (vL vA vB vD : Value) (oL oA oB oD : OR) (l : Lot) (hl : FitL l) (hA1 : 1 ≤ l.at_.length) (hL : IsOwn 1 vL l.left.length oL) (hA : IsOwn 1 vA l.at_.length oA) (hB : IsOwn 1 vB l.begun.length oB) (hD : IsOwn 1 vD l.done.length oD) :
    Fn Tryz.prog 35 [.agg #[.slice vs l.sets.length cs, vL, vA, vB, vD]] [fRp (.slice vs l.sets.length cs) l.sets, fRow (ocells oL) l.left, fRow (ocells oA) l.at_, fRow (ocells oB) l.begun, fRow (ocells oD) l.done] (ownM 3 oL ++ (ownM 3 oA ++ (ownM 4 oB ++ ownM 3 oD))) (ROwnLot 3 4 id (fillLot l)) := by
  have hfit := hl
  obtain ⟨fs, ns, nl, na, nb, nd⟩ := hl
  cases oA with
  | none => exact absurd hA.2 (by omega)
  | some qA =>
  obtain ⟨bA, csA⟩ := qA
  refine Fn.enter Tryz.func35 rfl Tryz.ntmps35 (by simp) (fun I0 w0 => ?_)
  refine W.bare (G.use (p := ∃ ex, csA = cIx l.at_ ex) (fun I hp => row_cIx (hp (fRow csA l.at_) (.tail _ (.tail _ (.head _))))) ?_)
  rintro ⟨exA, rfl⟩
  refine G.use (p := ∃ q : Option (Nat × List Value), oB = q.map (fun p => (p.1, cBx l.begun p.2)) ∧ (q = none → l.begun = [])) (fun I hp => by
    cases oB with
    | none => exact ⟨none, rfl, fun _ => List.length_eq_zero_iff.1 hB.2⟩
    | some qB =>
      obtain ⟨bB, csB⟩ := qB
      obtain ⟨ex, he⟩ := row_cBx (hp (fRow csB l.begun) (.tail _ (.tail _ (.tail _ (.head _)))))
      exact ⟨some (bB, ex), by rw [he]; rfl, fun h => by cases h⟩) ?_
  rintro ⟨q, hq, hq0⟩
  obtain ⟨capA, rfl, hcA, hcapA⟩ := id hA
  refine G.code ?_
  have cL := own_cell hL
  have cB' := own_cell hB
  have cD := own_cell hD
  repeat (first | refine stp ?_ | (refine sti ?_; intro _) | refine stf ?_ | (refine stb ?_; intro _))
  rename_i b1 b2
  refine W.drawX 12 (fun D c => (b2, Ob [.slice none 0 0, .slice none 0 0, .slice none 0 0, .slice none 0 0, .slice none 0 0] 28) :: (b1, Ob [.slice vs l.sets.length cs, vL, .slice (some ⟨bA, 0, none⟩) l.at_.length capA, vB, vD] 28) :: ((bif D 11 then [(pb (c 10), Ob [cv (c 6)] 23)] else (bif D 10 then [(pb (c 10), Ob [.slice none 0 0] 23)] else [])) ++ (bif D 6 then (ownM 3 oL ++ (ownM 3 (some (bA, cIx l.at_ exA)) ++ (ownM 4 oB ++ (ownM 3 oD ++ (ownM 4 (co (c 5)) ++ ownM 3 (co (c 6))))))) else (bif D 5 then (ownM 3 oL ++ (ownM 3 (some (bA, cIx l.at_ exA)) ++ (ownM 4 oB ++ (ownM 3 oD ++ ownM 4 (co (c 5)))))) else (ownM 3 oL ++ (ownM 3 (some (bA, cIx l.at_ exA)) ++ (ownM 4 oB ++ ownM 3 oD))))))) [⟨?v0_1, fun _ z => []⟩, ⟨?v1_1, fun _ z => []⟩, ⟨?v2_1, fun _ z => []⟩, ⟨?v3_1, fun _ z => []⟩, ⟨?v4_1, fun _ z => []⟩, ⟨fun _ z => cv z, fun _ z => [fPure (IsOwn 1 (cv z) (dvL l).length (co z)), fRow (ocells (co z)) (dvL l)]⟩, ⟨fun _ z => tupE (errR l.sets l.begun (dvL l)) (cv z), fun _ z => [fPure (IsOwn 1 (cv z) (readyR l.sets l.begun (dvL l)).length (co z)), fRow (ocells (co z)) (readyR l.sets l.begun (dvL l))]⟩, ⟨?v7_1, fun _ z => []⟩, ⟨?v8_1, fun _ z => []⟩, ⟨?v9_1, fun _ z => []⟩, ⟨fun _ z => .pointer (some ⟨pb z, 0, none⟩), fun _ z => []⟩, ⟨fun _ z => z, fun _ z => []⟩] [[], [0], [], [2], [], [4], [1, 3, 5], [6], [6, 7], [6, 7], [], [6, 8, 10]] [5, 6, 9, 10] (by kernel_rfl) (by kernel_rfl) (by kernel_rfl) (by kernel_rfl) ?loc_1 ?hz_1 ?ops_1 ?rest_1
  case ops_1 =>
    simp only [AllX, Nat.reduceAdd, and_true]
    refine ⟨?_, ?_, ?_, ?_, ?_, ?_, ?_, ?_, ?_, ?_, ?_, ?_⟩
    all_goals (intro D c z0 Φr Lr K hDi hAnc hDn hK; dsimp only [dstOf, dstX, putX, kval, kfac, ancE, ancX, ancF, getD_z, getD_s, List.getElem?_cons_zero, List.getElem?_cons_succ, List.getElem?_nil, Option.getD_some, Option.getD_none, List.nil_append, List.cons_append, Option.getD] at hK ⊢)
    iterate 5 ((first | refine stp ?_ | refine stf ?_); exact hK z0)
    · have h11 : D 11 = false := dnF hDn hDi (by kernel_rfl); have h6 : D 6 = false := dnF hDn hDi (by kernel_rfl); simp only [updD, updC, hDi, h6, h11, Nat.reduceEqDiff, ↓reduceIte, cond_true, cond_false] at hK ⊢; refine o_lendO rfl rfl rfl rfl (dones2_spec _ l hfit) (LEnts.cons (a := LEnt.lot LEnt.of (LEnt.own oL 3 hL inferInstance (fun p hp => by simp [hp])) (LEnt.own (some (bA, cIx l.at_ exA)) 3 hA (Ent'.cIx (xs := l.at_)) (fun p hp => by simp [ownM] at hp; simp [hp, ownM])) (LEnt.own oB 4 hB inferInstance (fun p hp => by simp [hp])) (LEnt.own oD 3 hD inferInstance (fun p hp => by simp [hp]))) (b := LEnts.nil)) ?_; intro v' o' hown'; have hk := hK (codeO v' o'); simp only [cv_code, co_code] at hk; refine G.learn (fPure (IsOwn 1 v' _ o')) (e := ⟨fun _ _ => hown'⟩) ?_; refine G.perm hk ?_; simp only [List.cons_append, List.append_assoc]; exact List.Perm.refl _
    · have h11 : D 11 = false := dnF hDn hDi (by kernel_rfl); have h5 : D 5 = true := hAnc 5 (by kernel_rfl); simp only [updD, updC, hDi, h5, h11, Nat.reduceEqDiff, ↓reduceIte, cond_true, cond_false] at hK ⊢; refine OpK.use (p := IsOwn 1 (cv (c 5)) (dvL l).length (co (c 5))) (fun I hp => hp (fPure _) (by first | exact .head _ | exact .tail _ (.head _) | exact .tail _ (.tail _ (.head _)) | exact .tail _ (.tail _ (.tail _ (.head _))) | exact .tail _ (.tail _ (.tail _ (.tail _ (.head _)))) | exact .tail _ (.tail _ (.tail _ (.tail _ (.tail _ (.head _))))) | exact .tail _ (.tail _ (.tail _ (.tail _ (.tail _ (.tail _ (.head _)))))) | exact .tail _ (.tail _ (.tail _ (.tail _ (.tail _ (.tail _ (.tail _ (.head _))))))) | exact .tail _ (.tail _ (.tail _ (.tail _ (.tail _ (.tail _ (.tail _ (.tail _ (.head _)))))))) | exact .tail _ (.tail _ (.tail _ (.tail _ (.tail _ (.tail _ (.tail _ (.tail _ (.tail _ (.head _))))))))) | exact .tail _ (.tail _ (.tail _ (.tail _ (.tail _ (.tail _ (.tail _ (.tail _ (.tail _ (.tail _ (.head _)))))))))) | exact .tail _ (.tail _ (.tail _ (.tail _ (.tail _ (.tail _ (.tail _ (.tail _ (.tail _ (.tail _ (.tail _ (.head _))))))))))) | exact .tail _ (.tail _ (.tail _ (.tail _ (.tail _ (.tail _ (.tail _ (.tail _ (.tail _ (.tail _ (.tail _ (.tail _ (.head _)))))))))))))) ?_; intro hdv; refine o_lendU (mk := tupE (errR l.sets l.begun (dvL l))) rfl rfl rfl rfl (ready_spec _ _ _ l.sets l.begun (dvL l) ns fs (by omega) (by have := dvL_len l; omega)) (LEnts.cons (a := LEnt.of) (b := LEnts.cons (a := LEnt.own oB 4 hB inferInstance (fun p hp => by simp [hp])) (b := LEnts.cons (a := LEnt.own (co (c 5)) 4 hdv inferInstance (fun p hp => by simp [hp])) (b := LEnts.nil)))) ?_; intro v' o' hown'; have hk := hK (codeO v' o'); simp only [cv_code, co_code] at hk; refine G.learn (fPure (IsOwn 1 v' _ o')) (e := ⟨fun _ _ => hown'⟩) ?_; refine G.perm hk ?_; simp only [List.cons_append, List.append_assoc]; exact List.Perm.refl _
    iterate 3 (refine stp ?_; exact hK z0)
    · have h11 : D 11 = false := dnF hDn hDi (by kernel_rfl); simp only [updD, updC, hDi, h11, Nat.reduceEqDiff, ↓reduceIte, cond_true, cond_false, List.nil_append] at hK ⊢; refine o_alloc rfl rfl ?_; intro b; refine G.perm (hK (.pointer (some ⟨b, 0, none⟩))) ?_; exact (List.Perm.swap _ _ _).trans ((List.Perm.swap _ _ _).cons _)
    · have h10 : D 10 = true := hAnc 10 (by kernel_rfl); have h6 : D 6 = true := hAnc 6 (by kernel_rfl); simp only [updD, updC, hDi, h10, h6, Nat.reduceEqDiff, ↓reduceIte, cond_true, cond_false, List.cons_append, List.nil_append] at hK ⊢; refine OpK.use (p := IsOwn 1 (cv (c 6)) (readyR l.sets l.begun (dvL l)).length (co (c 6))) (fun I hp => hp (fPure _) (by first | exact .head _ | exact .tail _ (.head _) | exact .tail _ (.tail _ (.head _)) | exact .tail _ (.tail _ (.tail _ (.head _))) | exact .tail _ (.tail _ (.tail _ (.tail _ (.head _)))) | exact .tail _ (.tail _ (.tail _ (.tail _ (.tail _ (.head _))))) | exact .tail _ (.tail _ (.tail _ (.tail _ (.tail _ (.tail _ (.head _)))))) | exact .tail _ (.tail _ (.tail _ (.tail _ (.tail _ (.tail _ (.tail _ (.head _))))))) | exact .tail _ (.tail _ (.tail _ (.tail _ (.tail _ (.tail _ (.tail _ (.tail _ (.head _)))))))) | exact .tail _ (.tail _ (.tail _ (.tail _ (.tail _ (.tail _ (.tail _ (.tail _ (.tail _ (.head _))))))))) | exact .tail _ (.tail _ (.tail _ (.tail _ (.tail _ (.tail _ (.tail _ (.tail _ (.tail _ (.tail _ (.head _)))))))))) | exact .tail _ (.tail _ (.tail _ (.tail _ (.tail _ (.tail _ (.tail _ (.tail _ (.tail _ (.tail _ (.tail _ (.head _))))))))))) | exact .tail _ (.tail _ (.tail _ (.tail _ (.tail _ (.tail _ (.tail _ (.tail _ (.tail _ (.tail _ (.tail _ (.tail _ (.head _)))))))))))))) ?_; intro h6o; refine o_store (vs := [cv (c 6)]) (cs' := [cv (c 6)]) rfl rfl rfl (own_cell h6o).1 rfl (Nat.le_of_ble_eq_true rfl) (own_cell h6o).2 rfl ?_; exact hK z0
  case hz_1 => intro c; rfl
  case loc_1 =>
    simp only [AllL, Nat.reduceAdd, and_true]
    refine ⟨?_, ?_, ?_, ?_, ?_, ?_, ?_, ?_, ?_, ?_, ?_, ?_⟩
    · exact fun _ _ _ _ => ⟨rfl, rfl⟩
    · exact fun _ _ _ _ => ⟨rfl, rfl⟩
    · exact fun _ _ _ _ => ⟨rfl, rfl⟩
    · exact fun _ _ _ _ => ⟨rfl, rfl⟩
    · exact fun _ _ _ _ => ⟨rfl, rfl⟩
    · exact fun _ _ _ _ => ⟨rfl, rfl⟩
    · exact fun _ _ _ _ => ⟨rfl, rfl⟩
    · intro c c' z h; simp only [getD_s, getD_z, h 6 (by kernel_rfl), and_self]
    · intro c c' z h; simp only [getD_s, getD_z, h 6 (by kernel_rfl), and_self]
    · exact fun _ _ _ _ => ⟨rfl, rfl⟩
    · exact fun _ _ _ _ => ⟨rfl, rfl⟩
    · exact fun _ _ _ _ => ⟨rfl, rfl⟩
  intro c
  dsimp only [dstOf, dstX, putX, kval, kfac, ancE, ancX,  ancF, getD_z, getD_s, List.getElem?_cons_zero, List.getElem?_cons_succ, List.getElem?_nil, Option.getD_some, Option.getD_none, List.nil_append, List.cons_append, List.drop_succ_cons, List.drop_zero, Option.getD]
  show LW _ _ _ _ _ _ ((b2, Ob [.slice none 0 0, .slice none 0 0, .slice none 0 0, .slice none 0 0, .slice none 0 0] 28) :: (b1, Ob [.slice vs l.sets.length cs, vL, .slice (some ⟨bA, 0, none⟩) l.at_.length capA, vB, vD] 28) :: (pb (c 10), Ob [cv (c 6)] 23) :: (ownM 3 oL ++ (ownM 3 (some (bA, cIx l.at_ exA)) ++ (ownM 4 oB ++ (ownM 3 oD ++ (ownM 4 (co (c 5)) ++ ownM 3 (co (c 6))))))))
  refine LW.bare (G.use (p := IsOwn 1 (cv (c 5)) (dvL l).length (co (c 5))) (fun I hp => hp (fPure _) (by first | exact .head _ | exact .tail _ (.head _) | exact .tail _ (.tail _ (.head _)) | exact .tail _ (.tail _ (.tail _ (.head _))) | exact .tail _ (.tail _ (.tail _ (.tail _ (.head _)))) | exact .tail _ (.tail _ (.tail _ (.tail _ (.tail _ (.head _))))) | exact .tail _ (.tail _ (.tail _ (.tail _ (.tail _ (.tail _ (.head _)))))) | exact .tail _ (.tail _ (.tail _ (.tail _ (.tail _ (.tail _ (.tail _ (.head _))))))) | exact .tail _ (.tail _ (.tail _ (.tail _ (.tail _ (.tail _ (.tail _ (.tail _ (.head _)))))))) | exact .tail _ (.tail _ (.tail _ (.tail _ (.tail _ (.tail _ (.tail _ (.tail _ (.tail _ (.head _))))))))) | exact .tail _ (.tail _ (.tail _ (.tail _ (.tail _ (.tail _ (.tail _ (.tail _ (.tail _ (.tail _ (.head _)))))))))) | exact .tail _ (.tail _ (.tail _ (.tail _ (.tail _ (.tail _ (.tail _ (.tail _ (.tail _ (.tail _ (.tail _ (.head _))))))))))) | exact .tail _ (.tail _ (.tail _ (.tail _ (.tail _ (.tail _ (.tail _ (.tail _ (.tail _ (.tail _ (.tail _ (.tail _ (.head _)))))))))))))) ?_)
  intro hdv
  refine G.use (p := IsOwn 1 (cv (c 6)) (readyR l.sets l.begun (dvL l)).length (co (c 6))) (fun I hp => hp (fPure _) (by first | exact .head _ | exact .tail _ (.head _) | exact .tail _ (.tail _ (.head _)) | exact .tail _ (.tail _ (.tail _ (.head _))) | exact .tail _ (.tail _ (.tail _ (.tail _ (.head _)))) | exact .tail _ (.tail _ (.tail _ (.tail _ (.tail _ (.head _))))) | exact .tail _ (.tail _ (.tail _ (.tail _ (.tail _ (.tail _ (.head _)))))) | exact .tail _ (.tail _ (.tail _ (.tail _ (.tail _ (.tail _ (.tail _ (.head _))))))) | exact .tail _ (.tail _ (.tail _ (.tail _ (.tail _ (.tail _ (.tail _ (.tail _ (.head _)))))))) | exact .tail _ (.tail _ (.tail _ (.tail _ (.tail _ (.tail _ (.tail _ (.tail _ (.tail _ (.head _))))))))) | exact .tail _ (.tail _ (.tail _ (.tail _ (.tail _ (.tail _ (.tail _ (.tail _ (.tail _ (.tail _ (.head _)))))))))) | exact .tail _ (.tail _ (.tail _ (.tail _ (.tail _ (.tail _ (.tail _ (.tail _ (.tail _ (.tail _ (.tail _ (.head _))))))))))) | exact .tail _ (.tail _ (.tail _ (.tail _ (.tail _ (.tail _ (.tail _ (.tail _ (.tail _ (.tail _ (.tail _ (.tail _ (.head _)))))))))))))) ?_
  intro hown6
  generalize pb (c 10) = b3
  generalize cv (c 6) = v6 at hown6 ⊢
  generalize co (c 6) = o6 at hown6 ⊢
  have hmr := fun v (hv : v ∈ readyR l.sets l.begun (dvL l)) => ready_at hv
  have hRl := ready_len l.sets l.begun (dvL l)
  refine G.giveOwn v6 (readyR l.sets l.begun (dvL l)) o6 3 (Mr := (b2, Ob [.slice none 0 0, .slice none 0 0, .slice none 0 0, .slice none 0 0, .slice none 0 0] 28) :: (b1, Ob [.slice vs l.sets.length cs, vL, .slice (some ⟨bA, 0, none⟩) l.at_.length capA, vB, vD] 28) :: (b3, Ob [v6] 23) :: (ownM 3 oL ++ (ownM 3 (some (bA, cIx l.at_ exA)) ++ (ownM 4 oB ++ (ownM 3 oD ++ ownM 4 (co (c 5))))))) hown6 inferInstance ?_ ?_
  · refine List.Perm.trans ?_ List.perm_append_comm
    simp only [List.cons_append, List.append_assoc]
    exact List.Perm.refl _
  refine G.slice v6 (readyR l.sets l.begun (dvL l)) ?_
  intro ra rc e _
  subst e
  have hqB : q = none → l.begun = [] := hq0
  change oB = oBx q l.begun at hq
  subst hq
  rw [ownBx_eq]
  generalize hR : readyR l.sets l.begun (dvL l) = R at hmr hRl hown6 ⊢
  generalize hPl : placeL l.at_ l.begun (idleL l.at_) R = PL
  have hFl : fillLot l = ⟨l.sets, l.left, PL.1, PL.2, l.done⟩ := by unfold fillLot; rw [hR, hPl]
  rw [hFl]
  repeat (first | refine stp ?_ | (refine sti ?_; intro _) | refine stf ?_ | (refine stb ?_; intro _))
  refine OpK.call rfl rfl rfl rfl (idle_spec _ _ _ _ _ (by
    have q1 := cL.2
    have q2 := cB'.2
    have q3 := cD.2
    simp only [ones, List.all_cons, List.all_nil, Bool.and_true, Bool.and_eq_true] at q1 q2 q3 ⊢
    exact ⟨rfl, q1, rfl, q2, q3⟩)) inferInstance (Mr := _) (List.Perm.refl _) ?_
  rintro u Φ' Mc' ⟨b, rfl, rfl, rfl⟩
  dsimp only [List.cons_append, List.nil_append]
  repeat (first | refine stp ?_ | (refine sti ?_; intro _) | refine stf ?_ | (refine stb ?_; intro _))
  refine W.rangeFuncC (C := CRow bA 3 exA l.at_) (enc := (idleL l.at_).map fun (k : Nat) => [.int .i64 (k : Int)]) (ps := [18]) (Φi := [fBlk b [.slice vs l.sets.length cs, vL, .slice (some ⟨bA, 0, none⟩) l.at_.length capA, vB, vD] 28]) (Mr := (b2, Ob [.slice none 0 0, .slice none 0 0, .slice none 0 0, .slice none 0 0, .slice none 0 0] 28) :: (ownM 3 oL ++ (ownM 3 oD ++ ownM 4 (co (c 5)))))
    (fun k s => ∃ A B rs ra rc, AgreeI l.at_ (idleL l.at_) k A ∧ B.length = l.begun.length ∧ placeL A B ((idleL l.at_).drop k) rs = PL ∧ (∀ v ∈ rs, v ∈ R) ∧ s = ([fRp (.slice ra rs.length rc) rs], (b1, Ob [.slice vs l.sets.length cs, vL, .slice (some ⟨bA, 0, none⟩) l.at_.length capA, vB, vD] 28) :: (b3, Ob [.slice ra rs.length rc] 23) :: (bA, Ob (cIx A exA) 3) :: ownBx 4 q B))
    (fun j s => j = .exit 0 ∧ ∃ A B vr, A.length = l.at_.length ∧ B.length = l.begun.length ∧ PL = (A, B) ∧ s = ([], (b1, Ob [.slice vs l.sets.length cs, vL, .slice (some ⟨bA, 0, none⟩) l.at_.length capA, vB, vD] 28) :: (b3, Ob [vr] 23) :: (bA, Ob (cIx A exA) 3) :: ownBx 4 q B))
    rfl (idle1o_spec b bA exA (.slice vs l.sets.length cs) vL vB vD capA l.at_ na) ?_ (by decide) (encN_len _) inferInstance ([fRp (.slice ra R.length rc) R], (b1, Ob [.slice vs l.sets.length cs, vL, .slice (some ⟨bA, 0, none⟩) l.at_.length capA, vB, vD] 28) :: (b3, Ob [.slice ra R.length rc] 23) :: (bA, Ob (cIx l.at_ exA) 3) :: ownBx 4 q l.begun) ⟨l.at_, l.begun, R, ra, rc, AgreeI.zero _ _, rfl, hPl, fun v hv => hv, rfl⟩ inferInstance (perm_in ((b2, Ob [.slice none 0 0, .slice none 0 0, .slice none 0 0, .slice none 0 0, .slice none 0 0] 28)) ((b1, Ob [.slice vs l.sets.length cs, vL, .slice (some ⟨bA, 0, none⟩) l.at_.length capA, vB, vD] 28)) (b3, Ob [.slice ra R.length rc] 23) (bA, Ob (cIx l.at_ exA) 3) (ownM 3 oL) (ownBx 4 q l.begun) (ownM 3 oD) (ownM 4 (co (c 5)))) ?_ ?_ ?_
  · rintro k s ⟨A, B, rs, ra', rc', hag, _, _, _, rfl⟩ e
    refine CRow.more ?_ e
    exact ⟨A, (b1, Ob [.slice vs l.sets.length cs, vL, .slice (some ⟨bA, 0, none⟩) l.at_.length capA, vB, vD] 28) :: (b3, Ob [.slice ra' rs.length rc'] 23) :: ownBx 4 q B, permC fun _ x => by simp only [List.count_cons]; omega, hag⟩
  · rintro ll rec I0' w0' k hk _ ⟨A, B, rs, ra', rc', hag, hBl, hpl, hrs, rfl⟩
    have hk1 : k < (idleL l.at_).length := by simpa using hk
    have hkA : (idleL l.at_)[k] < A.length := by rw [hag.1]; exact idle_lt hk1
    rw [List.drop_eq_getElem_cons hk1] at hpl
    have hag' := fun r => hag.step hk1 r
    dsimp only
    rw [List.getElem_map]
    generalize (idleL l.at_)[k] = i at hkA hpl hag' ⊢
    show W _ _ _ _ ((18, Value.int .i64 (i : Nat)) :: _) _
    cases rs with
    | nil =>
      rw [placeL_nil] at hpl
      repeat (first | refine stp ?_ | (refine sti ?_; intro _) | refine stf ?_ | (refine stb ?_; intro _))
      refine G.begin (by rfl) ?_
      repeat (first | refine stp ?_ | (refine sti ?_; intro _) | refine stf ?_ | (refine stb ?_; intro _))
      refine G.roundExit inferInstance (Φ' := []) (M'' := (b1, Ob [.slice vs l.sets.length cs, vL, .slice (some ⟨bA, 0, none⟩) l.at_.length capA, vB, vD] 28) :: (b3, Ob [.slice ra' 0 rc'] 23) :: (bA, Ob (cIx A exA) 3) :: ownBx 4 q B) (.inr ⟨rfl, .exit 0, ([], (b1, Ob [.slice vs l.sets.length cs, vL, .slice (some ⟨bA, 0, none⟩) l.at_.length capA, vB, vD] 28) :: (b3, Ob [.slice ra' 0 rc'] 23) :: (bA, Ob (cIx A exA) 3) :: ownBx 4 q B), ⟨rfl, A, B, _, hag.1, hBl, hpl.symm, rfl⟩, rfl⟩) inferInstance (List.Sublist.refl _)
    | cons r rs =>
      obtain ⟨kr, hkr1, hkr2, rfl⟩ := hmr r (hrs r List.mem_cons_self)
      obtain ⟨bB, exB, rfl⟩ : ∃ bB exB, q = some (bB, exB) := by
        cases q with
        | none => rw [hqB rfl] at hkr2; cases hkr2
        | some p => exact ⟨p.1, p.2, rfl⟩
      obtain ⟨capB, rfl, hcB, hcapB⟩ := hB
      rw [placeL, Int.toNat_natCast] at hpl
      have hkB : kr < B.length := by omega
      have hAl := hag.1
      show W _ _ _ _ _ (_ :: _ :: _ :: _ :: [(bB, Ob (cBx B exB) 4)])
      repeat (first | refine stp ?_ | (refine sti ?_; intro _) | refine stf ?_ | (refine stb ?_; intro _))
      refine G.begin (by rfl) ?_
      repeat (first | refine stp ?_ | (refine sti ?_; intro _) | refine stf ?_ | (refine stb ?_; intro _))
      change W _ _ _ _ _ ((ll, busyL rec) :: _)
      refine W.drawX 13 (fun D c => (ll, busyL rec) :: (b1, Ob [.slice vs l.sets.length cs, vL, .slice (some ⟨bA, 0, none⟩) l.at_.length capA, .slice (some ⟨bB, 0, none⟩) l.begun.length capB, vD] 28) :: (b3, Ob [.slice ra' ((kr : Int) :: rs).length rc'] 23) :: (bA, Ob (bif D 12 then cIx (A.set i kr) exA else cIx A exA) 3) :: (bB, Ob (cBx B exB) 4) :: []) [⟨?v0_2, fun _ z => []⟩, ⟨?v1_2, fun _ z => []⟩, ⟨?v2_2, fun _ z => []⟩, ⟨?v3_2, fun _ z => []⟩, ⟨?v4_2, fun _ z => []⟩, ⟨?v5_2, fun _ z => []⟩, ⟨fun _ z => z, fun _ z => [fPt z (kr : Int)]⟩, ⟨?v7_2, fun _ z => []⟩, ⟨?v8_2, fun _ z => []⟩, ⟨fun _ z => z, fun _ z => [fPt z (kr : Int)]⟩, ⟨?v10_2, fun _ z => []⟩, ⟨?v11_2, fun _ z => []⟩, ⟨fun _ z => z, fun _ z => []⟩] [[], [0], [], [], [3], [], [5], [6], [], [8], [9], [1, 2], [10, 11]] [4, 7, 12] (by kernel_rfl) (by kernel_rfl) (by kernel_rfl) (by kernel_rfl) ?loc_2 ?hz_2 ?ops_2 ?rest_2
      case ops_2 =>
        simp only [AllX, Nat.reduceAdd, and_true]
        refine ⟨?_, ?_, ?_, ?_, ?_, ?_, ?_, ?_, ?_, ?_, ?_, ?_, ?_⟩
        all_goals (intro D c z0 Φr Lr K hDi hAnc hDn hK; dsimp only [dstOf, dstX, putX, kval, kfac, ancE, ancX, ancF, getD_z, getD_s, List.getElem?_cons_zero, List.getElem?_cons_succ, List.getElem?_nil, Option.getD_some, Option.getD_none, List.nil_append, List.cons_append, Option.getD] at hK ⊢)
        iterate 6 ((first | refine stp ?_ | refine stf ?_); exact hK z0)
        · refine o_idxN 0 rfl rfl rfl rfl rfl (by simp) ?_; intro p; exact hK _
        · (first | refine stp ?_ | refine stf ?_); exact hK z0
        · (first | refine stp ?_ | refine stf ?_); exact hK z0
        · refine o_idxN 0 rfl rfl rfl rfl rfl (by simp) ?_; intro p; exact hK _
        · (first | refine stp ?_ | refine stf ?_); exact hK z0
        · refine o_idxO rfl rfl rfl rfl (by omega) (by omega) (o' := i) (by omega) ?_; exact hK z0
        · simp only [updD, updC, hDi, Nat.reduceEqDiff, ↓reduceIte, cond_true, cond_false] at hK ⊢; refine o_storeIx i (kr : Int) hkA rfl rfl rfl rfl ?_; exact hK z0
      case hz_2 => intro c; rfl
      case loc_2 =>
        simp only [AllL, Nat.reduceAdd, and_true]
        refine ⟨?_, ?_, ?_, ?_, ?_, ?_, ?_, ?_, ?_, ?_, ?_, ?_, ?_⟩
        all_goals (intro c c' z h; first | exact ⟨rfl, rfl⟩ | (skip))
      intro c
      dsimp only [dstOf, dstX, putX, kval, kfac, ancE, ancX,  ancF, getD_z, getD_s, List.getElem?_cons_zero, List.getElem?_cons_succ, List.getElem?_nil, Option.getD_some, Option.getD_none, List.nil_append, List.cons_append, List.drop_succ_cons, List.drop_zero, Option.getD]
      show LW _ _ _ _ _ _ ((ll, busyL rec) :: (b1, Ob [.slice vs l.sets.length cs, vL, .slice (some ⟨bA, 0, none⟩) l.at_.length capA, .slice (some ⟨bB, 0, none⟩) l.begun.length capB, vD] 28) :: (b3, Ob [.slice ra' ((kr : Int) :: rs).length rc'] 23) :: (bA, Ob (cIx (A.set i kr) exA) 3) :: (bB, Ob (cBx B exB) 4) :: [])
      repeat (first | refine stp ?_ | (refine sti ?_; intro _) | refine stf ?_ | (refine stb ?_; intro _))
      refine o_idxO rfl rfl rfl rfl (by omega) (by omega) (o' := kr) (by omega) ?_
      refine G.cons ?_
      refine o_storeBx kr true hkB rfl rfl rfl rfl ?_
      repeat (first | refine stp ?_ | (refine sti ?_; intro _) | refine stf ?_ | (refine stb ?_; intro _))
      have e1 : (((kr : Int) :: rs).take ((kr : Int) :: rs).length).drop 1 = rs := by rw [List.take_length]; rfl
      refine o_slice (xs := (kr : Int) :: rs) 1 ((kr : Int) :: rs).length rfl rfl rfl ⟨_, _, rfl, rfl⟩ rfl (by simp) (Nat.le_refl _) ?_
      rw [e1]
      intro z1
      refine G.slice z1 rs ?_
      intro ra2 rc2 e2 _
      subst e2
      repeat (first | refine stp ?_ | (refine sti ?_; intro _) | refine stf ?_ | (refine stb ?_; intro _))
      exact G.roundEnd (r := { rec with state := .busy, pending := none }) (inferInstanceAs (MDel ((ll, Obj.loop { rec with state := .busy, pending := none }) :: _) ll _ _)) (Φ' := [fRp (.slice ra2 rs.length rc2) rs]) (M'' := (b1, Ob [.slice vs l.sets.length cs, vL, .slice (some ⟨bA, 0, none⟩) l.at_.length capA, .slice (some ⟨bB, 0, none⟩) l.begun.length capB, vD] 28) :: (b3, Ob [.slice ra2 rs.length rc2] 23) :: (bA, Ob (cIx (A.set i kr) exA) 3) :: (bB, Ob (cBx (B.set kr true) exB) 4) :: []) (.inl ⟨rfl, ([_], _ :: _ :: _ :: _ :: []), ⟨A.set i kr, B.set kr true, rs, ra2, rc2, hag' _, by rw [List.length_set]; exact hBl, hpl, fun v hv => hrs v (.tail _ hv), rfl⟩, rfl⟩) inferInstance (List.Sublist.refl _)
  · rintro Dm s ⟨A, B, rs, ra', rc', hag, hBl, hpl, _, rfl⟩
    rw [List.length_map, List.drop_length, placeL_end] at hpl
    have hAl := hag.1
    subst hpl
    dsimp only [List.cons_append, List.nil_append]
    refine G.perm ?_ (perm_out (Dm, Obj.deferred (some [])) ((b2, Ob [.slice none 0 0, .slice none 0 0, .slice none 0 0, .slice none 0 0, .slice none 0 0] 28)) ((b1, Ob [.slice vs l.sets.length cs, vL, .slice (some ⟨bA, 0, none⟩) l.at_.length capA, vB, vD] 28)) (b3, Ob [.slice ra' rs.length rc'] 23) (bA, Ob (cIx A exA) 3) (ownBx 4 q B) (ownM 3 oL ++ (ownM 3 oD ++ ownM 4 (co (c 5)))))
    repeat (first | refine stp ?_ | (refine sti ?_; intro _) | refine stf ?_ | (refine stb ?_; intro _))
    refine o_store (vs := [.slice vs l.sets.length cs, vL, .slice (some ⟨bA, 0, none⟩) l.at_.length capA, vB, vD]) (cs' := [.slice vs l.sets.length cs, vL, .slice (some ⟨bA, 0, none⟩) l.at_.length capA, vB, vD]) rfl rfl rfl rfl rfl (Nat.le_of_ble_eq_true rfl) (by
      have q1 := cL.2
      have q2 := cB'.2
      have q3 := cD.2
      simp only [ones, List.all_cons, List.all_nil, Bool.and_true, Bool.and_eq_true] at q1 q2 q3 ⊢
      exact ⟨rfl, q1, rfl, q2, q3⟩) rfl ?_
    repeat (first | refine stp ?_ | (refine sti ?_; intro _) | refine stf ?_ | (refine stb ?_; intro _))
    refine G.unmark inferInstance ?_
    refine G.perm ?_ (List.Perm.cons _ (List.Perm.cons _ (List.Perm.cons _ (perm_ret (bA, Ob (cIx A exA) 3) (ownM 3 oL) (ownBx 4 q B) (ownM 3 oD) (ownM 4 (co (c 5)))))))
    refine G.ret rfl (.cons (.cellA rfl rfl) .nil) (Φ' := [fRp (.slice vs l.sets.length cs) l.sets, fRow (ocells oL) l.left, fRow (cIx A exA) A, fRow (ocells (oBx q B)) B, fRow (ocells oD) l.done]) (M' := ownM 3 oL ++ (ownM 3 (some (bA, cIx A exA)) ++ (ownM 4 (oBx q B) ++ ownM 3 oD))) (Ents.cons (b := Ents.cons (b := Ents.cons (a := Ent'.cIx) (b := Ents.cons (a := ⟨fun I _ => row_oBx I q B (fun h => List.length_eq_zero_iff.1 (by rw [hBl, hqB h]; rfl))⟩) (b := inferInstance))))) (by rw [ownBx_eq]; exact .cons _ (.cons _ (.cons _ (List.sublist_append_left _ _)))) ⟨vs, cs, vL, oL, _, some (bA, cIx A exA), vB, oBx q B, vD, oD, rfl, hL, own_cIx (by rw [hAl]; exact hA) hAl, own_oBx (by rw [hBl]; exact hB) hBl, hD, rfl, rfl⟩
  · rintro Dm j s ⟨rfl, A, B, vr, hAl, hBl, rfl, rfl⟩
    dsimp only [List.cons_append, List.nil_append]
    refine W.bare (G.perm ?_ (perm_out (Dm, Obj.deferred (some [])) ((b2, Ob [.slice none 0 0, .slice none 0 0, .slice none 0 0, .slice none 0 0, .slice none 0 0] 28)) ((b1, Ob [.slice vs l.sets.length cs, vL, .slice (some ⟨bA, 0, none⟩) l.at_.length capA, vB, vD] 28)) (b3, Ob [vr] 23) (bA, Ob (cIx A exA) 3) (ownBx 4 q B) (ownM 3 oL ++ (ownM 3 oD ++ ownM 4 (co (c 5))))))
    refine G.code ?_
    repeat (first | refine stp ?_ | (refine sti ?_; intro _) | refine stf ?_ | (refine stb ?_; intro _))
    refine o_store (vs := [.slice vs l.sets.length cs, vL, .slice (some ⟨bA, 0, none⟩) l.at_.length capA, vB, vD]) (cs' := [.slice vs l.sets.length cs, vL, .slice (some ⟨bA, 0, none⟩) l.at_.length capA, vB, vD]) rfl rfl rfl rfl rfl (Nat.le_of_ble_eq_true rfl) (by
      have q1 := cL.2
      have q2 := cB'.2
      have q3 := cD.2
      simp only [ones, List.all_cons, List.all_nil, Bool.and_true, Bool.and_eq_true] at q1 q2 q3 ⊢
      exact ⟨rfl, q1, rfl, q2, q3⟩) rfl ?_
    repeat (first | refine stp ?_ | (refine sti ?_; intro _) | refine stf ?_ | (refine stb ?_; intro _))
    refine G.unmark inferInstance ?_
    refine G.perm ?_ (List.Perm.cons _ (List.Perm.cons _ (List.Perm.cons _ (perm_ret (bA, Ob (cIx A exA) 3) (ownM 3 oL) (ownBx 4 q B) (ownM 3 oD) (ownM 4 (co (c 5)))))))
    refine G.ret rfl (.cons (.cellA rfl rfl) .nil) (Φ' := [fRp (.slice vs l.sets.length cs) l.sets, fRow (ocells oL) l.left, fRow (cIx A exA) A, fRow (ocells (oBx q B)) B, fRow (ocells oD) l.done]) (M' := ownM 3 oL ++ (ownM 3 (some (bA, cIx A exA)) ++ (ownM 4 (oBx q B) ++ ownM 3 oD))) (Ents.cons (b := Ents.cons (b := Ents.cons (a := Ent'.cIx) (b := Ents.cons (a := ⟨fun I _ => row_oBx I q B (fun h => List.length_eq_zero_iff.1 (by rw [hBl, hqB h]; rfl))⟩) (b := inferInstance))))) (by rw [ownBx_eq]; exact .cons _ (.cons _ (.cons _ (List.sublist_append_left _ _)))) ⟨vs, cs, vL, oL, _, some (bA, cIx A exA), vB, oBx q B, vD, oD, rfl, hL, own_cIx (by rw [hAl]; exact hA) hAl, own_oBx (by rw [hBl]; exact hB) hBl, hD, rfl, rfl⟩
end Go.Rail
