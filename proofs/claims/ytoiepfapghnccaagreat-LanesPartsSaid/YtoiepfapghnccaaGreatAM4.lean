/- The document's way to fill lanes. -/
import Derived.Test.YtoiepfapghnccaaGreatAM3
namespace Go.Rail
open Go Go.Proofs
set_option linter.unusedSimpArgs false
set_option linter.unusedVariables false
set_option maxHeartbeats 400000
set_option maxRecDepth 4000
attribute [local irreducible] OpK G W LW wpListIn Exit.then Exit.inBlock Post rounds opRun bodyPostM intOp
attribute [local irreducible] badM rightS mayG clashS edgesG edgesI clG rightL holdL shapeR okA okE okO shapeL idxG errG edgesR idleR readyR errR
theorem rdones2_spec (v : Value) (l : Lot) (hl : FitL l) (hr : RightI l) : Fn Tryz.prog 66 [v] [fRp v l] [] (RTup (fun a => .tuple #[a, .bool true]) 4 (dvL l)) := by
  intro I w hp hw
  refine (rdones_spec v l hl I w hp hw).mono ?_
  rintro e w' ⟨u, Φ', M', I', rfl, hR, hf, hwd⟩
  obtain ⟨D, hD, hlen, _⟩ := right_marks hr
  have hdv : dvL l = D := by unfold dvL; rw [hD]; rfl
  rw [hdv]
  rw [hD] at hR
  obtain ⟨b, rfl, rfl, rfl⟩ := hR
  exact ⟨_, [fRow (cB D) D], [(b, Ob (cB D) 4)], I', rfl, ⟨_, some (b, cB D), rfl, own_cB b D hlen.symm, rfl, rfl⟩, fun φ hφ => by
    rw [List.mem_singleton] at hφ
    subst hφ
    exact rowB I' D, hwd⟩
theorem dvL_len2 (l : Lot) : (dvL l).length ≤ l.sets.length := by
  unfold dvL
  cases hD : donesL l with
  | none => simp
  | some D =>
    unfold donesL at hD
    show D.length ≤ _
    rw [markP_len _ _ _ hD, List.length_replicate]
    exact Nat.le_refl _
structure RfSt where
  i : Nat
  A : List Int
  B : List Bool
theorem perm_in2 {α : Type} (a : α) (L B D : List α) : (L ++ (a :: (B ++ D))).Perm (a :: (B ++ (L ++ D))) :=
  permC fun _ x => by simp only [List.count_append, List.count_cons]; omega
theorem rfill_spec (vs : Option Addr) (cs : Nat) (vL vA vB vD : Value) (oL oA oB oD : OR) (l : Lot) (hl : FitL l) (hr : RightI l) (hL : IsOwn 1 vL l.left.length oL) (hA : IsOwn 1 vA l.at_.length oA) (hB : IsOwn 1 vB l.begun.length oB) (hD : IsOwn 1 vD l.done.length oD) :
    Fn Tryz.prog 45 [.agg #[.slice vs l.sets.length cs, vL, vA, vB, vD]] [fRp (.slice vs l.sets.length cs) l.sets, fRow (ocells oL) l.left, fRow (ocells oA) l.at_, fRow (ocells oB) l.begun, fRow (ocells oD) l.done] (ownM 3 oL ++ (ownM 3 oA ++ (ownM 4 oB ++ ownM 3 oD))) (ROwnLot 3 4 id (fillLot l)) := by
  have hfit := hl
  have hA1 := hr.a1
  obtain ⟨fs, ns, nl, na, nb, nd⟩ := hl
  cases oA with
  | none => exact absurd hA.2 (by omega)
  | some qA =>
  obtain ⟨bA, csA⟩ := qA
  refine Fn.enter Tryz.func45 rfl Tryz.ntmps45 (by simp) (fun I0 w0 => ?_)
  refine W.bare (G.use (p := ∃ ex, csA = cIx l.at_ ex) (fun I hp => row_cIx (hp (fRow csA l.at_) (.tail _ (.tail _ (.head _))))) ?_)
  rintro ⟨exA, rfl⟩
  refine G.use (p := ∃ q : Option (Nat × List Value), oB = q.map (fun p => (p.1, cBx l.begun p.2)) ∧ (q = none → l.begun = [])) (fun I hp => by
    cases oB with
    | none => exact ⟨none, rfl, fun _ => List.length_eq_zero_iff.1 hB.2⟩
    | some qB =>
      obtain ⟨bB, csB⟩ := qB
      obtain ⟨ex, he⟩ := row_cBx (hp (fRow csB l.begun) (.tail _ (.tail _ (.tail _ (.head _)))))
      exact ⟨some (bB, ex), by rw [he]; rfl, fun h => by cases h⟩) ?_
  rintro ⟨q, hq, hq0⟩
  change oB = oBx q l.begun at hq
  subst hq
  obtain ⟨capA, rfl, hcA, hcapA⟩ := id hA
  generalize hPl : placeL l.at_ l.begun (idleL l.at_) (readyR l.sets l.begun (dvL l)) = PL
  have hFl : fillLot l = ⟨l.sets, l.left, PL.1, PL.2, l.done⟩ := by unfold fillLot; rw [hPl]
  rw [hFl]
  refine G.perm ?_ (perm_in2 (bA, Ob (cIx l.at_ exA) 3) (ownM 3 oL) (ownM 4 (oBx q l.begun)) (ownM 3 oD))
  refine G.code ?_
  repeat (first | refine stp ?_ | (refine sti ?_; intro _) | refine stf ?_ | (refine stb ?_; intro _))
  rename_i b1 b2
  refine W.loopI (fun (s : RfSt) => ([fRp (.slice vs l.sets.length cs) l.sets, fRow (ocells oL) l.left, fRow (ocells oD) l.done], [(1, .pointer (some ⟨b1, 0, none⟩)), (2, .pointer (some ⟨b2, 0, none⟩)), (3, .int .i64 s.i)], (b2, Ob [.slice none 0 0, .slice none 0 0, .slice none 0 0, .slice none 0 0, .slice none 0 0] 28) :: (b1, Ob [.slice vs l.sets.length cs, vL, .slice (some ⟨bA, 0, none⟩) l.at_.length capA, vB, vD] 28) :: (bA, Ob (cIx s.A exA) 3) :: (ownM 4 (oBx q s.B) ++ (ownM 3 oL ++ ownM 3 oD)))) (fun s => s.i ≤ l.at_.length ∧ s.A.length = l.at_.length ∧ s.B.length = l.begun.length ∧ RightI ⟨l.sets, l.left, s.A, s.B, l.done⟩ ∧ placeL s.A s.B (idleR s.A s.i) (readyR l.sets s.B (dvL l)) = PL) (fun s => l.at_.length - s.i) ⟨0, l.at_, l.begun⟩ ⟨Nat.zero_le _, rfl, rfl, hr, hPl⟩ inferInstance (look_sub_cons rfl (look_sub_cons rfl (look_sub_cons rfl look_sub_nil))) (List.Sublist.refl _) ?_
  rintro ⟨i, A, B⟩ ⟨hi, hAl, hBl, hri, hpl⟩
  dsimp only at hi hAl hBl hri hpl ⊢
  have hBo : IsOwn 1 vB B.length (oBx q B) := own_oBx (by rw [hBl]; exact hB) hBl
  have hAo : IsOwn 1 (.slice (some ⟨bA, 0, none⟩) l.at_.length capA) A.length (some (bA, cIx A exA)) := own_cIx (by rw [hAl]; exact hA) hAl
  have hone : ones [.slice vs l.sets.length cs, vL, .slice (some ⟨bA, 0, none⟩) l.at_.length capA, vB, vD] = true := (by
    have q1 := (own_cell hL).2
    have q3 := (own_cell hB).2
    have q4 := (own_cell hD).2
    simp only [ones, List.all_cons, List.all_nil, Bool.and_true, Bool.and_eq_true] at q1 q3 q4 ⊢
    exact ⟨rfl, q1, rfl, q3, q4⟩)
  by_cases hi0 : i = l.at_.length
  · have e : PL = (A, B) := by
      rw [← hpl]
      have : idleR A i = [] := idleR_end (by omega)
      rw [this, placeL_end]
    subst e
    repeat (first | refine stp ?_ | (refine sti ?_; intro _) | refine stf ?_ | (refine stb ?_; intro _))
    refine o_store (vs := [.slice vs l.sets.length cs, vL, .slice (some ⟨bA, 0, none⟩) l.at_.length capA, vB, vD]) (cs' := [.slice vs l.sets.length cs, vL, .slice (some ⟨bA, 0, none⟩) l.at_.length capA, vB, vD]) rfl rfl rfl rfl rfl (Nat.le_of_ble_eq_true rfl) hone rfl ?_
    repeat (first | refine stp ?_ | (refine sti ?_; intro _) | refine stf ?_ | (refine stb ?_; intro _))
    refine G.perm ?_ (List.Perm.cons _ (List.Perm.cons _ (perm_in2 (bA, Ob (cIx A exA) 3) (ownM 3 oL) (ownM 4 (oBx q B)) (ownM 3 oD)).symm))
    exact G.ret rfl (.cons (.cellA rfl rfl) .nil) (Φ' := [fRp (.slice vs l.sets.length cs) l.sets, fRow (ocells oL) l.left, fRow (cIx A exA) A, fRow (ocells (oBx q B)) B, fRow (ocells oD) l.done]) (M' := ownM 3 oL ++ (ownM 3 (some (bA, cIx A exA)) ++ (ownM 4 (oBx q B) ++ ownM 3 oD))) (Ents.cons (b := Ents.cons (b := Ents.cons (a := Ent'.cIx) (b := Ents.cons (a := ⟨fun I _ => row_oBx I q B (fun h => List.length_eq_zero_iff.1 (by rw [hBl, hq0 h]; rfl))⟩) (b := inferInstance))))) (.cons _ (.cons _ (List.Sublist.refl _))) ⟨vs, cs, vL, oL, _, some (bA, cIx A exA), vB, oBx q B, vD, oD, rfl, hL, hAo, hBo, hD, rfl, rfl⟩
  have hi1 : i < l.at_.length := by omega
  have hiA : i < A.length := by omega
  by_cases hno : A[i] = -1
  case neg =>
    have hstep := idleR_step hiA
    rw [if_neg hno] at hstep
    rw [hstep] at hpl
    have hnn : 0 ≤ A[i] := by
      rcases at_cases hri (i := i) hiA with e | ⟨k, e, _⟩
      · rw [getD_at _ _ hiA] at e; exact absurd e hno
      · rw [getD_at _ _ hiA] at e; omega
    repeat (first | refine stp ?_ | (refine sti ?_; intro _) | refine stf ?_ | (refine stb ?_; intro _))
    refine o_idxO rfl rfl rfl rfl (by omega) (by omega) (o' := i) (by omega) ?_
    refine G.cons ?_
    refine o_loadIx i hiA rfl rfl rfl rfl ?_
    repeat (first | refine stp ?_ | (refine sti ?_; intro _) | refine stf ?_ | (refine stb ?_; intro _))
    exact G.again (S := RfSt) ⟨i + 1, A, B⟩ (by dsimp only; omega) ⟨hi1, hAl, hBl, hri, hpl⟩ inferInstance (look_sub_cons rfl (look_sub_cons rfl (look_sub_cons rfl look_sub_nil))) (List.Sublist.refl _)
  have hstep := idleR_step hiA
  rw [if_pos hno] at hstep
  rw [hstep] at hpl
  have hfit' : FitL ⟨l.sets, l.left, A, B, l.done⟩ := ⟨fs, ns, nl, by dsimp only; omega, by dsimp only; omega, nd⟩
  have hdl := dvL_len2 l
  have hdv : dvL ⟨l.sets, l.left, A, B, l.done⟩ = dvL l := rfl
  repeat (first | refine stp ?_ | (refine sti ?_; intro _) | refine stf ?_ | (refine stb ?_; intro _))
  refine o_idxO rfl rfl rfl rfl (by omega) (by omega) (o' := i) (by omega) ?_
  refine G.cons ?_
  refine o_loadIx i hiA rfl rfl rfl rfl ?_
  rw [hno]
  repeat (first | refine stp ?_ | (refine sti ?_; intro _) | refine stf ?_ | (refine stb ?_; intro _))
  refine o_lendU (mk := fun a => .tuple #[a, .bool true]) rfl rfl rfl rfl (rdones2_spec _ ⟨l.sets, l.left, A, B, l.done⟩ hfit' hri) (LEnts.cons (a := LEnt.lot LEnt.of (LEnt.own oL 3 hL inferInstance (fun p hp => by simp [hp])) (LEnt.own (some (bA, cIx A exA)) 3 hAo (Ent'.cIx (xs := A)) (fun p hp => by simp [ownM] at hp; simp [hp, ownM])) (LEnt.own (oBx q B) 4 hBo ⟨fun I _ => row_oBx I q B (fun h => List.length_eq_zero_iff.1 (by rw [hBl, hq0 h]; rfl))⟩ (fun p hp => by simp [hp])) (LEnt.own oD 3 hD inferInstance (fun p hp => by simp [hp]))) (b := LEnts.nil)) ?_
  rw [hdv]
  intro v4 o4 hown4
  dsimp only [List.cons_append]
  repeat (first | refine stp ?_ | (refine sti ?_; intro _) | refine stf ?_ | (refine stb ?_; intro _))
  refine o_lendU (mk := tupE (errR l.sets B (dvL l))) rfl rfl rfl rfl (rready_spec _ _ _ l.sets B (dvL l) ns fs (by omega) (by omega)) (LEnts.cons (a := LEnt.of) (b := LEnts.cons (a := LEnt.own (oBx q B) 4 hBo ⟨fun I _ => row_oBx I q B (fun h => List.length_eq_zero_iff.1 (by rw [hBl, hq0 h]; rfl))⟩ (fun p hp => by simp [hp])) (b := LEnts.cons (a := LEnt.own o4 4 hown4 inferInstance (fun p hp => by simp [hp])) (b := LEnts.nil)))) ?_
  intro v6 o6 hown6
  dsimp only [List.cons_append]
  have hmr := fun v (hv : v ∈ readyR l.sets B (dvL l)) => ready_at hv
  have hRl := ready_len l.sets B (dvL l)
  have htail := fun (k : Nat) (rs : List Int) => ready_tail hri (k := k) (rs := rs)
  dsimp only at htail
  rw [hdv] at htail
  have hmem := fun (k : Nat) => ready_iff hri (k := k)
  dsimp only at hmem
  rw [hdv] at hmem
  refine G.giveOwn2 v6 (readyR l.sets B (dvL l)) o6 3 (Mr := (b2, Ob [.slice none 0 0, .slice none 0 0, .slice none 0 0, .slice none 0 0, .slice none 0 0] 28) :: (b1, Ob [.slice vs l.sets.length cs, vL, .slice (some ⟨bA, 0, none⟩) l.at_.length capA, vB, vD] 28) :: (bA, Ob (cIx A exA) 3) :: ((ownM 4 (oBx q B) ++ (ownM 3 oL ++ ownM 3 oD)) ++ ownM 4 o4)) hown6 inferInstance (List.Perm.refl _) ?_
  refine G.weaken (M' := (b2, Ob [.slice none 0 0, .slice none 0 0, .slice none 0 0, .slice none 0 0, .slice none 0 0] 28) :: (b1, Ob [.slice vs l.sets.length cs, vL, .slice (some ⟨bA, 0, none⟩) l.at_.length capA, vB, vD] 28) :: (bA, Ob (cIx A exA) 3) :: (ownM 4 (oBx q B) ++ (ownM 3 oL ++ ownM 3 oD))) ?_ (fun _ h => h) (fun _ _ h => h) (.cons_cons _ (.cons_cons _ (.cons_cons _ (List.sublist_append_left _ _))))
  generalize hR : readyR l.sets B (dvL l) = R at hmr hRl hpl htail hmem ⊢
  refine G.slice v6 R ?_
  intro ra rc e _
  subst e
  cases R with
  | nil =>
    have e : PL = (A, B) := by rw [← hpl, placeL_nil]
    subst e
    repeat (first | refine stp ?_ | (refine sti ?_; intro _) | refine stf ?_ | (refine stb ?_; intro _))
    refine o_store (vs := [.slice vs l.sets.length cs, vL, .slice (some ⟨bA, 0, none⟩) l.at_.length capA, vB, vD]) (cs' := [.slice vs l.sets.length cs, vL, .slice (some ⟨bA, 0, none⟩) l.at_.length capA, vB, vD]) rfl rfl rfl rfl rfl (Nat.le_of_ble_eq_true rfl) hone rfl ?_
    repeat (first | refine stp ?_ | (refine sti ?_; intro _) | refine stf ?_ | (refine stb ?_; intro _))
    refine G.perm ?_ (List.Perm.cons _ (List.Perm.cons _ (perm_in2 (bA, Ob (cIx A exA) 3) (ownM 3 oL) (ownM 4 (oBx q B)) (ownM 3 oD)).symm))
    exact G.ret rfl (.cons (.cellA rfl rfl) .nil) (Φ' := [fRp (.slice vs l.sets.length cs) l.sets, fRow (ocells oL) l.left, fRow (cIx A exA) A, fRow (ocells (oBx q B)) B, fRow (ocells oD) l.done]) (M' := ownM 3 oL ++ (ownM 3 (some (bA, cIx A exA)) ++ (ownM 4 (oBx q B) ++ ownM 3 oD))) (Ents.cons (b := Ents.cons (b := Ents.cons (a := Ent'.cIx) (b := Ents.cons (a := ⟨fun I _ => row_oBx I q B (fun h => List.length_eq_zero_iff.1 (by rw [hBl, hq0 h]; rfl))⟩) (b := inferInstance))))) (.cons _ (.cons _ (List.Sublist.refl _))) ⟨vs, cs, vL, oL, _, some (bA, cIx A exA), vB, oBx q B, vD, oD, rfl, hL, hAo, hBo, hD, rfl, rfl⟩
  | cons r rs =>
    obtain ⟨kr, hkr1, hkr2, rfl⟩ := hmr r List.mem_cons_self
    have hqB : q ≠ none := fun e => by
      rw [hBl, hq0 e] at hkr2; cases hkr2
    obtain ⟨bB, exB, rfl⟩ : ∃ bB exB, q = some (bB, exB) := by
      cases q with
      | none => exact absurd rfl hqB
      | some p => exact ⟨p.1, p.2, rfl⟩
    obtain ⟨capB, rfl, hcB, hcapB⟩ := id hB
    rw [placeL, Int.toNat_natCast] at hpl
    obtain ⟨g1, g2, g3⟩ := (hmem kr).1 List.mem_cons_self
    have hri2 := place_one hri (i := i) (k := kr) hiA (by rw [getD_at _ _ hiA]; exact hno) g1 g2 g3
    have hok2 := right_ok hri2
    have hdv2 : dvL ⟨l.sets, l.left, A.set i (kr : Int), B.set kr true, l.done⟩ = dvL l := rfl
    rw [hdv2] at hok2
    have ht := htail kr rs rfl hok2
    have hid := idleR_set A (i := i) (j := i + 1) (kr : Int) (by omega)
    have hpl2 : placeL (A.set i (kr : Int)) (B.set kr true) (idleR (A.set i (kr : Int)) (i + 1)) (readyR l.sets (B.set kr true) (dvL l)) = PL := by rw [hid, ht]; exact hpl
    change G _ _ _ ((b2, Ob [.slice none 0 0, .slice none 0 0, .slice none 0 0, .slice none 0 0, .slice none 0 0] 28) :: (b1, Ob [.slice vs l.sets.length cs, vL, .slice (some ⟨bA, 0, none⟩) l.at_.length capA, .slice (some ⟨bB, 0, none⟩) l.begun.length capB, vD] 28) :: (bA, Ob (cIx A exA) 3) :: (bB, Ob (cBx B exB) 4) :: (ownM 3 oL ++ ownM 3 oD)) _
    repeat (first | refine stp ?_ | (refine sti ?_; intro _) | refine stf ?_ | (refine stb ?_; intro _))
    refine W.draw 6 [⟨?v0_1, fun _ z => []⟩, ⟨?v1_1, fun _ z => []⟩, ⟨?v2_1, fun _ z => []⟩, ⟨?v3_1, fun _ z => []⟩, ⟨fun _ z => z, fun _ z => [fPt z (kr : Int)]⟩, ⟨?v5_1, fun _ z => []⟩] [[], [0], [], [], [3], [4]] [1, 2, 5] (by kernel_rfl) (by kernel_rfl) (by kernel_rfl) (by kernel_rfl) ?loc_1 ?ops_1 ?rest_1
    case ops_1 =>
      simp only [AllQ, Nat.reduceAdd, and_true]
      refine ⟨?_, ?_, ?_, ?_, ?_, ?_⟩
      all_goals (intro c z0 Φr Lr K hK; dsimp only [dstOf, kval, kfac, ancE, ancF, getD_z, getD_s, List.getElem?_cons_zero, List.getElem?_cons_succ, List.getElem?_nil, Option.getD_some, Option.getD_none, List.nil_append, List.cons_append, Option.getD] at hK ⊢)
      iterate 4 ((first | refine stp ?_ | refine stf ?_); exact hK z0)
      · refine o_idxN 0 rfl rfl rfl rfl rfl (by simp) ?_; intro p; exact hK _
      · (first | refine stp ?_ | refine stf ?_); exact hK z0
    case loc_1 =>
      simp only [AllL, Nat.reduceAdd, and_true]
      refine ⟨?_, ?_, ?_, ?_, ?_, ?_⟩
      all_goals (intro c c' z h; first | exact ⟨rfl, rfl⟩ | (skip))
    intro c
    dsimp only [dstOf, kval, kfac, ancE,  ancF, getD_z, getD_s, List.getElem?_cons_zero, List.getElem?_cons_succ, List.getElem?_nil, Option.getD_some, Option.getD_none, List.nil_append, List.cons_append, List.drop_succ_cons, List.drop_zero, Option.getD]
    repeat (first | refine stp ?_ | (refine sti ?_; intro _) | refine stf ?_ | (refine stb ?_; intro _))
    refine o_idxO rfl rfl rfl rfl (by omega) (by omega) (o' := i) (by omega) ?_
    refine G.cons ?_
    refine o_storeIx i (kr : Int) hiA rfl rfl rfl rfl ?_
    repeat (first | refine stp ?_ | (refine sti ?_; intro _) | refine stf ?_ | (refine stb ?_; intro _))
    refine W.draw 5 [⟨?v0_2, fun _ z => []⟩, ⟨?v1_2, fun _ z => []⟩, ⟨?v2_2, fun _ z => []⟩, ⟨fun _ z => z, fun _ z => [fPt z (kr : Int)]⟩, ⟨?v4_2, fun _ z => []⟩] [[], [0], [], [2], [3]] [1, 4] (by kernel_rfl) (by kernel_rfl) (by kernel_rfl) (by kernel_rfl) ?loc_2 ?ops_2 ?rest_2
    case ops_2 =>
      simp only [AllQ, Nat.reduceAdd, and_true]
      refine ⟨?_, ?_, ?_, ?_, ?_⟩
      all_goals (intro c z0 Φr Lr K hK; dsimp only [dstOf, kval, kfac, ancE, ancF, getD_z, getD_s, List.getElem?_cons_zero, List.getElem?_cons_succ, List.getElem?_nil, Option.getD_some, Option.getD_none, List.nil_append, List.cons_append, Option.getD] at hK ⊢)
      iterate 3 ((first | refine stp ?_ | refine stf ?_); exact hK z0)
      · refine o_idxN 0 rfl rfl rfl rfl rfl (by simp) ?_; intro p; exact hK _
      · (first | refine stp ?_ | refine stf ?_); exact hK z0
    case loc_2 =>
      simp only [AllL, Nat.reduceAdd, and_true]
      refine ⟨?_, ?_, ?_, ?_, ?_⟩
      all_goals (intro c c' z h; first | exact ⟨rfl, rfl⟩ | (skip))
    intro c
    dsimp only [dstOf, kval, kfac, ancE,  ancF, getD_z, getD_s, List.getElem?_cons_zero, List.getElem?_cons_succ, List.getElem?_nil, Option.getD_some, Option.getD_none, List.nil_append, List.cons_append, List.drop_succ_cons, List.drop_zero, Option.getD]
    repeat (first | refine stp ?_ | (refine sti ?_; intro _) | refine stf ?_ | (refine stb ?_; intro _))
    refine o_idxO rfl rfl rfl rfl (by omega) (by omega) (o' := kr) (by omega) ?_
    refine G.cons ?_
    refine o_storeBx kr true hkr2 rfl rfl rfl rfl ?_
    repeat (first | refine stp ?_ | (refine sti ?_; intro _) | refine stf ?_ | (refine stb ?_; intro _))
    exact G.again (S := RfSt) ⟨i + 1, A.set i (kr : Int), B.set kr true⟩ (by dsimp only; omega) ⟨hi1, by dsimp only; rw [List.length_set]; exact hAl, by dsimp only; rw [List.length_set]; exact hBl, hri2, hpl2⟩ inferInstance (look_sub_cons rfl (look_sub_cons rfl (look_sub_cons rfl look_sub_nil))) (List.Sublist.refl _)
end Go.Rail
