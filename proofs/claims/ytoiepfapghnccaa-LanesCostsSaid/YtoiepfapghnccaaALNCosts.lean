/- The law of costs, walked. -/
import Derived.Test.YtoiepfapghnccaaANANP
import Derived.Test.YtoiepfapghnccaaRailE
namespace Go.Rail
open Go Go.Proofs
set_option linter.unusedSimpArgs false
set_option linter.unusedVariables false
set_option maxHeartbeats 400000
set_option maxRecDepth 4000
attribute [local irreducible] OpK G W LW wpListIn Exit.then Exit.inBlock Post rounds opRun bodyPostM intOp
attribute [local irreducible] lexN cmpW cmpA cmpK cmpI setK clashS rightS errG edgesR errR readyR ordG badM mayG edgesG edgesI clG rightL donesL heldL shapeL idxG idleR fillLot pickL noP newL runL cntL errRun isR errL measureL idlesL errN pickR sameLot setsC pickN
def cstC (costs : List Int) (i : Nat) : List Int := (costs.take i).map fun c => 1 + ((pickN c 1099511627775 : Nat) : Int)
theorem cstC_len {costs : List Int} {i : Nat} (h : i ≤ costs.length) : (cstC costs i).length = i := by simp [cstC]; omega
theorem cstC_succ {costs : List Int} {i : Nat} (h : i < costs.length) : cstC costs i ++ [1 + ((pickN costs[i] 1099511627775 : Nat) : Int)] = cstC costs (i + 1) := by
  unfold cstC; rw [List.take_succ_eq_append_getElem h, List.map_append]; rfl
theorem cstC_in {costs : List Int} {i : Nat} : ∀ x ∈ cstC costs i, 1 ≤ x ∧ x ≤ 1099511627776 := by
  intro x hx
  obtain ⟨c, _, rfl⟩ := List.mem_map.1 hx
  have := pickN_lt c (n := 1099511627775) (by decide)
  omega
theorem sum_le : ∀ {L : List Int}, (∀ x ∈ L, 1 ≤ x ∧ x ≤ 1099511627776) → 0 ≤ L.sum ∧ L.sum ≤ L.length * 1099511627776
  | [], _ => ⟨Int.le_refl _, by simp⟩
  | a :: L, h => by
    have h1 := h a List.mem_cons_self
    have h2 := sum_le (L := L) fun x hx => h x (.tail _ hx)
    rw [List.sum_cons, List.length_cons]
    omega
theorem sum_tkI {L : List Int} {i : Nat} (h : i < L.length) : (L.take i).sum + L[i] = (L.take (i + 1)).sum := by
  rw [List.take_succ_eq_append_getElem h, List.sum_append]; simp
theorem sC_fit (n : Nat) : ∀ s ∈ setsC n, fit6 s := by
  intro s hs
  have e : setsC n = (List.range n).map sC := by with_unfolding_all rfl
  rw [e] at hs
  obtain ⟨i, _, rfl⟩ := List.mem_map.1 hs
  exact ⟨by simp [sC], by simp [sC]⟩
structure CsSt where
  i : Nat
  v6 : Value
  oS : OR
  v7 : Value
  oC : OR
set_option maxHeartbeats 4000000 in
theorem ncosts_walk (v0 : Value) (costs : List Int) (w : Int) (hc : costs.length ≤ 4611686018427387904 ∧ ∀ x ∈ costs, InR x) (hw : InR w) : FnV Try.prog 13 [v0, .int .i64 w] [fRp v0 costs] (.bool true) := by
  obtain ⟨hc1, hc2⟩ := hc
  have hw64 := pickN_lt w (n := 64) (by decide)
  refine Fn.enter Try.func13 rfl Try.ntmps13 (by simp) (fun I0 w0 => ?_)
  repeat (first | refine stp ?_ | (refine sti ?_; intro _) | refine stf ?_ | (refine stb ?_; intro _))
  refine o_callV rfl rfl rfl rfl nawake_spec rfl ?_
  repeat (first | refine stp ?_ | (refine sti ?_; intro _) | refine stf ?_ | (refine stb ?_; intro _))
  refine W.loopI (fun (s : CsSt) => ([fRow (ocells s.oS) (setsC s.i), fRow (ocells s.oC) (cstC costs s.i), fRp v0 costs], [(0, v0), (1, .int .i64 w), (5, .bool true), (6, s.v6), (7, s.v7), (8, .int .i64 s.i)], ownM 24 s.oS ++ ownM 3 s.oC)) (fun s => s.i ≤ costs.length ∧ s.i ≤ 10 ∧ IsOwn 2 s.v6 (setsC s.i).length s.oS ∧ IsOwn 1 s.v7 (cstC costs s.i).length s.oC) (fun s => costs.length - s.i) ⟨0, .slice none 0 0, none, .slice none 0 0, none⟩ ⟨Nat.zero_le _, by decide, ⟨rfl, setsC_len 0⟩, ⟨rfl, rfl⟩⟩ (show Ents _ [fRow ([] : List Value) (setsC 0), fRow ([] : List Value) ([] : List Int), fRp v0 costs] from by rw [show setsC 0 = [] from by with_unfolding_all rfl]; infer_instance) (look_sub_cons rfl (look_sub_cons rfl (look_sub_cons rfl (look_sub_cons rfl (look_sub_cons rfl (look_sub_cons rfl look_sub_nil)))))) (List.Sublist.refl _) ?_
  rintro ⟨i, v6, oS, v7, oC⟩ ⟨hi, hi10, hS, hC⟩
  dsimp only at hi hi10 hS hC ⊢
  have hsl := setsC_len i
  have hcl := cstC_len hi
  by_cases hend : i = costs.length ∨ i = 10
  case neg =>
    have hi1 : i < costs.length := by omega
    have hi2 : i < 10 := by omega
    have hss := setsC_succ i
    have hcs := cstC_succ hi1
    have hpl := pickN_lt costs[i] (n := 1099511627775) (by decide)
    repeat (first | refine stp ?_ | (refine sti ?_; intro _) | refine stf ?_ | (refine stb ?_; intro _))
    show OpK _ _ _ _ _ ((37, (kC i).v) :: _) _ _
    refine o_lit (xs := [kC i]) ⟨by decide, rfl, by decide⟩ rfl rfl rfl ⟨litK, trivial⟩ rfl ?_
    intro lv
    refine G.slice lv [kC i] ?_
    intro a1 c1 x1 _
    subst x1
    repeat (first | refine stp ?_ | (refine sti ?_; intro _) | refine stf ?_ | (refine stb ?_; intro _))
    refine o_lit (xs := [sC i]) ⟨by decide, rfl, by decide⟩ rfl rfl rfl ⟨fun I hp => Rp.mkSets (s := sC i) (Rp.nil none 0) (Ent'.h (φ := fRp (.slice a1 [kC i].length c1) [kC i]) I hp), trivial⟩ rfl ?_
    intro lv2
    repeat (first | refine stp ?_ | (refine sti ?_; intro _) | refine stf ?_ | (refine stb ?_; intro _))
    refine o_app2 (Mr := ownM 3 oC) oS (xs := setsC i) (ys := [sC i]) hS ⟨by simp; omega, by simp; omega, rfl⟩ rfl rfl rfl rfl inferInstance inferInstance List.perm_append_comm ?_
    intro v6' oS' hS'
    rw [hss] at hS' ⊢
    repeat (first | refine stp ?_ | (refine sti ?_; intro _) | refine stf ?_ | (refine stb ?_; intro _))
    refine o_callV rfl rfl rfl rfl (pick20_spec costs[i] 1099511627775 (by decide) (by decide) (hc2 _ (List.getElem_mem hi1))) rfl ?_
    repeat (first | refine stp ?_ | (refine sti ?_; intro _) | refine stf ?_ | (refine stb ?_; intro _))
    refine o_lit (xs := [1 + ((pickN costs[i] 1099511627775 : Nat) : Int)]) ⟨by decide, rfl, by decide⟩ rfl rfl rfl ⟨fun _ _ => Rp.flat.2 rfl, trivial⟩ rfl ?_
    intro lv3
    repeat (first | refine stp ?_ | (refine sti ?_; intro _) | refine stf ?_ | (refine stb ?_; intro _))
    refine o_app2 (Mr := ownM 24 oS') oC (xs := cstC costs i) (ys := [1 + ((pickN costs[i] 1099511627775 : Nat) : Int)]) hC ⟨by simp; omega, by simp; omega, rfl⟩ rfl rfl rfl rfl inferInstance inferInstance List.perm_append_comm ?_
    intro v7' oC' hC'
    rw [hcs] at hC' ⊢
    repeat (first | refine stp ?_ | (refine sti ?_; intro _) | refine stf ?_ | (refine stb ?_; intro _))
    exact G.again (S := CsSt) ⟨i + 1, v6', oS', v7', oC'⟩ (by dsimp only; omega) ⟨hi1, hi2, hS', hC'⟩ inferInstance (look_sub_cons rfl (look_sub_cons rfl (look_sub_cons rfl (look_sub_cons rfl (look_sub_cons rfl (look_sub_cons rfl look_sub_nil)))))) (List.Sublist.refl _)
  refine W.bare (G.giveOwn2 v6 (setsC i) oS 24 (Mr := ownM 3 oC) hS inferInstance List.perm_append_comm ?_)
  refine G.giveOwn2 v7 (cstC costs i) oC 3 (Mr := []) hC inferInstance (List.Perm.refl _) ?_
  refine G.code ?_
  have hcin : ∀ x ∈ cstC costs i, 1 ≤ x ∧ x ≤ 1099511627776 := cstC_in
  have hap := setsC_apart hi10
  have hmay := setsC_may hi10
  have hsf := sC_fit i
  clear hS hC
  generalize cstC costs i = C at hcin hcl ⊢
  generalize setsC i = S at hap hmay hsf hsl ⊢
  obtain ⟨wd, hW⟩ : ∃ wd : Nat, wd = 1 + pickN w 64 := ⟨_, rfl⟩
  have ho : okN S C (wd : Nat) = true := okN_iff.2 ⟨hmay, by omega, by omega, by omega, hcin⟩
  have hR : RightI (newL S C (wd : Nat)) := new_right ho
  have hRb := rightL_iff.2 hR
  have hparts := new_parts ho
  have hNfit : FitL (newL S C (wd : Nat)) := fit_of hRb (by rw [hparts.1]; exact hsf)
  have hnew := fun u u' => Fn.givenLot (new_spec u u' S C (wd : Nat) (by omega) hsf (by omega))
  rw [show errN S C (wd : Nat) = 0 from by rw [show errN S C (wd : Nat) = if okN S C (wd : Nat) then 0 else 1 from by with_unfolding_all rfl, ho]; rfl] at hnew
  have hpk : ∀ j : Nat, j < S.length → j < wd → isR (newL S C (wd : Nat)) (j : Int) = true ∧ (pickR (newL S C (wd : Nat)) (j : Int)).left = C.set j (C.getD j 0 - 1) := fun j h1 h2 => by
    have h := apart_pick hap ho (i := j) h1 (by omega)
    rw [show isR (newL S C (wd : Nat)) (j : Int) = (rightL (newL S C (wd : Nat)) && !noP (newL S C (wd : Nat)) (j : Int)) from by with_unfolding_all rfl, show pickR (newL S C (wd : Nat)) (j : Int) = if rightL (newL S C (wd : Nat)) then pickL (newL S C (wd : Nat)) (j : Int) else newL S C (wd : Nat) from by with_unfolding_all rfl, hRb, h.1, if_pos rfl]
    exact ⟨rfl, h.2⟩
  have hat := apart_at hap ho
  have hme : measureL (newL S C (wd : Nat)) = C.sum := by
    rw [show measureL (newL S C (wd : Nat)) = if rightL (newL S C (wd : Nat)) then (newL S C (wd : Nat)).left.sum else 0 from by with_unfolding_all rfl, hRb, if_pos rfl, hparts.2.1]
  have her : errL (newL S C (wd : Nat)) = 0 := by
    rw [show errL (newL S C (wd : Nat)) = if rightL (newL S C (wd : Nat)) then 0 else 1 from by with_unfolding_all rfl, hRb]; rfl
  have hid : (idlesL (newL S C (wd : Nat))).length = wd - S.length := by
    rw [show idlesL (newL S C (wd : Nat)) = if rightL (newL S C (wd : Nat)) then (idleL (newL S C (wd : Nat)).at_).map fun (k : Nat) => (k : Int) else [] from by with_unfolding_all rfl, hRb, if_pos rfl, List.length_map, hat, idle_atC, Int.toNat_natCast]
  have hatl : (newL S C (wd : Nat)).at_.length = wd := by rw [hat, atC_len, Int.toNat_natCast]
  clear hparts hat ho hR hRb
  generalize newL S C (wd : Nat) = N at hNfit hnew hpk hme her hid hatl
  have hmeas := fun u => measure_spec u N hNfit
  rw [hme, her] at hmeas
  have hidle := fun u => (idles_spec u N hNfit).givenT
  rw [her] at hidle
  have hpks := fun u (j : Nat) => ppick_spec u N hNfit (j : Int)
  rw [her] at hpks
  by_cases hi0 : i = costs.length
  · repeat (first | refine stp ?_ | (refine sti ?_; intro _) | refine stf ?_ | (refine stb ?_; intro _))
    refine o_callV rfl rfl rfl rfl (pick20_spec w 64 (by decide) (by decide) hw) rfl ?_
    repeat (first | refine stp ?_ | (refine sti ?_; intro _) | refine stf ?_ | (refine stb ?_; intro _))
    rw [show (1 : Int) + ((pickN w 64 : Nat) : Int) = ((wd : Nat) : Int) from by omega]
    repeat (first | refine stp ?_ | (refine sti ?_; intro _) | refine stf ?_ | (refine stb ?_; intro _))
    refine OpK.call rfl rfl rfl rfl (hnew _ _) inferInstance (Mr := _) (List.Perm.refl _) ?_
    rintro u Φ' Mc' ⟨vN, rfl, rfl, rfl⟩
    dsimp only [List.cons_append, List.nil_append]
    refine G.lot vN N ?_
    intro p1 pc1 p2 pc2 p3 pc3 p4 pc4 p5 pc5 e
    subst e
    repeat (first | refine stp ?_ | (refine sti ?_; intro _) | refine stf ?_ | (refine stb ?_; intro _))
    rename_i b10
    refine o_callV rfl rfl rfl rfl (hmeas _) rfl ?_
    repeat (first | refine stp ?_ | (refine sti ?_; intro _) | refine stf ?_ | (refine stb ?_; intro _))
    refine o_callT (mk := tupE 0) (ψ := fun sv => fRp sv (idlesL N)) rfl rfl rfl rfl (hidle _) ?_
    intro vI
    unfold tupE
    refine G.slice vI (idlesL N) ?_
    intro aI cI e _
    subst e
    repeat (first | refine stp ?_ | (refine sti ?_; intro _) | refine stf ?_ | (refine stb ?_; intro _))
    refine W.loopI (fun (j : Nat) => ([fRp v7 C, fRp (.agg #[.slice p1 N.sets.length pc1, .slice p2 N.left.length pc2, .slice p3 N.at_.length pc3, .slice p4 N.begun.length pc4, .slice p5 N.done.length pc5]) N, fRp (.slice aI (idlesL N).length cI) (idlesL N)], [(5, .bool true), (7, v7), (9, .int .i64 (wd : Nat)), (10, .pointer (some ⟨b10, 0, none⟩)), (11, .int .i64 0), (12, .int .i64 C.sum), (13, .int .i64 0), (14, .slice aI (idlesL N).length cI), (15, .int .i64 0), (16, .int .i64 (C.take j).sum), (17, .int .i64 j)], [(b10, Ob [.slice p1 N.sets.length pc1, .slice p2 N.left.length pc2, .slice p3 N.at_.length pc3, .slice p4 N.begun.length pc4, .slice p5 N.done.length pc5] 79)])) (fun j => j ≤ C.length) (fun j => C.length - j) 0 (Nat.zero_le _) inferInstance (look_sub_cons rfl (look_sub_cons rfl (look_sub_cons rfl (look_sub_cons rfl (look_sub_cons rfl (look_sub_cons rfl (look_sub_cons rfl (look_sub_cons rfl (look_sub_cons rfl (look_sub_cons rfl (look_sub_cons rfl look_sub_nil))))))))))) (List.Sublist.refl _) ?_
    intro j hj
    dsimp only
    by_cases hj0 : j = C.length
    case neg =>
      have hj1 : j < C.length := by omega
      have hst := sum_tkI hj1
      have hb1 := hcin _ (List.getElem_mem hj1)
      have hb2 := sum_le (L := C.take j) fun x hx => hcin x (List.mem_of_mem_take hx)
      rw [List.length_take, Nat.min_eq_left hj] at hb2
      repeat (first | refine stp ?_ | (refine sti ?_; intro _) | refine stf ?_ | (refine stb ?_; intro _))
      rw [hst]
      repeat (first | refine stp ?_ | (refine sti ?_; intro _) | refine stf ?_ | (refine stb ?_; intro _))
      exact G.again (S := Nat) (j + 1) (by omega) hj1 inferInstance (look_sub_cons rfl (look_sub_cons rfl (look_sub_cons rfl (look_sub_cons rfl (look_sub_cons rfl (look_sub_cons rfl (look_sub_cons rfl (look_sub_cons rfl (look_sub_cons rfl (look_sub_cons rfl (look_sub_cons rfl look_sub_nil))))))))))) (List.Sublist.refl _)
    subst hj0
    rw [List.take_length]
    repeat (first | refine stp ?_ | (refine sti ?_; intro _) | refine stf ?_ | (refine stb ?_; intro _))
    refine o_max rfl rfl rfl rfl (v := .int .i64 ((idlesL N).length : Nat)) (congrArg (Value.int .i64) (by split <;> omega)) ?_
    repeat (first | refine stp ?_ | (refine sti ?_; intro _) | refine stf ?_ | (refine stb ?_; intro _))
    refine W.loopI (fun (j : Nat) => ([fRp v7 C, fRp (.agg #[.slice p1 N.sets.length pc1, .slice p2 N.left.length pc2, .slice p3 N.at_.length pc3, .slice p4 N.begun.length pc4, .slice p5 N.done.length pc5]) N], [(5, .bool true), (7, v7), (9, .int .i64 (wd : Nat)), (10, .pointer (some ⟨b10, 0, none⟩)), (18, .int .i64 j)], [(b10, Ob [.slice p1 N.sets.length pc1, .slice p2 N.left.length pc2, .slice p3 N.at_.length pc3, .slice p4 N.begun.length pc4, .slice p5 N.done.length pc5] 79)])) (fun j => j ≤ C.length ∧ j ≤ wd) (fun j => C.length - j) 0 ⟨Nat.zero_le _, Nat.zero_le _⟩ inferInstance (look_sub_cons rfl (look_sub_cons rfl (look_sub_cons rfl (look_sub_cons rfl (look_sub_cons rfl look_sub_nil))))) (List.Sublist.refl _) ?_
    rintro j ⟨hj, hjW⟩
    dsimp only
    by_cases hj0 : j = C.length
    · repeat (first | refine stp ?_ | (refine sti ?_; intro _) | refine stf ?_ | (refine stb ?_; intro _))
      refine G.ret rfl (.cons (.tmp rfl) .nil) (Φ' := []) (M' := []) inferInstance (List.nil_sublist _) ⟨?_, rfl, rfl⟩
      rfl
    have hj1 : j < C.length := by omega
    by_cases hj2 : j = wd
    · repeat (first | refine stp ?_ | (refine sti ?_; intro _) | refine stf ?_ | (refine stb ?_; intro _))
      refine G.ret rfl (.cons (.tmp rfl) .nil) (Φ' := []) (M' := []) inferInstance (List.nil_sublist _) ⟨?_, rfl, rfl⟩
      rfl
    have hj3 : j < wd := by omega
    obtain ⟨his, hleft⟩ := hpk j (by omega) hj3
    have hpj := fun u => hpks u j
    rw [his] at hpj
    generalize pickR N (j : Int) = P at hpj hleft
    have hPl : P.left.length = C.length := by rw [hleft, List.length_set]
    have hPj : P.left[j]'(by omega) = C[j] - 1 := by
      have := getD_at C 0 hj1
      simp only [hleft, List.getElem_set_self, this]
    have hjP : j < P.left.length := by omega
    have hb1 := hcin _ (List.getElem_mem hj1)
    repeat (first | refine stp ?_ | (refine sti ?_; intro _) | refine stf ?_ | (refine stb ?_; intro _))
    refine OpK.call rfl rfl rfl rfl (hpj _) inferInstance (Mr := _) (List.Perm.refl _) ?_
    rintro u Φ' Mc' ⟨vP, rfl, rfl, rfl⟩
    dsimp only [List.cons_append, List.nil_append]
    refine G.lot vP P ?_
    intro q1 qc1 q2 qc2 q3 qc3 q4 qc4 q5 qc5 e
    subst e
    refine G.slice v7 C ?_
    intro a7 c7 e _
    subst e
    repeat (first | refine stp ?_ | (refine sti ?_; intro _) | refine stf ?_ | (refine stb ?_; intro _))
    refine W.draw 27 (⟨?v0_1, fun _ z => []⟩ :: ⟨?v1_1, fun _ z => []⟩ :: ⟨?v2_1, fun _ z => []⟩ :: ⟨?v3_1, fun _ z => []⟩ :: ⟨?v4_1, fun _ z => []⟩ :: ⟨?v5_1, fun _ z => []⟩ :: ⟨?v6_1, fun _ z => []⟩ :: ⟨?v7_1, fun _ z => []⟩ :: ⟨?v8_1, fun _ z => []⟩ :: ⟨?v9_1, fun _ z => []⟩ :: ⟨?v10_1, fun _ z => []⟩ :: ⟨?v11_1, fun _ z => []⟩ :: ⟨?v12_1, fun _ z => []⟩ :: ⟨?v13_1, fun _ z => []⟩ :: ⟨?v14_1, fun _ z => []⟩ :: ⟨?v15_1, fun _ z => []⟩ :: ⟨?v16_1, fun _ z => []⟩ :: ⟨?v17_1, fun _ z => []⟩ :: ⟨fun _ z => z, fun _ z => [fPt z P.left[j]]⟩ :: ⟨?v19_1, fun _ z => []⟩ :: ⟨?v20_1, fun _ z => []⟩ :: ⟨?v21_1, fun _ z => []⟩ :: ⟨fun _ z => z, fun _ z => [fPt z C[j]]⟩ :: ⟨?v23_1, fun _ z => []⟩ :: ⟨?v24_1, fun _ z => []⟩ :: ⟨?v25_1, fun _ z => []⟩ :: ⟨?v26_1, fun _ z => []⟩ :: []) ([] :: [0] :: [1] :: [2] :: [2, 3] :: [2, 4] :: [5] :: [6] :: [6, 7] :: [6, 8] :: [6] :: [6, 10] :: [6, 9, 11] :: [6, 12] :: [13] :: [14] :: [14, 15] :: [14] :: [14, 16, 17] :: [14, 18] :: [14] :: [14] :: [14, 20, 21] :: [14, 22] :: [14, 23] :: [14, 19, 24] :: [14, 25] :: []) [26] (by kernel_rfl) (by kernel_rfl) (by kernel_rfl) (by kernel_rfl) ?loc_1 ?ops_1 ?rest_1
    case ops_1 =>
      refine AllQ.mk ?_ (AllQ.mk ?_ (AllQ.mk ?_ (AllQ.mk ?_ (AllQ.mk ?_ (AllQ.mk ?_ (AllQ.mk ?_ (AllQ.mk ?_ (AllQ.mk ?_ (AllQ.mk ?_ (AllQ.mk ?_ (AllQ.mk ?_ (AllQ.mk ?_ (AllQ.mk ?_ (AllQ.mk ?_ (AllQ.mk ?_ (AllQ.mk ?_ (AllQ.mk ?_ (AllQ.mk ?_ (AllQ.mk ?_ (AllQ.mk ?_ (AllQ.mk ?_ (AllQ.mk ?_ (AllQ.mk ?_ (AllQ.mk ?_ (AllQ.mk ?_ (AllQ.mk ?_ (AllQ.nil)))))))))))))))))))))))))))
      all_goals (intro c z0 Φr Lr K hK; dsimp only [dstOf, kval, kfac, ancE, ancF, getD_z, getD_s, List.getElem?_cons_zero, List.getElem?_cons_succ, List.getElem?_nil, Option.getD_some, Option.getD_none, List.nil_append, List.cons_append, Option.getD] at hK ⊢)
      iterate 18 ((first | refine stp ?_ | refine stf ?_); exact hK z0)
      · refine o_idxN j rfl rfl rfl rfl rfl hjP ?_; intro p; exact hK _
      iterate 3 ((first | refine stp ?_ | refine stf ?_); exact hK z0)
      · refine o_idxN j rfl rfl rfl rfl rfl hj1 ?_; intro p; exact hK _
      iterate 4 ((first | refine stp ?_ | refine stf ?_); exact hK z0)
    case loc_1 =>
      refine AllL.mk ?_ (AllL.mk ?_ (AllL.mk ?_ (AllL.mk ?_ (AllL.mk ?_ (AllL.mk ?_ (AllL.mk ?_ (AllL.mk ?_ (AllL.mk ?_ (AllL.mk ?_ (AllL.mk ?_ (AllL.mk ?_ (AllL.mk ?_ (AllL.mk ?_ (AllL.mk ?_ (AllL.mk ?_ (AllL.mk ?_ (AllL.mk ?_ (AllL.mk ?_ (AllL.mk ?_ (AllL.mk ?_ (AllL.mk ?_ (AllL.mk ?_ (AllL.mk ?_ (AllL.mk ?_ (AllL.mk ?_ (AllL.mk ?_ (AllL.nil)))))))))))))))))))))))))))
      all_goals (intro c c' z h; first | exact ⟨rfl, rfl⟩ | (skip))
    intro c
    dsimp only [dstOf, kval, kfac, ancE,  ancF, getD_z, getD_s, List.getElem?_cons_zero, List.getElem?_cons_succ, List.getElem?_nil, Option.getD_some, Option.getD_none, List.nil_append, List.cons_append, List.drop_succ_cons, List.drop_zero, Option.getD]
    repeat (first | refine stp ?_ | (refine sti ?_; intro _) | refine stf ?_ | (refine stb ?_; intro _))
    exact G.again (S := Nat) (j + 1) (by omega) ⟨hj1, hj3⟩ inferInstance (look_sub_cons rfl (look_sub_cons rfl (look_sub_cons rfl (look_sub_cons rfl (look_sub_cons rfl look_sub_nil))))) (.cons _ (List.Sublist.refl _))
  · have hi1 : i < costs.length := by omega
    have h10 : i = 10 := by omega
    repeat (first | refine stp ?_ | (refine sti ?_; intro _) | refine stf ?_ | (refine stb ?_; intro _))
    refine o_callV rfl rfl rfl rfl (pick20_spec w 64 (by decide) (by decide) hw) rfl ?_
    repeat (first | refine stp ?_ | (refine sti ?_; intro _) | refine stf ?_ | (refine stb ?_; intro _))
    rw [show (1 : Int) + ((pickN w 64 : Nat) : Int) = ((wd : Nat) : Int) from by omega]
    repeat (first | refine stp ?_ | (refine sti ?_; intro _) | refine stf ?_ | (refine stb ?_; intro _))
    refine OpK.call rfl rfl rfl rfl (hnew _ _) inferInstance (Mr := _) (List.Perm.refl _) ?_
    rintro u Φ' Mc' ⟨vN, rfl, rfl, rfl⟩
    dsimp only [List.cons_append, List.nil_append]
    refine G.lot vN N ?_
    intro p1 pc1 p2 pc2 p3 pc3 p4 pc4 p5 pc5 e
    subst e
    repeat (first | refine stp ?_ | (refine sti ?_; intro _) | refine stf ?_ | (refine stb ?_; intro _))
    rename_i b10
    refine o_callV rfl rfl rfl rfl (hmeas _) rfl ?_
    repeat (first | refine stp ?_ | (refine sti ?_; intro _) | refine stf ?_ | (refine stb ?_; intro _))
    refine o_callT (mk := tupE 0) (ψ := fun sv => fRp sv (idlesL N)) rfl rfl rfl rfl (hidle _) ?_
    intro vI
    unfold tupE
    refine G.slice vI (idlesL N) ?_
    intro aI cI e _
    subst e
    repeat (first | refine stp ?_ | (refine sti ?_; intro _) | refine stf ?_ | (refine stb ?_; intro _))
    refine W.loopI (fun (j : Nat) => ([fRp v7 C, fRp (.agg #[.slice p1 N.sets.length pc1, .slice p2 N.left.length pc2, .slice p3 N.at_.length pc3, .slice p4 N.begun.length pc4, .slice p5 N.done.length pc5]) N, fRp (.slice aI (idlesL N).length cI) (idlesL N)], [(5, .bool true), (7, v7), (9, .int .i64 (wd : Nat)), (10, .pointer (some ⟨b10, 0, none⟩)), (11, .int .i64 0), (12, .int .i64 C.sum), (13, .int .i64 0), (14, .slice aI (idlesL N).length cI), (15, .int .i64 0), (16, .int .i64 (C.take j).sum), (17, .int .i64 j)], [(b10, Ob [.slice p1 N.sets.length pc1, .slice p2 N.left.length pc2, .slice p3 N.at_.length pc3, .slice p4 N.begun.length pc4, .slice p5 N.done.length pc5] 79)])) (fun j => j ≤ C.length) (fun j => C.length - j) 0 (Nat.zero_le _) inferInstance (look_sub_cons rfl (look_sub_cons rfl (look_sub_cons rfl (look_sub_cons rfl (look_sub_cons rfl (look_sub_cons rfl (look_sub_cons rfl (look_sub_cons rfl (look_sub_cons rfl (look_sub_cons rfl (look_sub_cons rfl look_sub_nil))))))))))) (List.Sublist.refl _) ?_
    intro j hj
    dsimp only
    by_cases hj0 : j = C.length
    case neg =>
      have hj1 : j < C.length := by omega
      have hst := sum_tkI hj1
      have hb1 := hcin _ (List.getElem_mem hj1)
      have hb2 := sum_le (L := C.take j) fun x hx => hcin x (List.mem_of_mem_take hx)
      rw [List.length_take, Nat.min_eq_left hj] at hb2
      repeat (first | refine stp ?_ | (refine sti ?_; intro _) | refine stf ?_ | (refine stb ?_; intro _))
      rw [hst]
      repeat (first | refine stp ?_ | (refine sti ?_; intro _) | refine stf ?_ | (refine stb ?_; intro _))
      exact G.again (S := Nat) (j + 1) (by omega) hj1 inferInstance (look_sub_cons rfl (look_sub_cons rfl (look_sub_cons rfl (look_sub_cons rfl (look_sub_cons rfl (look_sub_cons rfl (look_sub_cons rfl (look_sub_cons rfl (look_sub_cons rfl (look_sub_cons rfl (look_sub_cons rfl look_sub_nil))))))))))) (List.Sublist.refl _)
    subst hj0
    rw [List.take_length]
    repeat (first | refine stp ?_ | (refine sti ?_; intro _) | refine stf ?_ | (refine stb ?_; intro _))
    refine o_max rfl rfl rfl rfl (v := .int .i64 ((idlesL N).length : Nat)) (congrArg (Value.int .i64) (by split <;> omega)) ?_
    repeat (first | refine stp ?_ | (refine sti ?_; intro _) | refine stf ?_ | (refine stb ?_; intro _))
    refine W.loopI (fun (j : Nat) => ([fRp v7 C, fRp (.agg #[.slice p1 N.sets.length pc1, .slice p2 N.left.length pc2, .slice p3 N.at_.length pc3, .slice p4 N.begun.length pc4, .slice p5 N.done.length pc5]) N], [(5, .bool true), (7, v7), (9, .int .i64 (wd : Nat)), (10, .pointer (some ⟨b10, 0, none⟩)), (18, .int .i64 j)], [(b10, Ob [.slice p1 N.sets.length pc1, .slice p2 N.left.length pc2, .slice p3 N.at_.length pc3, .slice p4 N.begun.length pc4, .slice p5 N.done.length pc5] 79)])) (fun j => j ≤ C.length ∧ j ≤ wd) (fun j => C.length - j) 0 ⟨Nat.zero_le _, Nat.zero_le _⟩ inferInstance (look_sub_cons rfl (look_sub_cons rfl (look_sub_cons rfl (look_sub_cons rfl (look_sub_cons rfl look_sub_nil))))) (List.Sublist.refl _) ?_
    rintro j ⟨hj, hjW⟩
    dsimp only
    by_cases hj0 : j = C.length
    · repeat (first | refine stp ?_ | (refine sti ?_; intro _) | refine stf ?_ | (refine stb ?_; intro _))
      refine G.ret rfl (.cons (.tmp rfl) .nil) (Φ' := []) (M' := []) inferInstance (List.nil_sublist _) ⟨?_, rfl, rfl⟩
      rfl
    have hj1 : j < C.length := by omega
    by_cases hj2 : j = wd
    · repeat (first | refine stp ?_ | (refine sti ?_; intro _) | refine stf ?_ | (refine stb ?_; intro _))
      refine G.ret rfl (.cons (.tmp rfl) .nil) (Φ' := []) (M' := []) inferInstance (List.nil_sublist _) ⟨?_, rfl, rfl⟩
      rfl
    have hj3 : j < wd := by omega
    obtain ⟨his, hleft⟩ := hpk j (by omega) hj3
    have hpj := fun u => hpks u j
    rw [his] at hpj
    generalize pickR N (j : Int) = P at hpj hleft
    have hPl : P.left.length = C.length := by rw [hleft, List.length_set]
    have hPj : P.left[j]'(by omega) = C[j] - 1 := by
      have := getD_at C 0 hj1
      simp only [hleft, List.getElem_set_self, this]
    have hjP : j < P.left.length := by omega
    have hb1 := hcin _ (List.getElem_mem hj1)
    repeat (first | refine stp ?_ | (refine sti ?_; intro _) | refine stf ?_ | (refine stb ?_; intro _))
    refine OpK.call rfl rfl rfl rfl (hpj _) inferInstance (Mr := _) (List.Perm.refl _) ?_
    rintro u Φ' Mc' ⟨vP, rfl, rfl, rfl⟩
    dsimp only [List.cons_append, List.nil_append]
    refine G.lot vP P ?_
    intro q1 qc1 q2 qc2 q3 qc3 q4 qc4 q5 qc5 e
    subst e
    refine G.slice v7 C ?_
    intro a7 c7 e _
    subst e
    repeat (first | refine stp ?_ | (refine sti ?_; intro _) | refine stf ?_ | (refine stb ?_; intro _))
    refine W.draw 27 (⟨?v0_2, fun _ z => []⟩ :: ⟨?v1_2, fun _ z => []⟩ :: ⟨?v2_2, fun _ z => []⟩ :: ⟨?v3_2, fun _ z => []⟩ :: ⟨?v4_2, fun _ z => []⟩ :: ⟨?v5_2, fun _ z => []⟩ :: ⟨?v6_2, fun _ z => []⟩ :: ⟨?v7_2, fun _ z => []⟩ :: ⟨?v8_2, fun _ z => []⟩ :: ⟨?v9_2, fun _ z => []⟩ :: ⟨?v10_2, fun _ z => []⟩ :: ⟨?v11_2, fun _ z => []⟩ :: ⟨?v12_2, fun _ z => []⟩ :: ⟨?v13_2, fun _ z => []⟩ :: ⟨?v14_2, fun _ z => []⟩ :: ⟨?v15_2, fun _ z => []⟩ :: ⟨?v16_2, fun _ z => []⟩ :: ⟨?v17_2, fun _ z => []⟩ :: ⟨fun _ z => z, fun _ z => [fPt z P.left[j]]⟩ :: ⟨?v19_2, fun _ z => []⟩ :: ⟨?v20_2, fun _ z => []⟩ :: ⟨?v21_2, fun _ z => []⟩ :: ⟨fun _ z => z, fun _ z => [fPt z C[j]]⟩ :: ⟨?v23_2, fun _ z => []⟩ :: ⟨?v24_2, fun _ z => []⟩ :: ⟨?v25_2, fun _ z => []⟩ :: ⟨?v26_2, fun _ z => []⟩ :: []) ([] :: [0] :: [1] :: [2] :: [2, 3] :: [2, 4] :: [5] :: [6] :: [6, 7] :: [6, 8] :: [6] :: [6, 10] :: [6, 9, 11] :: [6, 12] :: [13] :: [14] :: [14, 15] :: [14] :: [14, 16, 17] :: [14, 18] :: [14] :: [14] :: [14, 20, 21] :: [14, 22] :: [14, 23] :: [14, 19, 24] :: [14, 25] :: []) [26] (by kernel_rfl) (by kernel_rfl) (by kernel_rfl) (by kernel_rfl) ?loc_2 ?ops_2 ?rest_2
    case ops_2 =>
      refine AllQ.mk ?_ (AllQ.mk ?_ (AllQ.mk ?_ (AllQ.mk ?_ (AllQ.mk ?_ (AllQ.mk ?_ (AllQ.mk ?_ (AllQ.mk ?_ (AllQ.mk ?_ (AllQ.mk ?_ (AllQ.mk ?_ (AllQ.mk ?_ (AllQ.mk ?_ (AllQ.mk ?_ (AllQ.mk ?_ (AllQ.mk ?_ (AllQ.mk ?_ (AllQ.mk ?_ (AllQ.mk ?_ (AllQ.mk ?_ (AllQ.mk ?_ (AllQ.mk ?_ (AllQ.mk ?_ (AllQ.mk ?_ (AllQ.mk ?_ (AllQ.mk ?_ (AllQ.mk ?_ (AllQ.nil)))))))))))))))))))))))))))
      all_goals (intro c z0 Φr Lr K hK; dsimp only [dstOf, kval, kfac, ancE, ancF, getD_z, getD_s, List.getElem?_cons_zero, List.getElem?_cons_succ, List.getElem?_nil, Option.getD_some, Option.getD_none, List.nil_append, List.cons_append, Option.getD] at hK ⊢)
      iterate 18 ((first | refine stp ?_ | refine stf ?_); exact hK z0)
      · refine o_idxN j rfl rfl rfl rfl rfl hjP ?_; intro p; exact hK _
      iterate 3 ((first | refine stp ?_ | refine stf ?_); exact hK z0)
      · refine o_idxN j rfl rfl rfl rfl rfl hj1 ?_; intro p; exact hK _
      iterate 4 ((first | refine stp ?_ | refine stf ?_); exact hK z0)
    case loc_2 =>
      refine AllL.mk ?_ (AllL.mk ?_ (AllL.mk ?_ (AllL.mk ?_ (AllL.mk ?_ (AllL.mk ?_ (AllL.mk ?_ (AllL.mk ?_ (AllL.mk ?_ (AllL.mk ?_ (AllL.mk ?_ (AllL.mk ?_ (AllL.mk ?_ (AllL.mk ?_ (AllL.mk ?_ (AllL.mk ?_ (AllL.mk ?_ (AllL.mk ?_ (AllL.mk ?_ (AllL.mk ?_ (AllL.mk ?_ (AllL.mk ?_ (AllL.mk ?_ (AllL.mk ?_ (AllL.mk ?_ (AllL.mk ?_ (AllL.mk ?_ (AllL.nil)))))))))))))))))))))))))))
      all_goals (intro c c' z h; first | exact ⟨rfl, rfl⟩ | (skip))
    intro c
    dsimp only [dstOf, kval, kfac, ancE,  ancF, getD_z, getD_s, List.getElem?_cons_zero, List.getElem?_cons_succ, List.getElem?_nil, Option.getD_some, Option.getD_none, List.nil_append, List.cons_append, List.drop_succ_cons, List.drop_zero, Option.getD]
    repeat (first | refine stp ?_ | (refine sti ?_; intro _) | refine stf ?_ | (refine stb ?_; intro _))
    exact G.again (S := Nat) (j + 1) (by omega) ⟨hj1, hj3⟩ inferInstance (look_sub_cons rfl (look_sub_cons rfl (look_sub_cons rfl (look_sub_cons rfl (look_sub_cons rfl look_sub_nil))))) (.cons _ (List.Sublist.refl _))
end Go.Rail
